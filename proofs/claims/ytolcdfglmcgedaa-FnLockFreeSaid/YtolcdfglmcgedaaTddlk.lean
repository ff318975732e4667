/- TH: draws: locks. Made by gen.py. -/
import Derived.Test.YtolcdfglmcgedaaTf3
import Derived.Test.YtolcdfglmcgedaaTdlk8
import Derived.Test.YtolcdfglmcgedaaTdd1
import Derived.Test.YtolcdfglmcgedaaTf4
namespace Go.TH
open Go Go.Proofs
set_option linter.unusedSimpArgs false
set_option linter.unusedVariables false
set_option maxHeartbeats 20000000
set_option maxRecDepth 100000
theorem d_ask {H : AH} {nx rid : Nat} {bs : ByteArray} {p n : Int} (hr : rid < nx) (hH : H rid = .live 0 [.sl bs.size false (bytesCells bs), .int .i64 (p)]) (hp0 : 0 ≤ p) (hp : p ≤ 900000000) (hb : bs.size ≤ 2000) (hn0 : -1000000000 ≤ n) (hn : n ≤ 1000000000) :
    ACallD Try.prog 99 [.ptr rid 0 0, .int .i64 n] H nx (fun r H' nx' => ∃ (v : GAk) (q : Int), p ≤ q ∧ q ≤ p + 10 ∧ r = .agg [.int .i64 v.who, .int .i64 v.key, .int .i64 v.kind] ∧ H' = upd H rid (.live 0 [.sl bs.size false (bytesCells bs), .int .i64 (q)]) ∧ nx' = nx) := by
  refine ACallD.finR 1 rid hr ?_
  refine dcall_body mixed Try.func99 _ (by unfold Try.f99; rfl) Try.ntmps99 Try.results99 (by decide) (by simp) ?_
  simp (maxSteps := 4000000) (disch := omega) only [go_sem, w64, AndB_of, IfB_of, IfB_no, pickE_of, pickE_no, ite_of, ite_no, tdivE, tmodE, takeAll]
  repeat' (first | (refine IfB.dec (fun h => ?_) (fun h => ?_) <;> (try (have h2 := h; unfold inR at h2)) <;> (try simp (maxSteps := 4000000) (disch := omega) only [go_sem, w64, AndB_of, IfB_of, IfB_no, pickE_of, pickE_no, ite_of, ite_no, tdivE, tmodE, takeAll, h])) | (refine IfB.split (fun h => ?_) (fun h => ?_) <;> (try simp (maxSteps := 4000000) (disch := omega) only [go_sem, w64, AndB_of, IfB_of, IfB_no, pickE_of, pickE_no, ite_of, ite_no, tdivE, tmodE, takeAll, h])) | (apply CallB.law; (focus (apply d_pick; (repeat (first | exact hH | exact upd_same _ _ _ | rw [upd_ne _ _ (by omega)])); all_goals omega)); rintro _ _ _ ⟨x, hx0, hx1, rfl, rfl, rfl⟩; simp (maxSteps := 4000000) (disch := omega) only [go_sem, w64, AndB_of, IfB_of, IfB_no, pickE_of, pickE_no, ite_of, ite_no, tdivE, tmodE, takeAll]) | (apply CallB.law; (focus (apply d_odd; (repeat (first | exact hH | exact upd_same _ _ _ | rw [upd_ne _ _ (by omega)])); all_goals omega)); rintro _ _ _ ⟨x, q, hq0, hq1, rfl, rfl, rfl⟩; simp (maxSteps := 4000000) (disch := omega) only [go_sem, w64, AndB_of, IfB_of, IfB_no, pickE_of, pickE_no, ite_of, ite_no, tdivE, tmodE, takeAll]))
  all_goals refine ⟨_, _, (by repeat (first | exact OldR.base hH | refine OldR.set ?_ | refine OldR.new (by omega) ?_ | exact OldW.refl | refine OldW.new (by omega) ?_ | refine OldW.rd ?_)), (by simp [pureL, pureA, bytesCells_pure]), ?_⟩
  all_goals exact ⟨⟨_, _, _⟩, _, by omega, by omega, rfl, rfl⟩
theorem d_locks {H : AH} {nx rid : Nat} {bs : ByteArray} {p n : Int} (hr : rid < nx) (hH : H rid = .live 0 [.sl bs.size false (bytesCells bs), .int .i64 (p)]) (hp0 : 0 ≤ p) (hp : p ≤ 500000000) (hb : bs.size ≤ 2000) (hn0 : -1000000000 ≤ n) (hn : n ≤ 1000000000) :
    ACallD Try.prog 61 [.ptr rid 0 0, .int .i64 n] H nx (fun r H' nx' => ∃ (l : GLk) (q : Int), p ≤ q ∧ q ≤ p + 1000 ∧ l.held.length + l.queue.length ≤ 20 ∧ r = .agg [asksA l.held, asksA l.queue] ∧ H' = upd H rid (.live 0 [.sl bs.size false (bytesCells bs), .int .i64 (q)]) ∧ nx' = nx) := by
  refine ACallD.loose ?_
  refine ACallD.finR 1 rid hr ?_
  refine wcall_body mixed Try.func61 _ (by unfold Try.f61; rfl) Try.ntmps61 Try.results61 (by decide) (by simp) ?_
  simp (maxSteps := 4000000) (disch := omega) only [go_sem, w64, AndB_of, IfB_of, IfB_no, pickE_of, pickE_no, ite_of, ite_no, tdivE, tmodE, takeAll]
  refine AW.step ?_
  simp (maxSteps := 4000000) (disch := omega) only [go_sem, w64, AndB_of, IfB_of, IfB_no, pickE_of, pickE_no, ite_of, ite_no, tdivE, tmodE, takeAll]
  refine AW.step ?_
  simp (maxSteps := 4000000) (disch := omega) only [go_sem, w64, AndB_of, IfB_of, IfB_no, pickE_of, pickE_no, ite_of, ite_no, tdivE, tmodE, takeAll]
  refine AW.cut (fun zs => (heapOf zs, nxOf zs, intOf (nthA (cellsOf (blkOf zs (rid))) 1), nthA (cellsOf (blkOf zs (nx+1))) 0, nthA (cellsOf (blkOf zs (nx+1))) 1)) (fun zz => [(0, none), (0, none), (2, none), (0, none)]) (fun zz => zz.1) (fun zz => zz.2.1) (fun zz => nx + 2 ≤ zz.2.1 ∧ p ≤ zz.2.2.1 ∧ zz.2.2.1 ≤ p + 500 ∧ zz.1 rid = .live 0 [.sl bs.size false (bytesCells bs), .int .i64 (zz.2.2.1)] ∧ zz.1 nx = .live 0 [.sl 0 true [], .sl 0 true []] ∧ zz.1 (nx + 1) = .live 0 [zz.2.2.2.1, zz.2.2.2.2] ∧ (∀ i, i < nx → i ≠ rid → zz.1 i = H i) ∧ ∃ L, Lks zz.1 (nx + 2) zz.2.1 L zz.2.2.2.1 zz.2.2.2.2 ∧ L.held.length + L.queue.length ≤ 14) ?zcut0 ?_
  case' zcut0 => simp (maxSteps := 4000000) (disch := omega) only [go_sem, w64, AndB_of, IfB_of, IfB_no, pickE_of, pickE_no, ite_of, ite_no, tdivE, tmodE, takeAll]
  · apply CallB.law; (focus (apply d_pick; (repeat (first | exact hH | exact upd_same _ _ _ | rw [upd_ne _ _ (by omega)])); all_goals omega)); rintro _ _ _ ⟨x, hx0, hx1, rfl, rfl, rfl⟩
    simp (maxSteps := 4000000) (disch := omega) only [go_sem, w64, AndB_of, IfB_of, IfB_no, pickE_of, pickE_no, ite_of, ite_no, tdivE, tmodE, takeAll]
    refine LoopB.auto (fun zs => (heapOf zs, nxOf zs, intOf (slotOf zs 6), intOf (nthA (cellsOf (blkOf zs (rid))) 1), nthA (cellsOf (blkOf zs (nx+1))) 0, nthA (cellsOf (blkOf zs (nx+1))) 1)) (fun zz => [(0, none), (0, none), (2, none), (0, none), (0, some (.int .i64 (zz.2.2.1 : Int)))]) (fun zz => zz.1) (fun zz => zz.2.1) (fun zz => zz.2.2.1.toNat) (fun zz => nx + 2 ≤ zz.2.1 ∧ 0 ≤ zz.2.2.1 ∧ p ≤ zz.2.2.2.1 ∧ zz.2.2.2.1 + 30 * zz.2.2.1 ≤ p + 500 ∧ zz.1 rid = .live 0 [.sl bs.size false (bytesCells bs), .int .i64 (zz.2.2.2.1)] ∧ zz.1 nx = .live 0 [.sl 0 true [], .sl 0 true []] ∧ zz.1 (nx + 1) = .live 0 [zz.2.2.2.2.1, zz.2.2.2.2.2] ∧ (∀ i, i < nx → i ≠ rid → zz.1 i = H i) ∧ ∃ L, Lks zz.1 (nx + 2) zz.2.1 L zz.2.2.2.2.1 zz.2.2.2.2.2 ∧ L.held.length + L.queue.length + zz.2.2.1 ≤ 14) (by (first | simp (maxSteps := 4000000) (disch := omega) only [go_sem, w64, AndB_of, IfB_of, IfB_no, pickE_of, pickE_no, ite_of, ite_no, tdivE, tmodE, takeAll, hH] | simp (maxSteps := 4000000) (disch := omega) only [go_sem, w64, AndB_of, IfB_of, IfB_no, pickE_of, pickE_no, ite_of, ite_no, tdivE, tmodE, takeAll]); ((repeat' apply And.intro) <;> first | (intro i h1 h2; (repeat (first | rw [if_neg (by omega)] | rw [upd_ne _ _ (by omega)])); done) | (refine ⟨⟨[], []⟩, Lks.nil, ?_⟩; simp; omega) | (exact Weak.go (by (first | (simp [wkL]; done) | (simp [wkL]; omega))) (fun zi => by first | exact .inl rfl | exact .inr rfl | (simp only [upd]; repeat' split) <;> first | (intro i h1 h2; (repeat (first | rw [if_neg (by omega)] | rw [upd_ne _ _ (by omega)])); done) | (refine ⟨⟨[], []⟩, Lks.nil, ?_⟩; simp; omega) | exact .inl rfl | exact .inr rfl | (exfalso; omega) | exact .inr (hd _ (by omega)) | (left; subst_vars; exact hH.symm) | (left; subst_vars; rfl) | (left; simp; done) | (left; simp; omega)) (by omega)) | omega | rfl | assumption | exact Flat.nil | exact ⟨_, rfl, rfl, by assumption⟩ | (simp; done) | (simp; omega))) ?_
    intro zz zh
    obtain ⟨h, y, k, q, xv, yv⟩ := zz
    dsimp only at zh
    obtain ⟨hy, hk, hq0, hq1, hrd, h0, h1, hfr, L, hL, hLn⟩ := zh
    simp (maxSteps := 4000000) (disch := omega) only [go_sem, w64, AndB_of, IfB_of, IfB_no, pickE_of, pickE_no, ite_of, ite_no, tdivE, tmodE, takeAll]
    refine IfB.dec (fun c1 => ?_) (fun c1 => ?_)
    case refine_1 =>
      have hld : ∀ i, nx + 2 ≤ i → i < y → i ≠ rid ∧ i ≠ nx + 1 := fun i g1 g2 => by omega
      simp (maxSteps := 4000000) (disch := omega) only [go_sem, w64, AndB_of, IfB_of, IfB_no, pickE_of, pickE_no, ite_of, ite_no, tdivE, tmodE, takeAll, h1]
      refine DrawB.intro [2, 3, 7] [6, 7] (inN rid y) (by kernel_rfl) ?_
      simp (maxSteps := 4000000) (disch := omega) only [go_sem, w64, AndB_of, IfB_of, IfB_no, pickE_of, pickE_no, ite_of, ite_no, tdivE, tmodE, takeAll, h1]
      refine CallB.law (d_ask (by omega) hrd (by omega) (by omega) hb (by omega) (by omega)) ?_
      rintro _ _ y ⟨a, q2, ha1, ha2, rfl, rfl, rfl⟩
      simp (maxSteps := 4000000) (disch := omega) only [go_sem, w64, AndB_of, IfB_of, IfB_no, pickE_of, pickE_no, ite_of, ite_no, tdivE, tmodE, takeAll, h1]
      have hL2 := hL.congr (h' := upd h rid (.live 0 [.sl bs.size false (bytesCells bs), .int .i64 (q2)])) fun i g1 g2 => upd_ne _ _ (hld i g1 g2).1
      have e1 := o_LockAskS L (by omega) (by omega) a
      have hle := lockAsk_len (l := L) (a := a)
      simp only [GLk.c, GAk.c] at e1
      refine CallB.freshS (Pict.cons hL2.own.1.pict (Pict.cons (Pict.pure rfl) Pict.nil)) e1 fun r H2 n2 hO hs hn2 hH2 => ?_
      obtain ⟨a0, rfl, hO2⟩ := hO.tup2 rfl
      obtain ⟨x2, y2, rfl, hL3⟩ := Lks.of hO2 (by simpa [slOk, slOkL] using hs)
      have b1 : H2 (nx + 1) = .live 0 [xv, yv] := by rw [hH2 _ (by omega), upd_ne _ _ (by omega)]; exact h1
      have b2 : H2 rid = .live 0 [.sl bs.size false (bytesCells bs), .int .i64 (q2)] := by rw [hH2 _ (by omega), upd_same]
      have hmk : maskH (inN rid y) H2 = maskH (inN rid y) (upd h rid (.live 0 [.sl bs.size false (bytesCells bs), .int .i64 (q2)])) := maskN_eq fun i g1 g2 => hH2 i g1
      simp (maxSteps := 4000000) (disch := omega) only [go_sem, w64, AndB_of, IfB_of, IfB_no, pickE_of, pickE_no, ite_of, ite_no, tdivE, tmodE, takeAll, hmk, b1]
      obtain ⟨h5, eh5⟩ : ∃ h5 : AH, h5 = upd H2 (nx + 1) (.live 0 [x2, y2]) := ⟨_, rfl⟩
      rw [← eh5]
      have c5 : h5 rid = .live 0 [.sl bs.size false (bytesCells bs), .int .i64 (q2)] := by rw [eh5, upd_ne _ _ (by omega)]; exact b2
      have c50 : h5 nx = .live 0 [.sl 0 true [], .sl 0 true []] := by rw [eh5, upd_ne _ _ (by omega), hH2 _ (by omega), upd_ne _ _ (by omega)]; exact h0
      have c51 : h5 (nx + 1) = .live 0 [x2, y2] := by rw [eh5, upd_same]
      have c5f : ∀ i, i < nx → i ≠ rid → h5 i = H i := fun i g1 g2 => by rw [eh5, upd_ne _ _ (by omega), hH2 _ (by omega), upd_ne _ _ g2]; exact hfr i g1 g2
      have hL5 : Lks h5 (nx + 2) n2 (lockAsk L a).1 x2 y2 := (hL3.congr (h' := h5) fun i g1 g2 => by rw [eh5, upd_ne _ _ (by omega)]).mono (by omega) (by omega)
      obtain ⟨L5, eL5⟩ : ∃ L5, L5 = (lockAsk L a).1 := ⟨_, rfl⟩
      rw [← eL5] at hL5 hle
      have hL5n : L5.held.length + L5.queue.length + k ≤ 15 := by omega
      clear hL3 hO hO2 hs e1 hmk hH2 b1 b2 hL2 eh5 eL5 hle
      refine CallB.law (d_pick (p := q2) c5 (by omega) (by omega) hb (by omega) (by omega)) ?_
      rintro _ _ n2 ⟨x1, hx10, hx11, rfl, rfl, rfl⟩
      simp (maxSteps := 4000000) (disch := omega) only [go_sem, w64, AndB_of, IfB_of, IfB_no, pickE_of, pickE_no, ite_of, ite_no, tdivE, tmodE, takeAll]
      refine IfB.dec (fun c2 => ?_) (fun c2 => ?_)
      case refine_2 =>
        simp (maxSteps := 4000000) (disch := omega) only [go_sem, w64, AndB_of, IfB_of, IfB_no, pickE_of, pickE_no, ite_of, ite_no, tdivE, tmodE, takeAll, c51]
        ((repeat' apply And.intro) <;> first | exact c50 | (intro i g1 g2; rw [if_neg g2]; exact c5f i g1 g2) | (exact ⟨L5, hL5.congr (fun i g1 g2 => upd_ne _ _ (by omega)), by omega⟩) | (exact Weak.go (by (first | (simp [wkL]; done) | (simp [wkL]; omega))) (fun zi => by first | exact .inl rfl | exact .inr rfl | (simp only [upd]; repeat' split) <;> first | exact c50 | (intro i g1 g2; rw [if_neg g2]; exact c5f i g1 g2) | (exact ⟨L5, hL5.congr (fun i g1 g2 => upd_ne _ _ (by omega)), by omega⟩) | exact .inl rfl | exact .inr rfl | (exfalso; omega) | exact .inr (hd _ (by omega)) | (left; subst_vars; exact hH.symm) | (left; subst_vars; rfl) | (left; simp; done) | (left; simp; omega)) (by omega)) | omega | rfl | assumption | exact Flat.nil | exact ⟨_, rfl, rfl, by assumption⟩ | (simp; done) | (simp; omega))
      simp (maxSteps := 4000000) (disch := omega) only [go_sem, w64, AndB_of, IfB_of, IfB_no, pickE_of, pickE_no, ite_of, ite_no, tdivE, tmodE, takeAll, c51]
      refine DrawB.intro [2, 3, 4] [4] (inN rid n2) (by kernel_rfl) ?_
      simp (maxSteps := 4000000) (disch := omega) only [go_sem, w64, AndB_of, IfB_of, IfB_no, pickE_of, pickE_no, ite_of, ite_no, tdivE, tmodE, takeAll, c51]
      refine CallB.law (d_pick (p := q2 + 1) (upd_same _ _ _) (by omega) (by omega) hb (by omega) (by omega)) ?_
      rintro _ _ n2 ⟨x3, hx30, hx31, rfl, rfl, rfl⟩
      simp (maxSteps := 4000000) (disch := omega) only [go_sem, w64, AndB_of, IfB_of, IfB_no, pickE_of, pickE_no, ite_of, ite_no, tdivE, tmodE, takeAll, c51, upd_upd]
      have hL6 := hL5.congr (h' := upd h5 rid (.live 0 [.sl bs.size false (bytesCells bs), .int .i64 (q2 + 1 + 1)])) fun i g1 g2 => upd_ne _ _ (by omega)
      have e6 := o_LockFreeS L5 (by omega) x3
      have hle6 := lockFree_len (l := L5) (w := x3)
      simp only [GLk.c] at e6
      refine CallB.freshS (Pict.cons hL6.own.1.pict (Pict.cons (Pict.pure rfl) Pict.nil)) e6 fun r H7 n7 hO hs hn7 hH7 => ?_
      obtain ⟨x4, y4, rfl, hL7⟩ := Lks.of hO hs
      have b1 : H7 (nx + 1) = .live 0 [x2, y2] := by rw [hH7 _ (by omega), upd_ne _ _ (by omega)]; exact c51
      have b2 : H7 rid = .live 0 [.sl bs.size false (bytesCells bs), .int .i64 (q2 + 1 + 1)] := by rw [hH7 _ (by omega), upd_same]
      have b3 : H7 nx = .live 0 [.sl 0 true [], .sl 0 true []] := by rw [hH7 _ (by omega), upd_ne _ _ (by omega)]; exact c50
      have hmk : maskH (inN rid n2) H7 = maskH (inN rid n2) (upd h5 rid (.live 0 [.sl bs.size false (bytesCells bs), .int .i64 (q2 + 1 + 1)])) := maskN_eq fun i g1 g2 => hH7 i g1
      simp (maxSteps := 4000000) (disch := omega) only [go_sem, w64, AndB_of, IfB_of, IfB_no, pickE_of, pickE_no, ite_of, ite_no, tdivE, tmodE, takeAll, hmk, b1, b2, b3]
      have c7f : ∀ i, i < nx → i ≠ rid → H7 i = H i := fun i g1 g2 => by rw [hH7 _ (by omega), upd_ne _ _ g2]; exact c5f i g1 g2
      have hL8 := (hL7.congr (h' := upd H7 (nx + 1) (.live 0 [x4, y4])) fun i g1 g2 => upd_ne _ _ (by omega)).mono (lo' := nx + 2) (hi' := n7) (by omega) (by omega)
      ((repeat' apply And.intro) <;> first | (intro i g1 g2; rw [if_neg (by omega)]; exact c7f i g1 g2) | (exact ⟨_, hL8, by omega⟩) | (exact Weak.go (by (first | (simp [wkL]; done) | (simp [wkL]; omega))) (fun zi => by first | exact .inl rfl | exact .inr rfl | (simp only [upd]; repeat' split) <;> first | (intro i g1 g2; rw [if_neg (by omega)]; exact c7f i g1 g2) | (exact ⟨_, hL8, by omega⟩) | exact .inl rfl | exact .inr rfl | (exfalso; omega) | exact .inr (hd _ (by omega)) | (left; subst_vars; exact hH.symm) | (left; subst_vars; rfl) | (left; simp; done) | (left; simp; omega)) (by omega)) | omega | rfl | assumption | exact Flat.nil | exact ⟨_, rfl, rfl, by assumption⟩ | (simp; done) | (simp; omega))
    · simp (maxSteps := 4000000) (disch := omega) only [go_sem, w64, AndB_of, IfB_of, IfB_no, pickE_of, pickE_no, ite_of, ite_no, tdivE, tmodE, takeAll, h1, hrd]
      ((repeat' apply And.intro) <;> first | exact hrd | exact h0 | exact hfr | exact ⟨L, hL, by omega⟩ | (exact Weak.go (by (first | (simp [wkL]; done) | (simp [wkL]; omega))) (fun zi => by first | exact .inl rfl | exact .inr rfl | (simp only [upd]; repeat' split) <;> first | exact hrd | exact h0 | exact hfr | exact ⟨L, hL, by omega⟩ | exact .inl rfl | exact .inr rfl | (exfalso; omega) | exact .inr (hd _ (by omega)) | (left; subst_vars; exact hH.symm) | (left; subst_vars; rfl) | (left; simp; done) | (left; simp; omega)) (by omega)) | omega | rfl | assumption | exact Flat.nil | exact ⟨_, rfl, rfl, by assumption⟩ | (simp; done) | (simp; omega))
  intro zz zh
  obtain ⟨h, y, q, xv, yv⟩ := zz
  dsimp only at zh
  obtain ⟨hy, hq0, hq1, hrd, h0, h1, hfr, L, hL, hLn⟩ := zh
  simp (maxSteps := 4000000) (disch := omega) only [go_sem, w64, AndB_of, IfB_of, IfB_no, pickE_of, pickE_no, ite_of, ite_no, tdivE, tmodE, takeAll]
  have hH := hrd
  refine AW.cut (fun zs => (heapOf zs, nxOf zs, intOf (nthA (cellsOf (blkOf zs (rid))) 1), nthA (cellsOf (blkOf zs (nx+1))) 0, nthA (cellsOf (blkOf zs (nx+1))) 1)) (fun zz => [(4, none), (0, none)]) (fun zz => zz.1) (fun zz => zz.2.1) (fun zz => nx + 2 ≤ zz.2.1 ∧ p ≤ zz.2.2.1 ∧ zz.2.2.1 ≤ p + 600 ∧ zz.1 rid = .live 0 [.sl bs.size false (bytesCells bs), .int .i64 (zz.2.2.1)] ∧ zz.1 nx = .live 0 [.sl 0 true [], .sl 0 true []] ∧ zz.1 (nx + 1) = .live 0 [zz.2.2.2.1, zz.2.2.2.2] ∧ (∀ i, i < nx → i ≠ rid → zz.1 i = H i) ∧ ∃ L : GLk, LkF zz.1 nx zz.2.2.2.1 zz.2.2.2.2 L ∧ L.held.length + L.queue.length ≤ 20) ?zcut1 ?_
  case' zcut1 => simp (maxSteps := 4000000) (disch := omega) only [go_sem, w64, AndB_of, IfB_of, IfB_no, pickE_of, pickE_no, ite_of, ite_no, tdivE, tmodE, takeAll]
  · obtain ⟨S1, S2, k1, k2, k3, k4, k5⟩ := hL.ex
    have kx := Kp1.of (nx := nx) (k1.toR (ex := true)) (fun i hi => (k3 i hi).1)
    have ky := Kp1.of (nx := nx) (k2.toR (ex := true)) (fun i hi => (k4 i hi).1)
    have ccx := hL.cells.1
    have ccy := hL.cells.2
    refine CallB.law (d_odd (p := q) hrd (by omega) (by omega) hb (by omega) (by omega)) ?_
    rintro _ _ y ⟨b, q2, hb0, hb1, rfl, rfl, rfl⟩
    simp (maxSteps := 4000000) (disch := omega) only [go_sem, w64, AndB_of, IfB_of, IfB_no, pickE_of, pickE_no, ite_of, ite_no, tdivE, tmodE, takeAll]
    refine IfB.split (fun c1 => ?_) (fun c1 => ?_)
    case refine_2 =>
      simp (maxSteps := 4000000) (disch := omega) only [go_sem, w64, AndB_of, IfB_of, IfB_no, pickE_of, pickE_no, ite_of, ite_no, tdivE, tmodE, takeAll, h1]
      ((repeat' apply And.intro) <;> first | exact h0 | (intro j g1 g2; (repeat rw [if_neg (by omega)]); exact hfr j g1 g2) | exact ⟨L, LkF.mk2 ((k1.toR (ex := true)).congr fun j hj => by have g4 := k3 j hj; repeat rw [upd_ne _ _ (by omega)]) ((k2.toR (ex := true)).congr fun j hj => by have g4 := k4 j hj; repeat rw [upd_ne _ _ (by omega)]) (fun j hj => (k3 j hj).1) (fun j hj => (k4 j hj).1), by omega⟩ | (exact Weak.go (by (first | (simp [wkL]; done) | (simp [wkL]; omega))) (fun zi => by first | exact .inl rfl | exact .inr rfl | (simp only [upd]; repeat' split) <;> first | exact h0 | (intro j g1 g2; (repeat rw [if_neg (by omega)]); exact hfr j g1 g2) | exact ⟨L, LkF.mk2 ((k1.toR (ex := true)).congr fun j hj => by have g4 := k3 j hj; repeat rw [upd_ne _ _ (by omega)]) ((k2.toR (ex := true)).congr fun j hj => by have g4 := k4 j hj; repeat rw [upd_ne _ _ (by omega)]) (fun j hj => (k3 j hj).1) (fun j hj => (k4 j hj).1), by omega⟩ | exact .inl rfl | exact .inr rfl | (exfalso; omega) | exact .inr (hd _ (by omega)) | (left; subst_vars; exact hH.symm) | (left; subst_vars; rfl) | (left; simp; done) | (left; simp; omega)) (by omega)) | omega | rfl | assumption | exact Flat.nil | exact ⟨_, rfl, rfl, by assumption⟩ | (simp; done) | (simp; omega))
    simp (maxSteps := 4000000) (disch := omega) only [go_sem, w64, AndB_of, IfB_of, IfB_no, pickE_of, pickE_no, ite_of, ite_no, tdivE, tmodE, takeAll]
    refine CallB.law (d_pick (p := q2) (upd_same _ _ _) (by omega) (by omega) hb (by omega) (by omega)) ?_
    rintro _ _ y ⟨x, hx0, hx1, rfl, rfl, rfl⟩
    simp (maxSteps := 4000000) (disch := omega) only [go_sem, w64, AndB_of, IfB_of, IfB_no, pickE_of, pickE_no, ite_of, ite_no, tdivE, tmodE, takeAll, upd_upd]
    refine IfB.dec (fun c2 => ?_) (fun c2 => ?_)
    · simp (maxSteps := 4000000) (disch := omega) only [go_sem, w64, AndB_of, IfB_of, IfB_no, pickE_of, pickE_no, ite_of, ite_no, tdivE, tmodE, takeAll, h1]
      refine DrawB.intro [3, 4, 5, 7] [7] (inN rid (nx + 2)) (by kernel_rfl) ?_
      simp (maxSteps := 4000000) (disch := omega) only [go_sem, w64, AndB_of, IfB_of, IfB_no, pickE_of, pickE_no, ite_of, ite_no, tdivE, tmodE, takeAll, h1]
      refine CallB.law (d_ask (p := q2 + 1) (by omega) (upd_same _ _ _) (by omega) (by omega) hb (by omega) (by omega)) ?_
      rintro _ _ y ⟨a, q3, ha1, ha2, rfl, rfl, rfl⟩
      simp (maxSteps := 4000000) (disch := omega) only [go_sem, w64, AndB_of, IfB_of, IfB_no, pickE_of, pickE_no, ite_of, ite_no, tdivE, tmodE, takeAll, h1, upd_upd]
      cases k1 with
      | @msl i v ei =>
        have ki := k3 i (by simp)
        simp (maxSteps := 4000000) (disch := omega) only [go_sem, w64, AndB_of, IfB_of, IfB_no, pickE_of, pickE_no, ite_of, ite_no, tdivE, tmodE, takeAll, h1, ei]
        have ef : flat GAk.c L.held ++ [.int .i64 a.who, .int .i64 a.key, .int .i64 a.kind] = flat GAk.c (L.held ++ [a]) := by rw [flat_append]; simp [flat, GAk.c]
        have el : (L.held ++ [a]).length = L.held.length + 1 := by simp
        have hne : ∀ j, j ∈ S2 → j ≠ i := fun j hj e => k5 i (by simp) (e ▸ hj)
        rw [ef, ← el]
        ((repeat' apply And.intro) <;> first | exact h0 | (intro j g1 g2; (repeat rw [if_neg (by omega)]); exact hfr j g1 g2) | exact ⟨⟨L.held ++ [a], L.queue⟩, LkF.mk2 (.msl (l := L.held ++ [a]) (i := i) (v := v + 1) (rest := []) (by rw [List.append_nil]; repeat (first | exact upd_same _ _ _ | rw [upd_ne _ _ (by omega)])) (fun _ => rfl)) ((k2.toR (ex := true)).congr fun j hj => by have g4 := k4 j hj; have g5 := hne j hj; repeat rw [upd_ne _ _ (by omega)]) (fun j hj => by simp at hj; omega) (fun j hj => (k4 j hj).1), by simp only [el]; omega⟩ | (exact Weak.go (by (first | (simp [wkL]; done) | (simp [wkL]; omega))) (fun zi => by first | exact .inl rfl | exact .inr rfl | (simp only [upd]; repeat' split) <;> first | exact h0 | (intro j g1 g2; (repeat rw [if_neg (by omega)]); exact hfr j g1 g2) | exact ⟨⟨L.held ++ [a], L.queue⟩, LkF.mk2 (.msl (l := L.held ++ [a]) (i := i) (v := v + 1) (rest := []) (by rw [List.append_nil]; repeat (first | exact upd_same _ _ _ | rw [upd_ne _ _ (by omega)])) (fun _ => rfl)) ((k2.toR (ex := true)).congr fun j hj => by have g4 := k4 j hj; have g5 := hne j hj; repeat rw [upd_ne _ _ (by omega)]) (fun j hj => by simp at hj; omega) (fun j hj => (k4 j hj).1), by simp only [el]; omega⟩ | exact .inl rfl | exact .inr rfl | (exfalso; omega) | exact .inr (hd _ (by omega)) | (left; subst_vars; exact hH.symm) | (left; subst_vars; rfl) | (left; simp; done) | (left; simp; omega)) (by omega)) | omega | rfl | assumption | exact Flat.nil | exact ⟨_, rfl, rfl, by assumption⟩ | (simp; done) | (simp; omega))
      | nil eq =>
        simp (maxSteps := 4000000) (disch := omega) only [go_sem, w64, AndB_of, IfB_of, IfB_no, pickE_of, pickE_no, ite_of, ite_no, tdivE, tmodE, takeAll, h1]
        have e1 : flat GAk.c [a] = [.int .i64 a.who, .int .i64 a.key, .int .i64 a.kind] := by simp [flat, GAk.c]
        ((repeat' apply And.intro) <;> first | exact h0 | (intro j g1 g2; (repeat rw [if_neg (by omega)]); exact hfr j g1 g2) | exact ⟨⟨[a], L.queue⟩, LkF.mk2 (.msl (l := [a]) (i := y + 1) (v := 0) (rest := []) (by rw [List.append_nil, e1]; repeat (first | exact upd_same _ _ _ | rw [upd_ne _ _ (by omega)])) (fun _ => rfl)) ((k2.toR (ex := true)).congr fun j hj => by have g4 := k4 j hj; repeat rw [upd_ne _ _ (by omega)]) (fun j hj => by simp at hj; omega) (fun j hj => (k4 j hj).1), by simp only [List.length_cons, List.length_nil]; omega⟩ | (exact Weak.go (by (first | (simp [wkL]; done) | (simp [wkL]; omega))) (fun zi => by first | exact .inl rfl | exact .inr rfl | (simp only [upd]; repeat' split) <;> first | exact h0 | (intro j g1 g2; (repeat rw [if_neg (by omega)]); exact hfr j g1 g2) | exact ⟨⟨[a], L.queue⟩, LkF.mk2 (.msl (l := [a]) (i := y + 1) (v := 0) (rest := []) (by rw [List.append_nil, e1]; repeat (first | exact upd_same _ _ _ | rw [upd_ne _ _ (by omega)])) (fun _ => rfl)) ((k2.toR (ex := true)).congr fun j hj => by have g4 := k4 j hj; repeat rw [upd_ne _ _ (by omega)]) (fun j hj => by simp at hj; omega) (fun j hj => (k4 j hj).1), by simp only [List.length_cons, List.length_nil]; omega⟩ | exact .inl rfl | exact .inr rfl | (exfalso; omega) | exact .inr (hd _ (by omega)) | (left; subst_vars; exact hH.symm) | (left; subst_vars; rfl) | (left; simp; done) | (left; simp; omega)) (by omega)) | omega | rfl | assumption | exact Flat.nil | exact ⟨_, rfl, rfl, by assumption⟩ | (simp; done) | (simp; omega))
    simp (maxSteps := 4000000) (disch := omega) only [go_sem, w64, AndB_of, IfB_of, IfB_no, pickE_of, pickE_no, ite_of, ite_no, tdivE, tmodE, takeAll]
    refine IfB.dec (fun c3 => ?_) (fun c3 => ?_)
    · simp (maxSteps := 4000000) (disch := omega) only [go_sem, w64, AndB_of, IfB_of, IfB_no, pickE_of, pickE_no, ite_of, ite_no, tdivE, tmodE, takeAll, h1]
      refine DrawB.intro [3, 4, 5, 7] [7] (inN rid (nx + 2)) (by kernel_rfl) ?_
      simp (maxSteps := 4000000) (disch := omega) only [go_sem, w64, AndB_of, IfB_of, IfB_no, pickE_of, pickE_no, ite_of, ite_no, tdivE, tmodE, takeAll, h1]
      refine CallB.law (d_ask (p := q2 + 1) (by omega) (upd_same _ _ _) (by omega) (by omega) hb (by omega) (by omega)) ?_
      rintro _ _ y ⟨a, q3, ha1, ha2, rfl, rfl, rfl⟩
      simp (maxSteps := 4000000) (disch := omega) only [go_sem, w64, AndB_of, IfB_of, IfB_no, pickE_of, pickE_no, ite_of, ite_no, tdivE, tmodE, takeAll, h1, upd_upd]
      cases k2 with
      | @msl i v ei =>
        have ki := k4 i (by simp)
        simp (maxSteps := 4000000) (disch := omega) only [go_sem, w64, AndB_of, IfB_of, IfB_no, pickE_of, pickE_no, ite_of, ite_no, tdivE, tmodE, takeAll, h1, ei]
        have ef : flat GAk.c L.queue ++ [.int .i64 a.who, .int .i64 a.key, .int .i64 a.kind] = flat GAk.c (L.queue ++ [a]) := by rw [flat_append]; simp [flat, GAk.c]
        have el : (L.queue ++ [a]).length = L.queue.length + 1 := by simp
        have hne : ∀ j, j ∈ S1 → j ≠ i := fun j hj e => k5 j hj (by simp [e])
        rw [ef, ← el]
        ((repeat' apply And.intro) <;> first | exact h0 | (intro j g1 g2; (repeat rw [if_neg (by omega)]); exact hfr j g1 g2) | exact ⟨⟨L.held, L.queue ++ [a]⟩, LkF.mk2 ((k1.toR (ex := true)).congr fun j hj => by have g4 := k3 j hj; have g5 := hne j hj; repeat rw [upd_ne _ _ (by omega)]) (.msl (l := L.queue ++ [a]) (i := i) (v := v + 1) (rest := []) (by rw [List.append_nil]; repeat (first | exact upd_same _ _ _ | rw [upd_ne _ _ (by omega)])) (fun _ => rfl)) (fun j hj => (k3 j hj).1) (fun j hj => by simp at hj; omega), by simp only [el]; omega⟩ | (exact Weak.go (by (first | (simp [wkL]; done) | (simp [wkL]; omega))) (fun zi => by first | exact .inl rfl | exact .inr rfl | (simp only [upd]; repeat' split) <;> first | exact h0 | (intro j g1 g2; (repeat rw [if_neg (by omega)]); exact hfr j g1 g2) | exact ⟨⟨L.held, L.queue ++ [a]⟩, LkF.mk2 ((k1.toR (ex := true)).congr fun j hj => by have g4 := k3 j hj; have g5 := hne j hj; repeat rw [upd_ne _ _ (by omega)]) (.msl (l := L.queue ++ [a]) (i := i) (v := v + 1) (rest := []) (by rw [List.append_nil]; repeat (first | exact upd_same _ _ _ | rw [upd_ne _ _ (by omega)])) (fun _ => rfl)) (fun j hj => (k3 j hj).1) (fun j hj => by simp at hj; omega), by simp only [el]; omega⟩ | exact .inl rfl | exact .inr rfl | (exfalso; omega) | exact .inr (hd _ (by omega)) | (left; subst_vars; exact hH.symm) | (left; subst_vars; rfl) | (left; simp; done) | (left; simp; omega)) (by omega)) | omega | rfl | assumption | exact Flat.nil | exact ⟨_, rfl, rfl, by assumption⟩ | (simp; done) | (simp; omega))
      | nil eq =>
        simp (maxSteps := 4000000) (disch := omega) only [go_sem, w64, AndB_of, IfB_of, IfB_no, pickE_of, pickE_no, ite_of, ite_no, tdivE, tmodE, takeAll, h1]
        have e1 : flat GAk.c [a] = [.int .i64 a.who, .int .i64 a.key, .int .i64 a.kind] := by simp [flat, GAk.c]
        ((repeat' apply And.intro) <;> first | exact h0 | (intro j g1 g2; (repeat rw [if_neg (by omega)]); exact hfr j g1 g2) | exact ⟨⟨L.held, [a]⟩, LkF.mk2 ((k1.toR (ex := true)).congr fun j hj => by have g4 := k3 j hj; repeat rw [upd_ne _ _ (by omega)]) (.msl (l := [a]) (i := y + 1) (v := 0) (rest := []) (by rw [List.append_nil, e1]; repeat (first | exact upd_same _ _ _ | rw [upd_ne _ _ (by omega)])) (fun _ => rfl)) (fun j hj => (k3 j hj).1) (fun j hj => by simp at hj; omega), by simp only [List.length_cons, List.length_nil]; omega⟩ | (exact Weak.go (by (first | (simp [wkL]; done) | (simp [wkL]; omega))) (fun zi => by first | exact .inl rfl | exact .inr rfl | (simp only [upd]; repeat' split) <;> first | exact h0 | (intro j g1 g2; (repeat rw [if_neg (by omega)]); exact hfr j g1 g2) | exact ⟨⟨L.held, [a]⟩, LkF.mk2 ((k1.toR (ex := true)).congr fun j hj => by have g4 := k3 j hj; repeat rw [upd_ne _ _ (by omega)]) (.msl (l := [a]) (i := y + 1) (v := 0) (rest := []) (by rw [List.append_nil, e1]; repeat (first | exact upd_same _ _ _ | rw [upd_ne _ _ (by omega)])) (fun _ => rfl)) (fun j hj => (k3 j hj).1) (fun j hj => by simp at hj; omega), by simp only [List.length_cons, List.length_nil]; omega⟩ | exact .inl rfl | exact .inr rfl | (exfalso; omega) | exact .inr (hd _ (by omega)) | (left; subst_vars; exact hH.symm) | (left; subst_vars; rfl) | (left; simp; done) | (left; simp; omega)) (by omega)) | omega | rfl | assumption | exact Flat.nil | exact ⟨_, rfl, rfl, by assumption⟩ | (simp; done) | (simp; omega))
    have k10 := k1
    cases k1 with
    | @msl i v ei =>
      have ki := k3 i (by simp)
      have hne : ∀ j, j ∈ S2 → j ≠ i := fun j hj e => k5 i (by simp) (e ▸ hj)
      simp (maxSteps := 4000000) (disch := omega) only [go_sem, w64, AndB_of, IfB_of, IfB_no, pickE_of, pickE_no, ite_of, ite_no, tdivE, tmodE, takeAll, h1, ei]
      refine IfB.dec (fun c4 => ?_) (fun c4 => ?_)
      · simp (maxSteps := 4000000) (disch := omega) only [go_sem, w64, AndB_of, IfB_of, IfB_no, pickE_of, pickE_no, ite_of, ite_no, tdivE, tmodE, takeAll, h1, ei]
        ((repeat' apply And.intro) <;> first | exact h0 | (intro j g1 g2; (repeat rw [if_neg (by omega)]); exact hfr j g1 g2) | exact ⟨⟨L.held.drop 1, L.queue⟩, LkF.mkO (by (repeat rw [upd_ne _ _ (by omega)]); exact ei) (by omega) ((k2.toR (ex := true)).congr fun j hj => by have g4 := k4 j hj; have g5 := hne j hj; repeat rw [upd_ne _ _ (by omega)]) (by omega) (fun j hj => (k4 j hj).1) (by omega), by simp only [List.length_drop]; omega⟩ | (exact Weak.go (by (first | (simp [wkL]; done) | (simp [wkL]; omega))) (fun zi => by first | exact .inl rfl | exact .inr rfl | (simp only [upd]; repeat' split) <;> first | exact h0 | (intro j g1 g2; (repeat rw [if_neg (by omega)]); exact hfr j g1 g2) | exact ⟨⟨L.held.drop 1, L.queue⟩, LkF.mkO (by (repeat rw [upd_ne _ _ (by omega)]); exact ei) (by omega) ((k2.toR (ex := true)).congr fun j hj => by have g4 := k4 j hj; have g5 := hne j hj; repeat rw [upd_ne _ _ (by omega)]) (by omega) (fun j hj => (k4 j hj).1) (by omega), by simp only [List.length_drop]; omega⟩ | exact .inl rfl | exact .inr rfl | (exfalso; omega) | exact .inr (hd _ (by omega)) | (left; subst_vars; exact hH.symm) | (left; subst_vars; rfl) | (left; simp; done) | (left; simp; omega)) (by omega)) | omega | rfl | assumption | exact Flat.nil | exact ⟨_, rfl, rfl, by assumption⟩ | (simp; done) | (simp; omega))
      · simp (maxSteps := 4000000) (disch := omega) only [go_sem, w64, AndB_of, IfB_of, IfB_no, pickE_of, pickE_no, ite_of, ite_no, tdivE, tmodE, takeAll, h1]
        ((repeat' apply And.intro) <;> first | exact h0 | (intro j g1 g2; (repeat rw [if_neg (by omega)]); exact hfr j g1 g2) | exact ⟨L, LkF.mk2 ((k10.toR (ex := true)).congr fun j hj => by have g4 := k3 j hj; repeat rw [upd_ne _ _ (by omega)]) ((k2.toR (ex := true)).congr fun j hj => by have g4 := k4 j hj; repeat rw [upd_ne _ _ (by omega)]) (fun j hj => (k3 j hj).1) (fun j hj => (k4 j hj).1), by omega⟩ | (exact Weak.go (by (first | (simp [wkL]; done) | (simp [wkL]; omega))) (fun zi => by first | exact .inl rfl | exact .inr rfl | (simp only [upd]; repeat' split) <;> first | exact h0 | (intro j g1 g2; (repeat rw [if_neg (by omega)]); exact hfr j g1 g2) | exact ⟨L, LkF.mk2 ((k10.toR (ex := true)).congr fun j hj => by have g4 := k3 j hj; repeat rw [upd_ne _ _ (by omega)]) ((k2.toR (ex := true)).congr fun j hj => by have g4 := k4 j hj; repeat rw [upd_ne _ _ (by omega)]) (fun j hj => (k3 j hj).1) (fun j hj => (k4 j hj).1), by omega⟩ | exact .inl rfl | exact .inr rfl | (exfalso; omega) | exact .inr (hd _ (by omega)) | (left; subst_vars; exact hH.symm) | (left; subst_vars; rfl) | (left; simp; done) | (left; simp; omega)) (by omega)) | omega | rfl | assumption | exact Flat.nil | exact ⟨_, rfl, rfl, by assumption⟩ | (simp; done) | (simp; omega))
    | nil eq =>
      simp (maxSteps := 4000000) (disch := omega) only [go_sem, w64, AndB_of, IfB_of, IfB_no, pickE_of, pickE_no, ite_of, ite_no, tdivE, tmodE, takeAll, h1]
      ((repeat' apply And.intro) <;> first | exact h0 | (intro j g1 g2; (repeat rw [if_neg (by omega)]); exact hfr j g1 g2) | exact ⟨L, LkF.mk2 ((k10.toR (ex := true)).congr fun j hj => by have g4 := k3 j hj; repeat rw [upd_ne _ _ (by omega)]) ((k2.toR (ex := true)).congr fun j hj => by have g4 := k4 j hj; repeat rw [upd_ne _ _ (by omega)]) (fun j hj => (k3 j hj).1) (fun j hj => (k4 j hj).1), by omega⟩ | (exact Weak.go (by (first | (simp [wkL]; done) | (simp [wkL]; omega))) (fun zi => by first | exact .inl rfl | exact .inr rfl | (simp only [upd]; repeat' split) <;> first | exact h0 | (intro j g1 g2; (repeat rw [if_neg (by omega)]); exact hfr j g1 g2) | exact ⟨L, LkF.mk2 ((k10.toR (ex := true)).congr fun j hj => by have g4 := k3 j hj; repeat rw [upd_ne _ _ (by omega)]) ((k2.toR (ex := true)).congr fun j hj => by have g4 := k4 j hj; repeat rw [upd_ne _ _ (by omega)]) (fun j hj => (k3 j hj).1) (fun j hj => (k4 j hj).1), by omega⟩ | exact .inl rfl | exact .inr rfl | (exfalso; omega) | exact .inr (hd _ (by omega)) | (left; subst_vars; exact hH.symm) | (left; subst_vars; rfl) | (left; simp; done) | (left; simp; omega)) (by omega)) | omega | rfl | assumption | exact Flat.nil | exact ⟨_, rfl, rfl, by assumption⟩ | (simp; done) | (simp; omega))
  intro zz zh
  obtain ⟨h, y, q, xv, yv⟩ := zz
  dsimp only at zh
  obtain ⟨hy, hq0, hq1, hrd, h0, h1, hfr, L, hK, hLn⟩ := zh
  simp (maxSteps := 4000000) (disch := omega) only [go_sem, w64, AndB_of, IfB_of, IfB_no, pickE_of, pickE_no, ite_of, ite_no, tdivE, tmodE, takeAll]
  refine AW.of ?_
  have hcx := hK.cx
  have hcy := hK.cy
  simp (maxSteps := 4000000) (disch := omega) only [go_sem, w64, AndB_of, IfB_of, IfB_no, pickE_of, pickE_no, ite_of, ite_no, tdivE, tmodE, takeAll, h0, h1, hcx, hcy]
  refine ⟨0, [.sl bs.size false (bytesCells bs), .int .i64 (q)], fun i hi => ?_, by simp [pureL, pureA, bytesCells_pure], ?_⟩
  · rw [upd_ne _ _ (by omega)]
    split
    · rename_i e; rw [e]; exact hrd
    · rename_i e; exact hfr i hi e
  refine ⟨L, q, hq0, by omega, hLn, ?_, rfl⟩
  rw [hK.kx _ (fun i hi => upd_ne _ _ (by omega)), hK.ky _ (fun i hi => upd_ne _ _ (by omega))]
end Go.TH
