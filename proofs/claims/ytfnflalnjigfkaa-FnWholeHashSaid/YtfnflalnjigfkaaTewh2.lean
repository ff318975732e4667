/- TH: rows joined by buckets, 2: the join. Made by gen.py. -/
import Derived.Test.YtfnflalnjigfkaaTf3
import Derived.Test.YtfnflalnjigfkaaTewh
namespace Go.TH
open Go Go.Proofs
set_option linter.unusedSimpArgs false
set_option linter.unusedVariables false
set_option maxHeartbeats 20000000
set_option maxRecDepth 100000
theorem set_at {α : Type} {l : List α} {n : Nat} {x : α} (h : n < l.length) : List.take n l ++ [x] ++ List.drop (n + 1) l = l.set n x := by
  rw [List.set_eq_take_append_cons_drop, if_pos h, List.append_assoc]
  rfl
theorem loopG_bk (p q m : Nat) (a b : List GRow) : loopG p q (fun v => bkL b q m (bkt v m)) a = loopL p q a b := by
  unfold loopG loopL
  congr 1
  funext r
  exact pairs_bk p q m r b
theorem f_HashJoin (ca cb : List GCol) (a b : List GRow) (i j : Int) (m : Nat) (m1 : 1 ≤ m) (m5 : m ≤ 5) (h1 : ca.length ≤ 1048576) (h2 : cb.length ≤ 1048576) (h3 : a.length ≤ 1048576) (h4 : b.length ≤ 1048576) (hsa : ∀ r ∈ a, smallR r) (hsb : ∀ r ∈ b, smallR r) :
    ACallD Try.prog 52 [colsA ca, colsA cb, rowsA a, rowsA b, .int .i64 i, .int .i64 j, .int .i64 m] noH 0 (fun r H' n' => OwnR H' 0 n' (rowsA (loopJ ca cb a b i j)) r) := by
  have hzf : (List.replicate m [AV.sl 0 true []]).flatten = List.replicate m (AV.sl 0 true []) := by
    clear m1 m5
    induction m with
    | zero => rfl
    | succ m ih => rw [List.replicate_succ, List.flatten_cons, ih]; rfl
  refine dcall_body mixed Try.func52 _ (by unfold Try.f52; rfl) Try.ntmps52 Try.results52 (by decide) (by simp) ?_
  simp (maxSteps := 4000000) (disch := omega) only [go_sem, w64, AndB_of, IfB_of, IfB_no, pickE_of, pickE_no, ite_of, ite_no, tdivE, tmodE, takeAll]
  apply CallB.q (q_joinOkI ca cb a b i j h1 h2 h3 h4 hsa hsb)
  simp (maxSteps := 4000000) (disch := omega) only [go_sem, w64, AndB_of, IfB_of, IfB_no, pickE_of, pickE_no, ite_of, ite_no, tdivE, tmodE, takeAll]
  refine IfB.dec2 (fun c1 f1 => ?_) (fun c1 f1 => ?_)
  case refine_2 =>
    simp (maxSteps := 4000000) (disch := omega) only [go_sem, w64, AndB_of, IfB_of, IfB_no, pickE_of, pickE_no, ite_of, ite_no, tdivE, tmodE, takeAll, f1]
    rw [loopJ_no c1]
    exact OwnR.nilS
  have hat := c1.at
  have hc := c1.2.2.2
  have hro := c1.2.2.2.2.2
  have hr9 := c1.2.2.2.2.2.2.2
  obtain ⟨p, rfl⟩ : ∃ p : Nat, i = p := ⟨i.toNat, by omega⟩
  obtain ⟨q, rfl⟩ : ∃ q : Nat, j = q := ⟨j.toNat, by omega⟩
  simp only [Int.toNat_natCast] at hat
  have okA : ∀ r ∈ a, ∀ v ∈ r, v.Ok := fun r hr => (hro.1.2 r hr).2.1.2
  have okB : ∀ r ∈ b, ∀ v ∈ r, v.Ok := fun r hr => (hro.2.1.2 r hr).2.1.2
  rw [loopJ_yes c1, Int.toNat_natCast, Int.toNat_natCast, ← loopG_bk p q m a b]
  have qb := q_between m 1 5
  rw [decide_eq_true (show inR (m : Int) 1 5 from ⟨by omega, by omega⟩)] at qb
  simp (maxSteps := 4000000) (disch := omega) only [go_sem, w64, AndB_of, IfB_of, IfB_no, pickE_of, pickE_no, ite_of, ite_no, tdivE, tmodE, takeAll, f1]
  apply CallB.q qb
  simp (maxSteps := 4000000) (disch := omega) only [go_sem, w64, AndB_of, IfB_of, IfB_no, pickE_of, pickE_no, ite_of, ite_no, tdivE, tmodE, takeAll, hzf]
  have ebz : bkA [] q m = List.replicate m [] := bkA_zero q m []
  unfold rowsA
  refine LoopB.auto (fun zs => (heapOf zs, nxOf zs, (intOf (slotOf zs 36)).toNat, cellsOf (blkOf zs (1)))) (fun zz => [(2, none), (1, none), (0, none), (7, none), (1, none), (18, none), (0, none), (0, some (.int .i64 (zz.2.2.1 : Int)))]) (fun zz => zz.1) (fun zz => zz.2.1) (fun zz => b.length - zz.2.2.1) (fun zz => zz.2.2.1 ≤ b.length ∧ 3 ≤ zz.2.1 ∧ zz.1 0 = .live 0 [.int .i64 m] ∧ zz.1 2 = .live 0 [.msl 1 0 1 0 m] ∧ zz.1 1 = .live 0 zz.2.2.2 ∧ zz.2.2.2.length = m ∧ BkI zz.1 zz.2.2.2 (bkA (b.take zz.2.2.1) q m) 3 zz.2.1) (by (first | simp (maxSteps := 4000000) (disch := omega) only [go_sem, w64, AndB_of, IfB_of, IfB_no, pickE_of, pickE_no, ite_of, ite_no, tdivE, tmodE, takeAll, hH] | simp (maxSteps := 4000000) (disch := omega) only [go_sem, w64, AndB_of, IfB_of, IfB_no, pickE_of, pickE_no, ite_of, ite_no, tdivE, tmodE, takeAll]); ((repeat' apply And.intro) <;> first | exact (by rw [ebz]; exact BkI.nil) | (exact Weak.go (by (first | (simp [wkL]; done) | (simp [wkL]; omega))) (fun zi => by first | exact .inl rfl | exact .inr rfl | (simp only [upd]; repeat' split) <;> first | exact (by rw [ebz]; exact BkI.nil) | exact .inl rfl | exact .inr rfl | (exfalso; omega) | exact .inr (hd _ (by omega)) | (left; subst_vars; exact hH.symm) | (left; subst_vars; rfl) | (left; simp; done) | (left; simp; omega)) (by omega)) | omega | rfl | assumption | exact Flat.nil | exact ⟨_, rfl, rfl, by assumption⟩ | (simp; done) | (simp; omega))) ?_
  intro zz zh
  obtain ⟨h, x, k, cs⟩ := zz
  dsimp only at zh
  obtain ⟨hk, hx, hH0, hH2, hH, hcl, hB⟩ := zh
  simp (maxSteps := 4000000) (disch := omega) only [go_sem, w64, AndB_of, IfB_of, IfB_no, pickE_of, pickE_no, ite_of, ite_no, tdivE, tmodE, takeAll]
  refine IfB.dec (fun d1 => ?_) (fun d1 => ?_)
  · have h1' : k < b.length := by omega
    have hbk := hat.2 _ (List.getElem_mem h1')
    have hokb := okB _ (List.getElem_mem h1')
    obtain ⟨r, er⟩ : ∃ r : GRow, r = b[k] := ⟨_, rfl⟩
    rw [← er] at hbk hokb
    have hqr := hbk.1
    have er' : rowA b[k] = .sl r.length false (flat GVal.c r) := by rw [← er]; rfl
    have ej : r.getD q zV = r[q] := by simp [List.getD, hqr]
    obtain ⟨n, en⟩ : ∃ n, n = bkt r[q] m := ⟨_, rfl⟩
    have hnm : n < m := by rw [en]; exact Nat.mod_lt _ (by omega)
    have hsucc := bkA_succ (j := q) (m := m) (n := n) h1' (by rw [← er, ej, en])
    rw [← er] at hsucc
    have qbk := q_bucketOf r[q] (hokb _ (List.getElem_mem hqr)) m m1 m5
    rw [← en] at qbk
    have hncs : n < cs.length := by omega
    have hnL : n < (bkA (b.take k) q m).length := by rw [bkA_len]; exact hnm
    simp (maxSteps := 4000000) (disch := omega) only [go_sem, w64, AndB_of, IfB_of, IfB_no, pickE_of, pickE_no, ite_of, ite_no, tdivE, tmodE, takeAll, hH0, hH2, hH, er']
    refine DrawB.quiet (by kernel_rfl) ?_
    simp (maxSteps := 4000000) (disch := omega) only [go_sem, w64, AndB_of, IfB_of, IfB_no, pickE_of, pickE_no, ite_of, ite_no, tdivE, tmodE, takeAll, hH0, hH2, hH, er']
    refine DCallB.q0 qbk ?_
    simp (maxSteps := 4000000) (disch := omega) only [go_sem, w64, AndB_of, IfB_of, IfB_no, pickE_of, pickE_no, ite_of, ite_no, tdivE, tmodE, takeAll, hH0, hH2, hH, er']
    have hcd : cs.drop n = cs[n] :: cs.drop (n + 1) := List.drop_eq_getElem_cons hncs
    have hLn : (bkA (b.take k) q m)[n] = bkL (b.take k) q m n := bkA_get _ _ _ _ hnL
    have hlen9 := bkL_len (b.take k) q m n
    rw [List.length_take] at hlen9
    rcases hB.each n hncs hnL with ⟨c1, c2⟩ | ⟨id, ver, c1, c2, c3, c4⟩
    · have hgd : cs.getD n .junk = .sl 0 true [] := by rw [← c1]; simp [List.getD, hncs]
      rw [hLn] at c2
      rw [c2] at hsucc
      refine DrawB.intro [8, 10] [10] (inS (x) (x) (x)) (by kernel_rfl) ?_
      simp (maxSteps := 4000000) (disch := omega) only [go_sem, w64, AndB_of, IfB_of, IfB_no, pickE_of, pickE_no, ite_of, ite_no, tdivE, tmodE, takeAll, hH0, hH2, hH, er', hcd, hgd]
      have hset := set_at (x := AV.msl x 0 1 0 1) hncs
      have hB2 := hB.put (h' := upd (upd h x (.live 0 [rowA r])) 1 (.live 0 (cs.set n (.msl x 0 1 0 1)))) hncs (id := x) (ver := 0) (l := [r]) (by rw [upd_ne _ _ (by omega), upd_same]; rfl) (by omega) (hi' := x + 1) (by omega) (by omega) (fun i g1 g2 g3 => by rw [upd_ne _ _ (by omega), upd_ne _ _ g3]) (.inr (Nat.le_refl _))
      rw [List.nil_append] at hsucc
      rw [← hsucc] at hB2
      have hls : (cs.set n (.msl x 0 1 0 1)).length = m := by rw [List.length_set]; exact hcl
      rw [hset]
      ((repeat' apply And.intro) <;> first | exact hB2 | exact hls | (exact Weak.go (by (first | (simp [wkL]; done) | (simp [wkL]; omega))) (fun zi => by first | exact .inl rfl | exact .inr rfl | (simp only [upd]; repeat' split) <;> first | exact hB2 | exact hls | exact .inl rfl | exact .inr rfl | (exfalso; omega) | exact .inr (hd _ (by omega)) | (left; subst_vars; exact hH.symm) | (left; subst_vars; rfl) | (left; simp; done) | (left; simp; omega)) (by omega)) | omega | rfl | assumption | exact Flat.nil | exact ⟨_, rfl, rfl, by assumption⟩ | (simp; done) | (simp; omega))
    · have hgd : cs.getD n .junk = .msl id ver 1 0 (bkL (b.take k) q m n).length := by rw [← hLn, ← c1]; simp [List.getD, hncs]
      rw [hLn] at c2
      refine DrawB.intro [8, 10] [10] (inS (id) (id) (id)) (by kernel_rfl) ?_
      simp (maxSteps := 4000000) (disch := omega) only [go_sem, w64, AndB_of, IfB_of, IfB_no, pickE_of, pickE_no, ite_of, ite_no, tdivE, tmodE, takeAll, hH0, hH2, hH, er', hcd, hgd, c2, cR_flen]
      have hset := set_at (x := AV.msl id (ver + 1) 1 0 ((bkL (b.take k) q m n).length + 1)) hncs
      have hl2 : (bkL (b.take k) q m n ++ [r]).length = (bkL (b.take k) q m n).length + 1 := by simp
      have hB2 := hB.put (h' := upd (upd h id (.live (ver + 1) (flat cR (bkL (b.take k) q m n) ++ [rowA r]))) 1 (.live 0 (cs.set n (.msl id (ver + 1) 1 0 ((bkL (b.take k) q m n).length + 1))))) hncs (id := id) (ver := ver + 1) (l := bkL (b.take k) q m n ++ [r]) (by rw [upd_ne _ _ (by omega), upd_same, flat_append]; rfl) c3 (hi' := x) c4 (Nat.le_refl _) (fun i g1 g2 g3 => by rw [upd_ne _ _ (by omega), upd_ne _ _ g3]) (.inl ⟨ver, _, by rw [List.getElem?_eq_getElem hncs, c1]⟩)
      rw [← hsucc, hl2] at hB2
      have hls : (cs.set n (.msl id (ver + 1) 1 0 ((bkL (b.take k) q m n).length + 1))).length = m := by rw [List.length_set]; exact hcl
      rw [hset]
      ((repeat' apply And.intro) <;> first | exact hB2 | exact hls | (exact Weak.go (by (first | (simp [wkL]; done) | (simp [wkL]; omega))) (fun zi => by first | exact .inl rfl | exact .inr rfl | (simp only [upd]; repeat' split) <;> first | exact hB2 | exact hls | exact .inl rfl | exact .inr rfl | (exfalso; omega) | exact .inr (hd _ (by omega)) | (left; subst_vars; exact hH.symm) | (left; subst_vars; rfl) | (left; simp; done) | (left; simp; omega)) (by omega)) | omega | rfl | assumption | exact Flat.nil | exact ⟨_, rfl, rfl, by assumption⟩ | (simp; done) | (simp; omega))
  · have hkb : k = b.length := by omega
    rw [hkb, List.take_length] at hB
    have hL := bkA_len b q m
    have hBl := hB.len
    obtain ⟨S, hsee⟩ := hB.see cs.length (Nat.le_refl _)
    rw [Nat.sub_self, List.drop_zero, List.drop_zero] at hsee
    have hown : OwnL true h (1 :: (S ++ [])) [.sl m false (flat cRR (bkA b q m))] [.msl 1 0 1 0 m] := .sl hH (by rw [cRR_flen, hL]; omega) hsee .nil rfl
    have hp2 := Pict.ptr1 hH2 hown.pict
    have hp0 := Pict.ptr1 hH0 (Pict.pure (H := h) (a := .int .i64 m) rfl)
    have hpf := Pict.fn1 (f := 122) (Pict.cons hp2 hp0)
    have hf := f_joins a p q 122 [.ro [.sl m false (flat cRR (bkA b q m))], .ro [.int .i64 m]] (by simp [pureL, pureA, flat_pure cRR_pure]) (fun v => bkL b q m (bkt v m)) (by omega) (fun r hr => ⟨(hat.1 r hr).1, by have := (hat.1 r hr).2.2; omega⟩) (fun r hr => by
      have hri := (hat.1 r hr).1
      have eg : r.getD p zV = r[p] := by simp [List.getD, hri]
      have hlm : bkt r[p] m < m := Nat.mod_lt _ (by omega)
      refine ⟨by have := bkL_len b q m (bkt (r.getD p zV) m); omega, fun s hs => ⟨(hat.2 s (bkL_mem hs)).1, by have := (hat.2 s (bkL_mem hs)).2.2; omega⟩, ?_⟩
      rw [eg]
      refine q_HashJoin1 r[p] (okA r hr _ (List.getElem_mem hri)) m m1 m5 (bkA b q m) hL _ ?_
      rw [List.getElem?_eq_getElem (by rw [hL]; exact hlm), bkA_get])
    simp (maxSteps := 4000000) (disch := omega) only [go_sem, w64, AndB_of, IfB_of, IfB_no, pickE_of, pickE_no, ite_of, ite_no, tdivE, tmodE, takeAll]
    refine CallB.fresh (Pict.cons (Pict.pure (rowsA_pure _)) (Pict.cons (Pict.pure rfl) (Pict.cons hpf (Pict.cons (Pict.pure rfl) Pict.nil)))) hf fun r H2 n2 hO hn hH => ?_
    simp (maxSteps := 4000000) (disch := omega) only [go_sem, w64, AndB_of, IfB_of, IfB_no, pickE_of, pickE_no, ite_of, ite_no, tdivE, tmodE, takeAll]
    exact hO.mono (by omega) (Nat.le_refl _)
end Go.TH
