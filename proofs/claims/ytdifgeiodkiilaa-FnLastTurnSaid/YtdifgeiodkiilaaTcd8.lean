/- TH: draws: versions. Made by gen.py. -/
import Derived.Test.YtdifgeiodkiilaaTf3
import Derived.Test.YtdifgeiodkiilaaTcd6
import Derived.Test.YtdifgeiodkiilaaTclt
import Derived.Test.YtdifgeiodkiilaaTcwr
namespace Go.TH
open Go Go.Proofs
set_option linter.unusedSimpArgs false
set_option linter.unusedVariables false
set_option maxHeartbeats 20000000
set_option maxRecDepth 100000
def PVr (v : GVer) : Prop := v.row.length ≤ 9 ∧ ∀ x ∈ v.row, PV x
theorem Flat.snocVr {cells : List AV} {n : Nat} (h : Flat GVer.c PVr cells n) {a b d : Int} {r : GRow} (h1 : r.length ≤ 9) (h2 : ∀ x ∈ r, PV x) : Flat GVer.c PVr (cells ++ [.int .i64 a, .int .i64 b, .int .i64 d, rowA r]) (n + 1) := h.snoc ⟨a, b, d, r⟩ ⟨h1, h2⟩
theorem d_l13Copy {H : AH} {nx id v : Nat} (l : List GVer) (hl : l.length ≤ 1048576) (hs : ∀ v ∈ l, PVr v) (hid : id < nx) (hH : H id = .live v (flat GVer.c l)) (hd : ∀ i, nx ≤ i → H i = .dead) :
    ACallD Try.prog 146 [.msl id v 4 0 l.length] H nx (fun r H' nx' => r = .msl nx 0 4 0 l.length ∧ H' = upd H nx (.live 0 (flat GVer.c l)) ∧ nx' = nx + 1) := by
  refine ACallD.fin1 1 ?_
  refine dcall_body mixed Try.func146 _ (by unfold Try.f146; rfl) Try.ntmps146 Try.results146 (by decide) (by simp) ?_
  simp (maxSteps := 4000000) (disch := omega) only [go_sem, w64, AndB_of, IfB_of, IfB_no, pickE_of, pickE_no, ite_of, ite_no, tdivE, tmodE, takeAll]
  refine LoopB.auto (fun zs => (nxOf zs, (intOf (slotOf zs 4)).toNat, verOf (blkOf zs (nx)), cellsOf (blkOf zs (nx)))) (fun zz => [(0, none), (2, some (.msl nx zz.2.2.1 4 0 zz.2.1)), (0, some (.int .i64 (zz.2.1 : Int)))]) (fun zz => upd H nx (.live zz.2.2.1 zz.2.2.2)) (fun zz => zz.1) (fun zz => l.length - zz.2.1) (fun zz => zz.2.1 ≤ l.length ∧ nx < zz.1 ∧ zz.2.2.2 = flat GVer.c (l.take zz.2.1)) (by (first | simp (maxSteps := 4000000) (disch := omega) only [go_sem, w64, AndB_of, IfB_of, IfB_no, pickE_of, pickE_no, ite_of, ite_no, tdivE, tmodE, takeAll, hH] | simp (maxSteps := 4000000) (disch := omega) only [go_sem, w64, AndB_of, IfB_of, IfB_no, pickE_of, pickE_no, ite_of, ite_no, tdivE, tmodE, takeAll]); ((repeat' apply And.intro) <;> first | (exact Weak.go (by (first | (simp [wkL]; done) | (simp [wkL]; omega))) (fun zi => by first | exact .inl rfl | exact .inr rfl | (simp only [upd]; repeat' split) <;> first | exact .inl rfl | exact .inr rfl | (exfalso; omega) | exact .inr (hd _ (by omega)) | (left; subst_vars; exact hH.symm) | (left; subst_vars; rfl) | (left; simp; done) | (left; simp; omega)) (by omega)) | omega | rfl | assumption | exact Flat.nil | exact ⟨_, rfl, rfl, by assumption⟩ | (simp; done) | (simp; omega))) ?_
  intro zz zh
  obtain ⟨x, k, w, cells⟩ := zz
  dsimp only at zh
  obtain ⟨hk, hx, hc⟩ := zh
  simp (maxSteps := 4000000) (disch := omega) only [go_sem, w64, AndB_of, IfB_of, IfB_no, pickE_of, pickE_no, ite_of, ite_no, tdivE, tmodE, takeAll]
  have hlen : cells.length = k * 4 := by rw [hc, flat_len GVer.len, len_take hk]
  simp (maxSteps := 4000000) (disch := omega) only [go_sem, w64, AndB_of, IfB_of, IfB_no, pickE_of, pickE_no, ite_of, ite_no, tdivE, tmodE, takeAll, hH]
  refine IfB.dec (fun h1 => ?_) (fun h1 => ?_)
  · have h1' : k < l.length := by omega
    have hr := hs _ (List.getElem_mem h1')
    simp (maxSteps := 4000000) (disch := omega) only [go_sem, w64, AndB_of, IfB_of, IfB_no, pickE_of, pickE_no, ite_of, ite_no, tdivE, tmodE, takeAll, hH]
    apply CallB.q (q_l3Own l[k].row (by have := hr.1; omega))
    simp (maxSteps := 4000000) (disch := omega) only [go_sem, w64, AndB_of, IfB_of, IfB_no, pickE_of, pickE_no, ite_of, ite_no, tdivE, tmodE, takeAll, hH]
    ((repeat' apply And.intro) <;> first | exact (by rw [hc]; exact (flat_succ h1').symm) | (exact Weak.go (by (first | (simp [wkL]; done) | (simp [wkL]; omega))) (fun zi => by first | exact .inl rfl | exact .inr rfl | (simp only [upd]; repeat' split) <;> first | exact (by rw [hc]; exact (flat_succ h1').symm) | exact .inl rfl | exact .inr rfl | (exfalso; omega) | exact .inr (hd _ (by omega)) | (left; subst_vars; exact hH.symm) | (left; subst_vars; rfl) | (left; simp; done) | (left; simp; omega)) (by omega)) | omega | rfl | assumption | exact Flat.nil | exact ⟨_, rfl, rfl, by assumption⟩ | (simp; done) | (simp; omega))
  · obtain rfl : k = l.length := by omega
    rw [List.take_length] at hc
    subst hc
    simp (maxSteps := 4000000) (disch := omega) only [go_sem, w64, AndB_of, IfB_of, IfB_no, pickE_of, pickE_no, ite_of, ite_no, tdivE, tmodE, takeAll]
    refine ⟨nx, w, _, (by repeat (first | exact OldN.refl | refine OldN.new (by omega) ?_)), Nat.le_refl _, upd_same .., ?_⟩
    simp (maxSteps := 4000000) (disch := omega) only [go_sem, w64, AndB_of, IfB_of, IfB_no, pickE_of, pickE_no, ite_of, ite_no, tdivE, tmodE, takeAll]
theorem d_l13Written {H : AH} {nx id v : Nat} (l : List GVer) (hl : l.length ≤ 1000) (hs : ∀ v ∈ l, PVr v) (wr : GWr) (hw : PW wr) (time : Int) (hid : id < nx) (hH : H id = .live v (flat GVer.c l)) (hd : ∀ i, nx ≤ i → H i = .dead) :
    ACallD Try.prog 147 [.msl id v 4 0 l.length, .agg [.int .i64 wr.key, rowA wr.row, .bool wr.gone], .int .i64 time] H nx (fun r H' nx' => ∃ l' : List GVer, l'.length ≤ l.length + 1 ∧ (∀ v ∈ l', PVr v) ∧ r = .msl nx 0 4 0 l'.length ∧ H' = upd H nx (.live 0 (flat GVer.c l')) ∧ nx' = nx + 1) := by
  have hwl := hw.1
  have hdd := hd
  refine ACallD.fin1 1 ?_
  refine dcall_body mixed Try.func147 _ (by unfold Try.f147; rfl) Try.ntmps147 Try.results147 (by decide) (by simp) ?_
  simp (maxSteps := 4000000) (disch := omega) only [go_sem, w64, AndB_of, IfB_of, IfB_no, pickE_of, pickE_no, ite_of, ite_no, tdivE, tmodE, takeAll]
  refine LoopB.auto (fun zs => (nxOf zs, (intOf (slotOf zs 9)).toNat, verOf (blkOf zs (nx+1)), cellsOf (blkOf zs (nx+1)), mlenOf (slotOf zs 7), boolOf (slotOf zs 8))) (fun zz => [(0, none), (1, none), (1, none), (2, some (.msl (nx+1) zz.2.2.1 4 0 zz.2.2.2.2.1)), (0, some (.bool zz.2.2.2.2.2)), (0, some (.int .i64 (zz.2.1 : Int)))]) (fun zz => upd (upd H nx (.live 0 [.int .i64 wr.key, rowA wr.row, .bool wr.gone])) (nx + 1) (.live zz.2.2.1 zz.2.2.2.1)) (fun zz => zz.1) (fun zz => l.length - zz.2.1) (fun zz => zz.2.1 ≤ l.length ∧ nx + 1 < zz.1 ∧ zz.2.2.2.2.1 ≤ zz.2.1 + 1 ∧ (zz.2.2.2.2.2 = false → zz.2.2.2.2.1 ≤ zz.2.1) ∧ Flat GVer.c PVr zz.2.2.2.1 zz.2.2.2.2.1) (by (first | simp (maxSteps := 4000000) (disch := omega) only [go_sem, w64, AndB_of, IfB_of, IfB_no, pickE_of, pickE_no, ite_of, ite_no, tdivE, tmodE, takeAll, hH] | simp (maxSteps := 4000000) (disch := omega) only [go_sem, w64, AndB_of, IfB_of, IfB_no, pickE_of, pickE_no, ite_of, ite_no, tdivE, tmodE, takeAll]); ((repeat' apply And.intro) <;> first | exact Flat.nil | exact fun _ => Nat.le_refl _ | (exact Weak.go (by (first | (simp [wkL]; done) | (simp [wkL]; omega))) (fun zi => by first | exact .inl rfl | exact .inr rfl | (simp only [upd]; repeat' split) <;> first | exact Flat.nil | exact fun _ => Nat.le_refl _ | exact .inl rfl | exact .inr rfl | (exfalso; omega) | exact .inr (hd _ (by omega)) | (left; subst_vars; exact hH.symm) | (left; subst_vars; rfl) | (left; simp; done) | (left; simp; omega)) (by omega)) | omega | rfl | assumption | exact Flat.nil | exact ⟨_, rfl, rfl, by assumption⟩ | (simp; done) | (simp; omega))) ?_
  intro zz zh
  obtain ⟨x, k, w, cells, m, dn⟩ := zz
  dsimp only at zh
  obtain ⟨hk, hx, hm, hmd, hF⟩ := zh
  simp (maxSteps := 4000000) (disch := omega) only [go_sem, w64, AndB_of, IfB_of, IfB_no, pickE_of, pickE_no, ite_of, ite_no, tdivE, tmodE, takeAll]
  have hlen := hF.len GVer.len
  simp (maxSteps := 4000000) (disch := omega) only [go_sem, w64, AndB_of, IfB_of, IfB_no, pickE_of, pickE_no, ite_of, ite_no, tdivE, tmodE, takeAll, hH]
  refine IfB.dec (fun h1 => ?_) (fun h1 => ?_)
  · have h1' : k < l.length := by omega
    have hr := hs _ (List.getElem_mem h1')
    simp (maxSteps := 4000000) (disch := omega) only [go_sem, w64, AndB_of, IfB_of, IfB_no, pickE_of, pickE_no, ite_of, ite_no, tdivE, tmodE, takeAll, hH]
    refine IfB.dec (fun c1 => ?_) (fun c1 => ?_)
    · simp (maxSteps := 4000000) (disch := omega) only [go_sem, w64, AndB_of, IfB_of, IfB_no, pickE_of, pickE_no, ite_of, ite_no, tdivE, tmodE, takeAll]
      refine IfB.split (fun c2 => ?_) (fun c2 => ?_)
      · simp (maxSteps := 4000000) (disch := omega) only [go_sem, w64, AndB_of, IfB_of, IfB_no, pickE_of, pickE_no, ite_of, ite_no, tdivE, tmodE, takeAll]
        repeat' (first | (refine IfB.dec2 (fun h hd => ?_) (fun h hd => ?_) <;> (try (have h2 := h; unfold inR at h2)) <;> (try simp (maxSteps := 4000000) (disch := omega) only [go_sem, w64, AndB_of, IfB_of, IfB_no, pickE_of, pickE_no, ite_of, ite_no, tdivE, tmodE, takeAll, hd])) | (refine IfB.split (fun h => ?_) (fun h => ?_) <;> (try simp (maxSteps := 4000000) (disch := omega) only [go_sem, w64, AndB_of, IfB_of, IfB_no, pickE_of, pickE_no, ite_of, ite_no, tdivE, tmodE, takeAll, h])) | (refine DrawB.quiet (by kernel_rfl) ?_; simp (maxSteps := 4000000) (disch := omega) only [go_sem, w64, AndB_of, IfB_of, IfB_no, pickE_of, pickE_no, ite_of, ite_no, tdivE, tmodE, takeAll]))
        all_goals (have hd := hdd)
        all_goals ((repeat' apply And.intro) <;> first | exact hF.snocVr hr.1 hr.2 | exact (fun e => by first | (have := hmd e; omega) | (simp at e)) | (exact Weak.go (by (first | (simp [wkL]; done) | (simp [wkL]; omega))) (fun zi => by first | exact .inl rfl | exact .inr rfl | (simp only [upd]; repeat' split) <;> first | exact hF.snocVr hr.1 hr.2 | exact (fun e => by first | (have := hmd e; omega) | (simp at e)) | exact .inl rfl | exact .inr rfl | (exfalso; omega) | exact .inr (hd _ (by omega)) | (left; subst_vars; exact hH.symm) | (left; subst_vars; rfl) | (left; simp; done) | (left; simp; omega)) (by omega)) | omega | rfl | assumption | exact Flat.nil | exact ⟨_, rfl, rfl, by assumption⟩ | (simp; done) | (simp; omega))
      · have hmk : m ≤ k := hmd c2
        have hl2 : (cells ++ [AV.int .i64 wr.key, AV.int .i64 time, AV.int .i64 0, rowA wr.row]).length = (m + 1) * 4 := by simp [hlen]; omega
        simp (maxSteps := 4000000) (disch := omega) only [go_sem, w64, AndB_of, IfB_of, IfB_no, pickE_of, pickE_no, ite_of, ite_no, tdivE, tmodE, takeAll]
        refine DrawB.intro [8, 9] [] (inS (x + 1) (nx + 1) (nx + 1)) (by kernel_rfl) ?_
        simp (maxSteps := 4000000) (disch := omega) only [go_sem, w64, AndB_of, IfB_of, IfB_no, pickE_of, pickE_no, ite_of, ite_no, tdivE, tmodE, takeAll]
        refine DCallB.q0 (q_l3Own wr.row (by omega)) ?_
        simp (maxSteps := 4000000) (disch := omega) only [go_sem, w64, AndB_of, IfB_of, IfB_no, pickE_of, pickE_no, ite_of, ite_no, tdivE, tmodE, takeAll]
        repeat' (first | (refine IfB.dec2 (fun h hd => ?_) (fun h hd => ?_) <;> (try (have h2 := h; unfold inR at h2)) <;> (try simp (maxSteps := 4000000) (disch := omega) only [go_sem, w64, AndB_of, IfB_of, IfB_no, pickE_of, pickE_no, ite_of, ite_no, tdivE, tmodE, takeAll, hd])) | (refine IfB.split (fun h => ?_) (fun h => ?_) <;> (try simp (maxSteps := 4000000) (disch := omega) only [go_sem, w64, AndB_of, IfB_of, IfB_no, pickE_of, pickE_no, ite_of, ite_no, tdivE, tmodE, takeAll, h])) | (refine DrawB.quiet (by kernel_rfl) ?_; simp (maxSteps := 4000000) (disch := omega) only [go_sem, w64, AndB_of, IfB_of, IfB_no, pickE_of, pickE_no, ite_of, ite_no, tdivE, tmodE, takeAll]))
        all_goals (have hd := hdd)
        all_goals ((repeat' apply And.intro) <;> first | exact (hF.snocVr hw.1 hw.2).snocVr hr.1 hr.2 | exact (fun e => by first | (have := hmd e; omega) | (simp at e)) | (exact Weak.go (by (first | (simp [wkL]; done) | (simp [wkL]; omega))) (fun zi => by first | exact .inl rfl | exact .inr rfl | (simp only [upd]; repeat' split) <;> first | exact (hF.snocVr hw.1 hw.2).snocVr hr.1 hr.2 | exact (fun e => by first | (have := hmd e; omega) | (simp at e)) | exact .inl rfl | exact .inr rfl | (exfalso; omega) | exact .inr (hd _ (by omega)) | (left; subst_vars; exact hH.symm) | (left; subst_vars; rfl) | (left; simp; done) | (left; simp; omega)) (by omega)) | omega | rfl | assumption | exact Flat.nil | exact ⟨_, rfl, rfl, by assumption⟩ | (simp; done) | (simp; omega))
    · simp (maxSteps := 4000000) (disch := omega) only [go_sem, w64, AndB_of, IfB_of, IfB_no, pickE_of, pickE_no, ite_of, ite_no, tdivE, tmodE, takeAll]
      repeat' (first | (refine IfB.dec2 (fun h hd => ?_) (fun h hd => ?_) <;> (try (have h2 := h; unfold inR at h2)) <;> (try simp (maxSteps := 4000000) (disch := omega) only [go_sem, w64, AndB_of, IfB_of, IfB_no, pickE_of, pickE_no, ite_of, ite_no, tdivE, tmodE, takeAll, hd])) | (refine IfB.split (fun h => ?_) (fun h => ?_) <;> (try simp (maxSteps := 4000000) (disch := omega) only [go_sem, w64, AndB_of, IfB_of, IfB_no, pickE_of, pickE_no, ite_of, ite_no, tdivE, tmodE, takeAll, h])) | (refine DrawB.quiet (by kernel_rfl) ?_; simp (maxSteps := 4000000) (disch := omega) only [go_sem, w64, AndB_of, IfB_of, IfB_no, pickE_of, pickE_no, ite_of, ite_no, tdivE, tmodE, takeAll]))
      all_goals (have hd := hdd)
      all_goals ((repeat' apply And.intro) <;> first | exact hF.snocVr hr.1 hr.2 | exact (fun e => by first | (have := hmd e; omega) | (simp at e)) | (exact Weak.go (by (first | (simp [wkL]; done) | (simp [wkL]; omega))) (fun zi => by first | exact .inl rfl | exact .inr rfl | (simp only [upd]; repeat' split) <;> first | exact hF.snocVr hr.1 hr.2 | exact (fun e => by first | (have := hmd e; omega) | (simp at e)) | exact .inl rfl | exact .inr rfl | (exfalso; omega) | exact .inr (hd _ (by omega)) | (left; subst_vars; exact hH.symm) | (left; subst_vars; rfl) | (left; simp; done) | (left; simp; omega)) (by omega)) | omega | rfl | assumption | exact Flat.nil | exact ⟨_, rfl, rfl, by assumption⟩ | (simp; done) | (simp; omega))
  · simp (maxSteps := 4000000) (disch := omega) only [go_sem, w64, AndB_of, IfB_of, IfB_no, pickE_of, pickE_no, ite_of, ite_no, tdivE, tmodE, takeAll]
    refine IfB.split (fun h => ?_) (fun h => ?_)
    · simp (maxSteps := 4000000) (disch := omega) only [go_sem, w64, AndB_of, IfB_of, IfB_no, pickE_of, pickE_no, ite_of, ite_no, tdivE, tmodE, takeAll]
      obtain ⟨l', rfl, rfl, hP⟩ := hF
      refine ⟨nx + 1, w, _, (by repeat (first | exact OldN.refl | refine OldN.new (by omega) ?_)), by omega, if_pos rfl, l', by omega, hP, ?_⟩
      simp (maxSteps := 4000000) (disch := omega) only [go_sem, w64, AndB_of, IfB_of, IfB_no, pickE_of, pickE_no, ite_of, ite_no, tdivE, tmodE, takeAll]
    · have hmk := hmd h
      simp (maxSteps := 4000000) (disch := omega) only [go_sem, w64, AndB_of, IfB_of, IfB_no, pickE_of, pickE_no, ite_of, ite_no, tdivE, tmodE, takeAll]
      refine DrawB.intro [8, 9] [] (inS (x) (nx + 1) (nx + 1)) (by kernel_rfl) ?_
      simp (maxSteps := 4000000) (disch := omega) only [go_sem, w64, AndB_of, IfB_of, IfB_no, pickE_of, pickE_no, ite_of, ite_no, tdivE, tmodE, takeAll]
      refine DCallB.q0 (q_l3Own wr.row (by omega)) ?_
      simp (maxSteps := 4000000) (disch := omega) only [go_sem, w64, AndB_of, IfB_of, IfB_no, pickE_of, pickE_no, ite_of, ite_no, tdivE, tmodE, takeAll]
      obtain ⟨l', e1, e2, hP⟩ := hF.snocVr (a := wr.key) (b := time) (d := 0) hw.1 hw.2
      rw [e1, e2]
      refine ⟨nx + 1, w + 1, _, (by repeat (first | exact OldN.refl | refine OldN.new (by omega) ?_)), by omega, if_pos rfl, l', by omega, hP, ?_⟩
      simp (maxSteps := 4000000) (disch := omega) only [go_sem, w64, AndB_of, IfB_of, IfB_no, pickE_of, pickE_no, ite_of, ite_no, tdivE, tmodE, takeAll]
theorem d_WrittenAt {H : AH} {nx id v : Nat} (l : List GVer) (hl : l.length ≤ 60) (hs : ∀ v ∈ l, PVr v) (ws : List GWr) (hwl : ws.length ≤ 6) (hws : ∀ w ∈ ws, PW w) (time : Int) (hid : id < nx) (hH : H id = .live v (flat GVer.c l)) (hd : ∀ i, nx ≤ i → H i = .dead) :
    ACallD Try.prog 129 [.msl id v 4 0 l.length, wrsA ws, .int .i64 time] H nx (fun r H' nx' => ∃ (l' : List GVer) (b : Bool), l'.length ≤ 60 ∧ (∀ v ∈ l', PVr v) ∧ r = .tup [.msl nx 0 4 0 l'.length, .bool b] ∧ H' = upd H nx (.live 0 (flat GVer.c l')) ∧ nx' = nx + 1) := by
  have hdd := hd
  have hs2 : ∀ v ∈ l, v.row.length ≤ 1048576 ∧ ∀ x ∈ v.row, x.s.size ≤ 9223372036854775807 := fun v hv => ⟨by have := (hs v hv).1; omega, fun x hx => by have := ((hs v hv).2 x hx).1; omega⟩
  have hw2 : ∀ w ∈ ws, w.row.length ≤ 1048576 ∧ ∀ x ∈ w.row, x.s.size ≤ 140737488355328 := fun v hv => ⟨by have := (hws v hv).1; omega, fun x hx => by have := ((hws v hv).2 x hx).1; omega⟩
  have hpic : ∀ H2 : AH, H2 id = .live v (flat GVer.c l) → Pict H2 [.msl id v 4 0 l.length] [versA l] := fun H2 h => Pict.msl (rest := []) GVer.len GVer.pure (by rw [h, List.append_nil])
  refine ACallD.fin1 1 ?_
  refine dcall_body mixed Try.func129 _ (by unfold Try.f129; rfl) Try.ntmps129 Try.results129 (by decide) (by simp) ?_
  simp (maxSteps := 4000000) (disch := omega) only [go_sem, w64, AndB_of, IfB_of, IfB_no, pickE_of, pickE_no, ite_of, ite_no, tdivE, tmodE, takeAll]
  refine CallB.pic (hpic H hH) (q_VersionsOkS l (by omega) hs2) rfl ?_
  simp (maxSteps := 4000000) (disch := omega) only [go_sem, w64, AndB_of, IfB_of, IfB_no, pickE_of, pickE_no, ite_of, ite_no, tdivE, tmodE, takeAll]
  repeat' (first | (refine IfB.dec2 (fun h hd => ?_) (fun h hd => ?_) <;> (try (have h2 := h; unfold inR at h2)) <;> (try simp (maxSteps := 4000000) (disch := omega) only [go_sem, w64, AndB_of, IfB_of, IfB_no, pickE_of, pickE_no, ite_of, ite_no, tdivE, tmodE, takeAll, hd])) | (refine IfB.split (fun h => ?_) (fun h => ?_) <;> (try simp (maxSteps := 4000000) (disch := omega) only [go_sem, w64, AndB_of, IfB_of, IfB_no, pickE_of, pickE_no, ite_of, ite_no, tdivE, tmodE, takeAll, h])) | (refine DrawB.quiet (by kernel_rfl) ?_; simp (maxSteps := 4000000) (disch := omega) only [go_sem, w64, AndB_of, IfB_of, IfB_no, pickE_of, pickE_no, ite_of, ite_no, tdivE, tmodE, takeAll]) | (apply CallB.q (q_WritesOkS ws (by omega) hw2); simp (maxSteps := 4000000) (disch := omega) only [go_sem, w64, AndB_of, IfB_of, IfB_no, pickE_of, pickE_no, ite_of, ite_no, tdivE, tmodE, takeAll]) | (apply CallB.q (q_l1In _ _ _); simp (maxSteps := 4000000) (disch := omega) only [go_sem, w64, AndB_of, IfB_of, IfB_no, pickE_of, pickE_no, ite_of, ite_no, tdivE, tmodE, takeAll]) | (apply DCallB.q0 (q_WritesOkS ws (by omega) hw2); simp (maxSteps := 4000000) (disch := omega) only [go_sem, w64, AndB_of, IfB_of, IfB_no, pickE_of, pickE_no, ite_of, ite_no, tdivE, tmodE, takeAll]) | (apply DCallB.q0 (q_l1In _ _ _); simp (maxSteps := 4000000) (disch := omega) only [go_sem, w64, AndB_of, IfB_of, IfB_no, pickE_of, pickE_no, ite_of, ite_no, tdivE, tmodE, takeAll]))
  · refine LoopB.auto (fun zs => (nxOf zs, (intOf (slotOf zs 8)).toNat)) (fun zz => [(0, none), (0, none), (0, none), (5, some (.int .i64 (zz.2 : Int)))]) (fun zz => H) (fun zz => zz.1) (fun zz => 5 - zz.2) (fun zz => zz.2 ≤ 5 ∧ nx ≤ zz.1) (by (first | simp (maxSteps := 4000000) (disch := omega) only [go_sem, w64, AndB_of, IfB_of, IfB_no, pickE_of, pickE_no, ite_of, ite_no, tdivE, tmodE, takeAll, hH] | simp (maxSteps := 4000000) (disch := omega) only [go_sem, w64, AndB_of, IfB_of, IfB_no, pickE_of, pickE_no, ite_of, ite_no, tdivE, tmodE, takeAll]); ((repeat' apply And.intro) <;> first | (exact Weak.go (by (first | (simp [wkL]; done) | (simp [wkL]; omega))) (fun zi => by first | exact .inl rfl | exact .inr rfl | (simp only [upd]; repeat' split) <;> first | exact .inl rfl | exact .inr rfl | (exfalso; omega) | exact .inr (hd _ (by omega)) | (left; subst_vars; exact hH.symm) | (left; subst_vars; rfl) | (left; simp; done) | (left; simp; omega)) (by omega)) | omega | rfl | assumption | exact Flat.nil | exact ⟨_, rfl, rfl, by assumption⟩ | (simp; done) | (simp; omega))) ?_
    intro zz zh
    obtain ⟨x, k⟩ := zz
    dsimp only at zh
    obtain ⟨hk, hx⟩ := zh
    simp (maxSteps := 4000000) (disch := omega) only [go_sem, w64, AndB_of, IfB_of, IfB_no, pickE_of, pickE_no, ite_of, ite_no, tdivE, tmodE, takeAll]
    refine IfB.dec (fun c1 => ?_) (fun c1 => ?_)
    · simp (maxSteps := 4000000) (disch := omega) only [go_sem, w64, AndB_of, IfB_of, IfB_no, pickE_of, pickE_no, ite_of, ite_no, tdivE, tmodE, takeAll]
      refine CallB.pic (Pict.cons (hpic H hH) (Pict.cons (Pict.pure rfl) Pict.nil)) (q_LastTurnS l k (by omega) hs2) rfl ?_
      simp (maxSteps := 4000000) (disch := omega) only [go_sem, w64, AndB_of, IfB_of, IfB_no, pickE_of, pickE_no, ite_of, ite_no, tdivE, tmodE, takeAll]
      refine IfB.dec (fun c2 => ?_) (fun c2 => ?_)
      · simp (maxSteps := 4000000) (disch := omega) only [go_sem, w64, AndB_of, IfB_of, IfB_no, pickE_of, pickE_no, ite_of, ite_no, tdivE, tmodE, takeAll]
        refine ⟨x, 0, [], (by repeat (first | exact OldN.refl | refine OldN.new (by omega) ?_)), by omega, if_pos rfl, [], false, by simp, by simp, ?_⟩
        simp (maxSteps := 4000000) (disch := omega) only [go_sem, w64, AndB_of, IfB_of, IfB_no, pickE_of, pickE_no, ite_of, ite_no, tdivE, tmodE, takeAll]
        rfl
      · simp (maxSteps := 4000000) (disch := omega) only [go_sem, w64, AndB_of, IfB_of, IfB_no, pickE_of, pickE_no, ite_of, ite_no, tdivE, tmodE, takeAll]
        have hd := hdd
        ((repeat' apply And.intro) <;> first | (exact Weak.go (by (first | (simp [wkL]; done) | (simp [wkL]; omega))) (fun zi => by first | exact .inl rfl | exact .inr rfl | (simp only [upd]; repeat' split) <;> first | exact .inl rfl | exact .inr rfl | (exfalso; omega) | exact .inr (hd _ (by omega)) | (left; subst_vars; exact hH.symm) | (left; subst_vars; rfl) | (left; simp; done) | (left; simp; omega)) (by omega)) | omega | rfl | assumption | exact Flat.nil | exact ⟨_, rfl, rfl, by assumption⟩ | (simp; done) | (simp; omega))
    · simp (maxSteps := 4000000) (disch := omega) only [go_sem, w64, AndB_of, IfB_of, IfB_no, pickE_of, pickE_no, ite_of, ite_no, tdivE, tmodE, takeAll]
      refine CallB.law (d_l13Copy l (by omega) hs (by omega) hH (fun i hi => hdd i (by omega))) ?_
      rintro _ _ _ ⟨rfl, rfl, rfl⟩
      simp (maxSteps := 4000000) (disch := omega) only [go_sem, w64, AndB_of, IfB_of, IfB_no, pickE_of, pickE_no, ite_of, ite_no, tdivE, tmodE, takeAll]
      refine LoopB.auto (fun zs => (nxOf zs, (intOf (slotOf zs 10)).toNat, midOf (slotOf zs 9), mlenOf (slotOf zs 9), cellsOf (blkOf zs (midOf (slotOf zs 9))))) (fun zz => [(1, none), (0, none), (6, some (.msl zz.2.2.1 0 4 0 zz.2.2.2.1)), (0, some (.int .i64 (zz.2.1 : Int)))]) (fun zz => upd H zz.2.2.1 (.live 0 zz.2.2.2.2)) (fun zz => zz.1) (fun zz => ws.length - zz.2.1) (fun zz => zz.2.1 ≤ ws.length ∧ nx ≤ zz.2.2.1 ∧ zz.2.2.1 < zz.1 ∧ zz.2.2.2.1 ≤ l.length + zz.2.1 ∧ Flat GVer.c PVr zz.2.2.2.2 zz.2.2.2.1) (by (first | simp (maxSteps := 4000000) (disch := omega) only [go_sem, w64, AndB_of, IfB_of, IfB_no, pickE_of, pickE_no, ite_of, ite_no, tdivE, tmodE, takeAll, hH] | simp (maxSteps := 4000000) (disch := omega) only [go_sem, w64, AndB_of, IfB_of, IfB_no, pickE_of, pickE_no, ite_of, ite_no, tdivE, tmodE, takeAll]); ((repeat' apply And.intro) <;> first | exact ⟨l, rfl, rfl, hs⟩ | (exact Weak.go (by (first | (simp [wkL]; done) | (simp [wkL]; omega))) (fun zi => by first | exact .inl rfl | exact .inr rfl | (simp only [upd]; repeat' split) <;> first | exact ⟨l, rfl, rfl, hs⟩ | exact .inl rfl | exact .inr rfl | (exfalso; omega) | exact .inr (hd _ (by omega)) | (left; subst_vars; exact hH.symm) | (left; subst_vars; rfl) | (left; simp; done) | (left; simp; omega)) (by omega)) | omega | rfl | assumption | exact Flat.nil | exact ⟨_, rfl, rfl, by assumption⟩ | (simp; done) | (simp; omega))) ?_
      intro zz zh
      obtain ⟨y, k, o, m, cells⟩ := zz
      dsimp only at zh
      obtain ⟨hk, ho, hoy, hm, hF⟩ := zh
      simp (maxSteps := 4000000) (disch := omega) only [go_sem, w64, AndB_of, IfB_of, IfB_no, pickE_of, pickE_no, ite_of, ite_no, tdivE, tmodE, takeAll]
      have hlen := hF.len GVer.len
      refine IfB.dec (fun c2 => ?_) (fun c2 => ?_)
      · have h2' : k < ws.length := by omega
        obtain ⟨l', rfl, rfl, hP⟩ := hF
        unfold wrsA
        simp (maxSteps := 4000000) (disch := omega) only [go_sem, w64, AndB_of, IfB_of, IfB_no, pickE_of, pickE_no, ite_of, ite_no, tdivE, tmodE, takeAll]
        refine CallB.law (d_l13Written l' (by omega) hP ws[k] (hws _ (List.getElem_mem h2')) time hoy (upd_same ..) (fun i hi => by rw [upd_ne _ _ (by omega)]; exact hdd i (by omega))) ?_
        rintro _ _ _ ⟨l2, e1, e2, rfl, rfl, rfl⟩
        simp (maxSteps := 4000000) (disch := omega) only [go_sem, w64, AndB_of, IfB_of, IfB_no, pickE_of, pickE_no, ite_of, ite_no, tdivE, tmodE, takeAll]
        have hd := hdd
        ((repeat' apply And.intro) <;> first | exact ⟨l2, rfl, rfl, e2⟩ | (exact Weak.go (by (first | (simp [wkL]; done) | (simp [wkL]; omega))) (fun zi => by first | exact .inl rfl | exact .inr rfl | (simp only [upd]; repeat' split) <;> first | exact ⟨l2, rfl, rfl, e2⟩ | exact .inl rfl | exact .inr rfl | (exfalso; omega) | exact .inr (hd _ (by omega)) | (left; subst_vars; exact hH.symm) | (left; subst_vars; rfl) | (left; simp; done) | (left; simp; omega)) (by omega)) | omega | rfl | assumption | exact Flat.nil | exact ⟨_, rfl, rfl, by assumption⟩ | (simp; done) | (simp; omega))
      · simp (maxSteps := 4000000) (disch := omega) only [go_sem, w64, AndB_of, IfB_of, IfB_no, pickE_of, pickE_no, ite_of, ite_no, tdivE, tmodE, takeAll]
        refine IfB.dec (fun c3 => ?_) (fun c3 => ?_)
        · simp (maxSteps := 4000000) (disch := omega) only [go_sem, w64, AndB_of, IfB_of, IfB_no, pickE_of, pickE_no, ite_of, ite_no, tdivE, tmodE, takeAll]
          refine ⟨y, 0, [], (by repeat (first | exact OldN.refl | refine OldN.new (by omega) ?_)), by omega, if_pos rfl, [], false, by simp, by simp, ?_⟩
          simp (maxSteps := 4000000) (disch := omega) only [go_sem, w64, AndB_of, IfB_of, IfB_no, pickE_of, pickE_no, ite_of, ite_no, tdivE, tmodE, takeAll]
          rfl
        · simp (maxSteps := 4000000) (disch := omega) only [go_sem, w64, AndB_of, IfB_of, IfB_no, pickE_of, pickE_no, ite_of, ite_no, tdivE, tmodE, takeAll]
          obtain ⟨l', rfl, rfl, hP⟩ := hF
          refine ⟨o, 0, _, (by repeat (first | exact OldN.refl | refine OldN.new (by omega) ?_)), by omega, if_pos rfl, l', true, by omega, hP, ?_⟩
          simp (maxSteps := 4000000) (disch := omega) only [go_sem, w64, AndB_of, IfB_of, IfB_no, pickE_of, pickE_no, ite_of, ite_no, tdivE, tmodE, takeAll]
  all_goals
    refine ⟨nx, 0, [], (by repeat (first | exact OldN.refl | refine OldN.new (by omega) ?_)), Nat.le_refl _, if_pos rfl, [], false, by simp, by simp, ?_⟩
    simp (maxSteps := 4000000) (disch := omega) only [go_sem, w64, AndB_of, IfB_of, IfB_no, pickE_of, pickE_no, ite_of, ite_no, tdivE, tmodE, takeAll]
    rfl
theorem d_versions {H : AH} {nx rid : Nat} {bs : ByteArray} {p n : Int} (hr : rid < nx) (hH : H rid = .live 0 [.sl bs.size false (bytesCells bs), .int .i64 (p)]) (hd : ∀ i, nx ≤ i → H i = .dead) (hp0 : 0 ≤ p) (hp : p ≤ 500000000) (hb : bs.size ≤ 2000) (hn0 : -1000000000 ≤ n) (hn : n ≤ 1000000000) :
    ACallD Try.prog 96 [.ptr rid 0 0, .int .i64 n] H nx (fun r H' nx' => ∃ (l : List GVer) (q t : Int), p ≤ q ∧ q ≤ p + 4000 ∧ l.length ≤ 61 ∧ (∀ w ∈ l, PVr w) ∧ 1 ≤ t ∧ t ≤ 100 ∧ r = .tup [versA l, .int .i64 t] ∧ H' = upd H rid (.live 0 [.sl bs.size false (bytesCells bs), .int .i64 (q)]) ∧ nx' = nx) := by
  have hdd := hd
  refine ACallD.finR 1 rid hr ?_
  refine wcall_body mixed Try.func96 _ (by unfold Try.f96; rfl) Try.ntmps96 Try.results96 (by decide) (by simp) ?_
  simp (maxSteps := 4000000) (disch := omega) only [go_sem, w64, AndB_of, IfB_of, IfB_no, pickE_of, pickE_no, ite_of, ite_no, tdivE, tmodE, takeAll]
  refine AW.step ?_
  simp (maxSteps := 4000000) (disch := omega) only [go_sem, w64, AndB_of, IfB_of, IfB_no, pickE_of, pickE_no, ite_of, ite_no, tdivE, tmodE, takeAll]
  refine AW.step ?_
  simp (maxSteps := 4000000) (disch := omega) only [go_sem, w64, AndB_of, IfB_of, IfB_no, pickE_of, pickE_no, ite_of, ite_no, tdivE, tmodE, takeAll]
  refine AW.step ?_
  simp (maxSteps := 4000000) (disch := omega) only [go_sem, w64, AndB_of, IfB_of, IfB_no, pickE_of, pickE_no, ite_of, ite_no, tdivE, tmodE, takeAll]
  refine AW.cut (fun zs => (mverOf (slotOf zs 6), midOf (slotOf zs 6), mlenOf (slotOf zs 6), cellsOf (blkOf zs (midOf (slotOf zs 6))), intOf (slotOf zs 7), intOf (nthA (cellsOf (blkOf zs (rid))) 1), nxOf zs)) (fun zz => [(0, none), (0, none), (4, some (.msl zz.2.1 zz.1 4 0 zz.2.2.1)), (0, some (.int .i64 (zz.2.2.2.2.1 : Int)))]) (fun zz => upd (upd H rid (.live 0 [.sl bs.size false (bytesCells bs), .int .i64 (zz.2.2.2.2.2.1)])) zz.2.1 (.live zz.1 zz.2.2.2.1)) (fun zz => zz.2.2.2.2.2.2) (fun zz => nx ≤ zz.2.1 ∧ zz.2.1 < zz.2.2.2.2.2.2 ∧ Flat GVer.c PVr zz.2.2.2.1 zz.2.2.1 ∧ zz.2.2.1 ≤ 60 ∧ p ≤ zz.2.2.2.2.2.1 ∧ zz.2.2.2.2.2.1 ≤ p + 3000 ∧ 1 ≤ zz.2.2.2.2.1 ∧ zz.2.2.2.2.1 ≤ 100) ?zcut0 ?_
  case' zcut0 => simp (maxSteps := 4000000) (disch := omega) only [go_sem, w64, AndB_of, IfB_of, IfB_no, pickE_of, pickE_no, ite_of, ite_no, tdivE, tmodE, takeAll]
  · apply CallB.law; (focus (apply d_pick; (repeat (first | exact hH | exact upd_same _ _ _ | rw [upd_ne _ _ (by omega)])); all_goals omega)); rintro _ _ _ ⟨x, hx0, hx1, rfl, rfl, rfl⟩
    simp (maxSteps := 4000000) (disch := omega) only [go_sem, w64, AndB_of, IfB_of, IfB_no, pickE_of, pickE_no, ite_of, ite_no, tdivE, tmodE, takeAll]
    refine LoopB.auto (fun zs => (mverOf (slotOf zs 6), midOf (slotOf zs 6), mlenOf (slotOf zs 6), cellsOf (blkOf zs (midOf (slotOf zs 6))), intOf (slotOf zs 7), intOf (slotOf zs 8), intOf (nthA (cellsOf (blkOf zs (rid))) 1), nxOf zs)) (fun zz => [(0, none), (0, none), (4, some (.msl zz.2.1 zz.1 4 0 zz.2.2.1)), (0, some (.int .i64 (zz.2.2.2.2.1 : Int))), (0, some (.int .i64 (zz.2.2.2.2.2.1 : Int)))]) (fun zz => upd (upd H rid (.live 0 [.sl bs.size false (bytesCells bs), .int .i64 (zz.2.2.2.2.2.2.1)])) zz.2.1 (.live zz.1 zz.2.2.2.1)) (fun zz => zz.2.2.2.2.2.2.2) (fun zz => zz.2.2.2.2.2.1.toNat) (fun zz => nx ≤ zz.2.1 ∧ zz.2.1 < zz.2.2.2.2.2.2.2 ∧ Flat GVer.c PVr zz.2.2.2.1 zz.2.2.1 ∧ zz.2.2.1 ≤ 60 ∧ 0 ≤ zz.2.2.2.2.2.1 ∧ zz.2.2.2.2.2.1 ≤ 6 ∧ p ≤ zz.2.2.2.2.2.2.1 ∧ zz.2.2.2.2.2.2.1 ≤ p + 1 + 400 * (6 - zz.2.2.2.2.2.1) ∧ 1 ≤ zz.2.2.2.2.1 ∧ zz.2.2.2.2.1 ≤ 1 + 3 * (6 - zz.2.2.2.2.2.1)) (by (first | simp (maxSteps := 4000000) (disch := omega) only [go_sem, w64, AndB_of, IfB_of, IfB_no, pickE_of, pickE_no, ite_of, ite_no, tdivE, tmodE, takeAll, hH] | simp (maxSteps := 4000000) (disch := omega) only [go_sem, w64, AndB_of, IfB_of, IfB_no, pickE_of, pickE_no, ite_of, ite_no, tdivE, tmodE, takeAll]); ((repeat' apply And.intro) <;> first | exact Flat.nil | (exact Weak.go (by (first | (simp [wkL]; done) | (simp [wkL]; omega))) (fun zi => by first | exact .inl rfl | exact .inr rfl | (simp only [upd]; repeat' split) <;> first | exact Flat.nil | exact .inl rfl | exact .inr rfl | (exfalso; omega) | exact .inr (hd _ (by omega)) | (left; subst_vars; exact hH.symm) | (left; subst_vars; rfl) | (left; simp; done) | (left; simp; omega)) (by omega)) | omega | rfl | assumption | exact Flat.nil | exact ⟨_, rfl, rfl, by assumption⟩ | (simp; done) | (simp; omega))) ?_
    intro zz zh
    obtain ⟨v, o, m, cells, tm, kk, q, x⟩ := zz
    dsimp only at zh
    obtain ⟨ho, hox, hF, hm, hk0, hk1, hq1, hq2, ht1, ht2⟩ := zh
    simp (maxSteps := 4000000) (disch := omega) only [go_sem, w64, AndB_of, IfB_of, IfB_no, pickE_of, pickE_no, ite_of, ite_no, tdivE, tmodE, takeAll]
    have hlen := hF.len GVer.len
    refine IfB.dec (fun c1 => ?_) (fun c1 => ?_)
    · simp (maxSteps := 4000000) (disch := omega) only [go_sem, w64, AndB_of, IfB_of, IfB_no, pickE_of, pickE_no, ite_of, ite_no, tdivE, tmodE, takeAll]
      repeat' (first | (refine IfB.dec (fun h => ?_) (fun h => ?_) <;> (try (have h2 := h; unfold inR at h2)) <;> (try simp (maxSteps := 4000000) (disch := omega) only [go_sem, w64, AndB_of, IfB_of, IfB_no, pickE_of, pickE_no, ite_of, ite_no, tdivE, tmodE, takeAll, h])) | (refine IfB.split (fun h => ?_) (fun h => ?_) <;> (try simp (maxSteps := 4000000) (disch := omega) only [go_sem, w64, AndB_of, IfB_of, IfB_no, pickE_of, pickE_no, ite_of, ite_no, tdivE, tmodE, takeAll, h])) | (apply CallB.law; (focus (apply d_writes; omega; (repeat (first | exact hH | exact upd_same _ _ _ | rw [upd_ne _ _ (by omega)])); (first | exact fun i hi => hd i (by omega) | (intro i hi; repeat (first | exact hd i (by omega) | exact rfl | rw [upd_ne _ _ (by omega)]))); all_goals omega)); rintro _ _ _ ⟨wrs, q, hq0, hq1, hr1, hr2, rfl, rfl, rfl⟩; simp (maxSteps := 4000000) (disch := omega) only [go_sem, w64, AndB_of, IfB_of, IfB_no, pickE_of, pickE_no, ite_of, ite_no, tdivE, tmodE, takeAll]))
      have hd := hdd
      obtain ⟨l, rfl, rfl, hP⟩ := hF
      refine CallB.law (d_WrittenAt l (by omega) hP _ hr1 hr2 tm hox (by rw [upd_ne _ _ (by omega)]; exact upd_same ..) (fun i hi => by rw [upd_ne _ _ (by omega), upd_ne _ _ (by omega), upd_ne _ _ (by omega)]; exact hdd i (by omega))) ?_
      rintro _ _ _ ⟨l2, b, e1, e2, rfl, rfl, rfl⟩
      simp (maxSteps := 4000000) (disch := omega) only [go_sem, w64, AndB_of, IfB_of, IfB_no, pickE_of, pickE_no, ite_of, ite_no, tdivE, tmodE, takeAll]
      refine IfB.split (fun c2 => ?_) (fun c2 => ?_)
      · simp (maxSteps := 4000000) (disch := omega) only [go_sem, w64, AndB_of, IfB_of, IfB_no, pickE_of, pickE_no, ite_of, ite_no, tdivE, tmodE, takeAll]
        apply CallB.law; (focus (apply d_pick; (repeat (first | exact hH | exact upd_same _ _ _ | rw [upd_ne _ _ (by omega)])); all_goals omega)); rintro _ _ _ ⟨x, hx0, hx1, rfl, rfl, rfl⟩
        simp (maxSteps := 4000000) (disch := omega) only [go_sem, w64, AndB_of, IfB_of, IfB_no, pickE_of, pickE_no, ite_of, ite_no, tdivE, tmodE, takeAll]
        have hd := hdd
        ((repeat' apply And.intro) <;> first | exact ⟨l2, rfl, rfl, e2⟩ | (exact Weak.go (by (first | (simp [wkL]; done) | (simp [wkL]; omega))) (fun zi => by first | exact .inl rfl | exact .inr rfl | (simp only [upd]; repeat' split) <;> first | exact ⟨l2, rfl, rfl, e2⟩ | exact .inl rfl | exact .inr rfl | (exfalso; omega) | exact .inr (hd _ (by omega)) | (left; subst_vars; exact hH.symm) | (left; subst_vars; rfl) | (left; simp; done) | (left; simp; omega)) (by omega)) | omega | rfl | assumption | exact Flat.nil | exact ⟨_, rfl, rfl, by assumption⟩ | (simp; done) | (simp; omega))
      · simp (maxSteps := 4000000) (disch := omega) only [go_sem, w64, AndB_of, IfB_of, IfB_no, pickE_of, pickE_no, ite_of, ite_no, tdivE, tmodE, takeAll]
        apply CallB.law; (focus (apply d_pick; (repeat (first | exact hH | exact upd_same _ _ _ | rw [upd_ne _ _ (by omega)])); all_goals omega)); rintro _ _ _ ⟨x, hx0, hx1, rfl, rfl, rfl⟩
        simp (maxSteps := 4000000) (disch := omega) only [go_sem, w64, AndB_of, IfB_of, IfB_no, pickE_of, pickE_no, ite_of, ite_no, tdivE, tmodE, takeAll]
        have hd := hdd
        ((repeat' apply And.intro) <;> first | exact ⟨l, rfl, rfl, hP⟩ | (exact Weak.go (by (first | (simp [wkL]; done) | (simp [wkL]; omega))) (fun zi => by first | exact .inl rfl | exact .inr rfl | (simp only [upd]; repeat' split) <;> first | exact ⟨l, rfl, rfl, hP⟩ | exact .inl rfl | exact .inr rfl | (exfalso; omega) | exact .inr (hd _ (by omega)) | (left; subst_vars; exact hH.symm) | (left; subst_vars; rfl) | (left; simp; done) | (left; simp; omega)) (by omega)) | omega | rfl | assumption | exact Flat.nil | exact ⟨_, rfl, rfl, by assumption⟩ | (simp; done) | (simp; omega))
    · simp (maxSteps := 4000000) (disch := omega) only [go_sem, w64, AndB_of, IfB_of, IfB_no, pickE_of, pickE_no, ite_of, ite_no, tdivE, tmodE, takeAll]
      ((repeat' apply And.intro) <;> first | exact hF | (exact Weak.go (by (first | (simp [wkL]; done) | (simp [wkL]; omega))) (fun zi => by first | exact .inl rfl | exact .inr rfl | (simp only [upd]; repeat' split) <;> first | exact hF | exact .inl rfl | exact .inr rfl | (exfalso; omega) | exact .inr (hd _ (by omega)) | (left; subst_vars; exact hH.symm) | (left; subst_vars; rfl) | (left; simp; done) | (left; simp; omega)) (by omega)) | omega | rfl | assumption | exact Flat.nil | exact ⟨_, rfl, rfl, by assumption⟩ | (simp; done) | (simp; omega))
  intro zz zh
  obtain ⟨v, o, m, cells, tm, q, x⟩ := zz
  dsimp only at zh
  obtain ⟨ho, hox, hF, hm, hq1, hq2, ht1, ht2⟩ := zh
  simp (maxSteps := 4000000) (disch := omega) only [go_sem, w64, AndB_of, IfB_of, IfB_no, pickE_of, pickE_no, ite_of, ite_no, tdivE, tmodE, takeAll]
  have hlen := hF.len GVer.len
  obtain ⟨l, rfl, rfl, hP⟩ := hF
  refine AW.cut (fun zs => (mverOf (slotOf zs 6), midOf (slotOf zs 6), mlenOf (slotOf zs 6), cellsOf (blkOf zs (midOf (slotOf zs 6))), intOf (nthA (cellsOf (blkOf zs (rid))) 1), nxOf zs)) (fun zz => [(6, some (.msl zz.2.1 zz.1 4 0 zz.2.2.1)), (0, none)]) (fun zz => upd (upd H rid (.live 0 [.sl bs.size false (bytesCells bs), .int .i64 (zz.2.2.2.2.1)])) zz.2.1 (.live zz.1 zz.2.2.2.1)) (fun zz => zz.2.2.2.2.2) (fun zz => nx ≤ zz.2.1 ∧ zz.2.1 < zz.2.2.2.2.2 ∧ Flat GVer.c PVr zz.2.2.2.1 zz.2.2.1 ∧ zz.2.2.1 ≤ 61 ∧ p ≤ zz.2.2.2.2.1 ∧ zz.2.2.2.2.1 ≤ p + 4000) ?zcut1 ?_
  case' zcut1 => simp (maxSteps := 4000000) (disch := omega) only [go_sem, w64, AndB_of, IfB_of, IfB_no, pickE_of, pickE_no, ite_of, ite_no, tdivE, tmodE, takeAll]
  · have f0 : ∀ i : Nat, i < l.length → ∀ y : Int, Flat GVer.c PVr ((flat GVer.c l).take (i * 4) ++ [.int .i64 y] ++ (flat GVer.c l).drop (i * 4 + 1)) l.length := fun i hi y => Flat.cell GVer.len hP (i := i) 0 rfl hi (by omega) ⟨y, l[i].born, l[i].died, l[i].row⟩ rfl (by exact (hP l[i] (List.getElem_mem hi)))
    have f1 : ∀ i : Nat, i < l.length → ∀ y : Int, Flat GVer.c PVr ((flat GVer.c l).take (i * 4 + 1) ++ [.int .i64 y] ++ (flat GVer.c l).drop (i * 4 + 1 + 1)) l.length := fun i hi y => Flat.cell GVer.len hP (i := i) 1 rfl hi (by omega) ⟨l[i].key, y, l[i].died, l[i].row⟩ rfl (by exact (hP l[i] (List.getElem_mem hi)))
    have f2 : ∀ i : Nat, i < l.length → ∀ y : Int, Flat GVer.c PVr ((flat GVer.c l).take (i * 4 + 2) ++ [.int .i64 y] ++ (flat GVer.c l).drop (i * 4 + 2 + 1)) l.length := fun i hi y => Flat.cell GVer.len hP (i := i) 2 rfl hi (by omega) ⟨l[i].key, l[i].born, y, l[i].row⟩ rfl (by exact (hP l[i] (List.getElem_mem hi)))
    have f3 : ∀ (i : Nat) (hi : i < l.length), Flat GVer.c PVr (flat GVer.c l ++ [.int .i64 l[i].key, .int .i64 l[i].born, .int .i64 l[i].died, rowA l[i].row]) (l.length + 1) := fun i hi => Flat.snoc ⟨l, rfl, rfl, hP⟩ l[i] (hP _ (List.getElem_mem hi))
    have f4 : Flat GVer.c PVr (flat GVer.c l) l.length := ⟨l, rfl, rfl, hP⟩
    repeat' (first | (refine IfB.dec (fun h => ?_) (fun h => ?_) <;> (try (have h2 := h; unfold inR at h2)) <;> (try simp (maxSteps := 4000000) (disch := omega) only [go_sem, w64, AndB_of, IfB_of, IfB_no, pickE_of, pickE_no, ite_of, ite_no, tdivE, tmodE, takeAll, h])) | (refine IfB.split (fun h => ?_) (fun h => ?_) <;> (try simp (maxSteps := 4000000) (disch := omega) only [go_sem, w64, AndB_of, IfB_of, IfB_no, pickE_of, pickE_no, ite_of, ite_no, tdivE, tmodE, takeAll, h])) | (apply CallB.law; (focus (apply d_odd; (repeat (first | exact hH | exact upd_same _ _ _ | rw [upd_ne _ _ (by omega)])); all_goals omega)); rintro _ _ _ ⟨x, q, hq0, hq1, rfl, rfl, rfl⟩; simp (maxSteps := 4000000) (disch := omega) only [go_sem, w64, AndB_of, IfB_of, IfB_no, pickE_of, pickE_no, ite_of, ite_no, tdivE, tmodE, takeAll]) | (apply CallB.law; (focus (apply d_pick; (repeat (first | exact hH | exact upd_same _ _ _ | rw [upd_ne _ _ (by omega)])); all_goals omega)); rintro _ _ _ ⟨x, hx0, hx1, rfl, rfl, rfl⟩; simp (maxSteps := 4000000) (disch := omega) only [go_sem, w64, AndB_of, IfB_of, IfB_no, pickE_of, pickE_no, ite_of, ite_no, tdivE, tmodE, takeAll]))
    all_goals (have hd := hdd)
    all_goals ((repeat' apply And.intro) <;> first | exact f4 | exact f0 _ (by omega) _ | exact f1 _ (by omega) _ | exact f2 _ (by omega) _ | exact f3 _ _ | (exact Weak.go (by (first | (simp [wkL]; done) | (simp [wkL]; omega))) (fun zi => by first | exact .inl rfl | exact .inr rfl | (simp only [upd]; repeat' split) <;> first | exact f4 | exact f0 _ (by omega) _ | exact f1 _ (by omega) _ | exact f2 _ (by omega) _ | exact f3 _ _ | exact .inl rfl | exact .inr rfl | (exfalso; omega) | exact .inr (hd _ (by omega)) | (left; subst_vars; exact hH.symm) | (left; subst_vars; rfl) | (left; simp; done) | (left; simp; omega)) (by omega)) | omega | rfl | assumption | exact Flat.nil | exact ⟨_, rfl, rfl, by assumption⟩ | (simp; done) | (simp; omega))
  intro zz zh
  obtain ⟨v, o, m, cells, q, x⟩ := zz
  dsimp only at zh
  obtain ⟨ho, hox, hF, hm, hq1, hq2⟩ := zh
  simp (maxSteps := 4000000) (disch := omega) only [go_sem, w64, AndB_of, IfB_of, IfB_no, pickE_of, pickE_no, ite_of, ite_no, tdivE, tmodE, takeAll]
  have hlen := hF.len GVer.len
  obtain ⟨l, rfl, rfl, hP⟩ := hF
  refine AW.of ?_
  simp (maxSteps := 4000000) (disch := omega) only [go_sem, w64, AndB_of, IfB_of, IfB_no, pickE_of, pickE_no, ite_of, ite_no, tdivE, tmodE, takeAll]
  refine ⟨_, _, (by repeat (first | exact OldR.base hH | refine OldR.set ?_ | refine OldR.new (by omega) ?_ | exact OldW.refl | refine OldW.new (by omega) ?_ | refine OldW.rd ?_)), (by simp [pureL, pureA, bytesCells_pure]), ?_⟩
  exact ⟨l, q, tm, by omega, by omega, by omega, hP, by omega, by omega, rfl, rfl⟩
theorem x_DrawVersionsOk (s : ByteArray) : ∃ R, (∃ (l : List GVer), l.length ≤ 61 ∧ (∀ w ∈ l, PVr w) ∧ R = versA l) ∧ QCall Try.prog 36 [.sl s.size false (bytesCells s)] R := by
  refine qex_of (by simp [pureL, pureA, bytesCells_pure]) 1 ?_
  refine dcall_body mixed Try.func36 _ (by unfold Try.f36; rfl) Try.ntmps36 Try.results36 (by decide) (by simp) ?_
  simp (maxSteps := 4000000) (disch := omega) only [go_sem, w64, AndB_of, IfB_of, IfB_no, pickE_of, pickE_no, ite_of, ite_no, tdivE, tmodE, takeAll]
  apply CallB.law; (focus (apply d_open; (repeat (first | exact hH | exact upd_same _ _ _ | rw [upd_ne _ _ (by omega)])); all_goals omega)); rintro _ _ _ ⟨bs, hbs, rfl, rfl, rfl⟩
  simp (maxSteps := 4000000) (disch := omega) only [go_sem, w64, AndB_of, IfB_of, IfB_no, pickE_of, pickE_no, ite_of, ite_no, tdivE, tmodE, takeAll]
  apply CallB.law; (focus (apply d_versions; omega; (repeat (first | exact hH | exact upd_same _ _ _ | rw [upd_ne _ _ (by omega)])); (first | exact fun i hi => hd i (by omega) | (intro i hi; repeat (first | exact hd i (by omega) | exact rfl | rw [upd_ne _ _ (by omega)]))); all_goals omega)); rintro _ _ _ ⟨l, q, tm, hq0, hq1, hr1, hr2, ht1, ht2, rfl, rfl, rfl⟩
  simp (maxSteps := 4000000) (disch := omega) only [go_sem, w64, AndB_of, IfB_of, IfB_no, pickE_of, pickE_no, ite_of, ite_no, tdivE, tmodE, takeAll]
  exact ⟨l, by omega, hr2, rfl⟩
theorem x_DrawSeenAt (s : ByteArray) : ∃ R, (∃ (l : List GVer) (key time : Int), l.length ≤ 61 ∧ (∀ w ∈ l, PVr w) ∧ -1 ≤ key ∧ key ≤ 5 ∧ 0 ≤ time ∧ time ≤ 103 ∧ R = .tup [versA l, .int .i64 key, .int .i64 time]) ∧ QCall Try.prog 60 [.sl s.size false (bytesCells s)] R := by
  refine qex_of (by simp [pureL, pureA, bytesCells_pure]) 1 ?_
  refine dcall_body mixed Try.func60 _ (by unfold Try.f60; rfl) Try.ntmps60 Try.results60 (by decide) (by simp) ?_
  simp (maxSteps := 4000000) (disch := omega) only [go_sem, w64, AndB_of, IfB_of, IfB_no, pickE_of, pickE_no, ite_of, ite_no, tdivE, tmodE, takeAll]
  apply CallB.law; (focus (apply d_open; (repeat (first | exact hH | exact upd_same _ _ _ | rw [upd_ne _ _ (by omega)])); all_goals omega)); rintro _ _ _ ⟨bs, hbs, rfl, rfl, rfl⟩
  simp (maxSteps := 4000000) (disch := omega) only [go_sem, w64, AndB_of, IfB_of, IfB_no, pickE_of, pickE_no, ite_of, ite_no, tdivE, tmodE, takeAll]
  apply CallB.law; (focus (apply d_versions; omega; (repeat (first | exact hH | exact upd_same _ _ _ | rw [upd_ne _ _ (by omega)])); (first | exact fun i hi => hd i (by omega) | (intro i hi; repeat (first | exact hd i (by omega) | exact rfl | rw [upd_ne _ _ (by omega)]))); all_goals omega)); rintro _ _ _ ⟨l, q, tm, hq0, hq1, hr1, hr2, ht1, ht2, rfl, rfl, rfl⟩
  simp (maxSteps := 4000000) (disch := omega) only [go_sem, w64, AndB_of, IfB_of, IfB_no, pickE_of, pickE_no, ite_of, ite_no, tdivE, tmodE, takeAll]
  repeat' (first | (refine IfB.dec (fun h => ?_) (fun h => ?_) <;> (try (have h2 := h; unfold inR at h2)) <;> (try simp (maxSteps := 4000000) (disch := omega) only [go_sem, w64, AndB_of, IfB_of, IfB_no, pickE_of, pickE_no, ite_of, ite_no, tdivE, tmodE, takeAll, h])) | (refine IfB.split (fun h => ?_) (fun h => ?_) <;> (try simp (maxSteps := 4000000) (disch := omega) only [go_sem, w64, AndB_of, IfB_of, IfB_no, pickE_of, pickE_no, ite_of, ite_no, tdivE, tmodE, takeAll, h])) | (apply CallB.law; (focus (apply d_pick; (repeat (first | exact hH | exact upd_same _ _ _ | rw [upd_ne _ _ (by omega)])); all_goals omega)); rintro _ _ _ ⟨x, hx0, hx1, rfl, rfl, rfl⟩; simp (maxSteps := 4000000) (disch := omega) only [go_sem, w64, AndB_of, IfB_of, IfB_no, pickE_of, pickE_no, ite_of, ite_no, tdivE, tmodE, takeAll]))
  exact ⟨l, _, _, by omega, hr2, by omega, by omega, by omega, by omega, rfl⟩
theorem x_DrawLastTurn (s : ByteArray) : ∃ R, (∃ (l : List GVer) (key : Int), l.length ≤ 61 ∧ (∀ w ∈ l, PVr w) ∧ -1 ≤ key ∧ key ≤ 5 ∧ R = .tup [versA l, .int .i64 key]) ∧ QCall Try.prog 62 [.sl s.size false (bytesCells s)] R := by
  refine qex_of (by simp [pureL, pureA, bytesCells_pure]) 1 ?_
  refine dcall_body mixed Try.func62 _ (by unfold Try.f62; rfl) Try.ntmps62 Try.results62 (by decide) (by simp) ?_
  simp (maxSteps := 4000000) (disch := omega) only [go_sem, w64, AndB_of, IfB_of, IfB_no, pickE_of, pickE_no, ite_of, ite_no, tdivE, tmodE, takeAll]
  apply CallB.law; (focus (apply d_open; (repeat (first | exact hH | exact upd_same _ _ _ | rw [upd_ne _ _ (by omega)])); all_goals omega)); rintro _ _ _ ⟨bs, hbs, rfl, rfl, rfl⟩
  simp (maxSteps := 4000000) (disch := omega) only [go_sem, w64, AndB_of, IfB_of, IfB_no, pickE_of, pickE_no, ite_of, ite_no, tdivE, tmodE, takeAll]
  apply CallB.law; (focus (apply d_versions; omega; (repeat (first | exact hH | exact upd_same _ _ _ | rw [upd_ne _ _ (by omega)])); (first | exact fun i hi => hd i (by omega) | (intro i hi; repeat (first | exact hd i (by omega) | exact rfl | rw [upd_ne _ _ (by omega)]))); all_goals omega)); rintro _ _ _ ⟨l, q, tm, hq0, hq1, hr1, hr2, ht1, ht2, rfl, rfl, rfl⟩
  simp (maxSteps := 4000000) (disch := omega) only [go_sem, w64, AndB_of, IfB_of, IfB_no, pickE_of, pickE_no, ite_of, ite_no, tdivE, tmodE, takeAll]
  repeat' (first | (refine IfB.dec (fun h => ?_) (fun h => ?_) <;> (try (have h2 := h; unfold inR at h2)) <;> (try simp (maxSteps := 4000000) (disch := omega) only [go_sem, w64, AndB_of, IfB_of, IfB_no, pickE_of, pickE_no, ite_of, ite_no, tdivE, tmodE, takeAll, h])) | (refine IfB.split (fun h => ?_) (fun h => ?_) <;> (try simp (maxSteps := 4000000) (disch := omega) only [go_sem, w64, AndB_of, IfB_of, IfB_no, pickE_of, pickE_no, ite_of, ite_no, tdivE, tmodE, takeAll, h])) | (apply CallB.law; (focus (apply d_pick; (repeat (first | exact hH | exact upd_same _ _ _ | rw [upd_ne _ _ (by omega)])); all_goals omega)); rintro _ _ _ ⟨x, hx0, hx1, rfl, rfl, rfl⟩; simp (maxSteps := 4000000) (disch := omega) only [go_sem, w64, AndB_of, IfB_of, IfB_no, pickE_of, pickE_no, ite_of, ite_no, tdivE, tmodE, takeAll]))
  exact ⟨l, _, by omega, hr2, by omega, by omega, rfl⟩
end Go.TH
