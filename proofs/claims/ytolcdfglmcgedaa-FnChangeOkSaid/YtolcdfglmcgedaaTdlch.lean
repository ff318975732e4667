/- TH: the law FnChangeOk. Made by gen.py. -/
import Derived.Test.YtolcdfglmcgedaaTf3
import Derived.Test.YtolcdfglmcgedaaTddch
import Derived.Test.YtolcdfglmcgedaaTdta
import Derived.Test.YtolcdfglmcgedaaTdn
namespace Go.TH
open Go Go.Proofs
set_option linter.unusedSimpArgs false
set_option linter.unusedVariables false
set_option maxHeartbeats 20000000
set_option maxRecDepth 100000
theorem d_turns {H : AH} {nx rid : Nat} {bs : ByteArray} {p n : Int} (hr : rid < nx) (hH : H rid = .live 0 [.sl bs.size false (bytesCells bs), .int .i64 (p)]) (hd : ∀ i, nx ≤ i → H i = .dead) (hp0 : 0 ≤ p) (hp : p ≤ 600000000) (hb : bs.size ≤ 2000) (hn0 : -100000000 ≤ n) (hn : n ≤ 100000000) :
    ACallD Try.prog 51 [.ptr rid 0 0, .int .i64 n] H nx (fun r H' nx' => ∃ (l : List GTb) (c : GCh) (q : Int), l.length ≤ 6 ∧ (∀ t ∈ l, PTb t) ∧ ChB c ∧ r = .tup [tabsA l, .agg [.int .i64 c.tin, rowA c.row, .bool c.come]] ∧ H' = upd H rid (.live 0 [.sl bs.size false (bytesCells bs), .int .i64 (q)]) ∧ nx' = nx) := by
  have hdd := hd
  refine ACallD.finR 2 rid hr ?_
  refine dcall_body mixed Try.func51 _ (by unfold Try.f51; rfl) Try.ntmps51 Try.results51 (by decide) (by simp) ?_
  simp (maxSteps := 4000000) (disch := omega) only [go_sem, w64, AndB_of, IfB_of, IfB_no, pickE_of, pickE_no, ite_of, ite_no, tdivE, tmodE, takeAll]
  refine CallB.law (d_tables (p := p) (by omega) (by rw [upd_ne _ _ (by omega)]; exact hH) (fun i hi => by rw [upd_ne _ _ (by omega)]; exact hdd i (by omega)) (by omega) (by omega) hb (by omega) (by omega)) ?_
  rintro _ _ _ ⟨l, q, q1, q2, l1, l2, hP, rfl, rfl, rfl⟩
  simp (maxSteps := 4000000) (disch := omega) only [go_sem, w64, AndB_of, IfB_of, IfB_no, pickE_of, pickE_no, ite_of, ite_no, tdivE, tmodE, takeAll]
  refine CallB.law (d_change (p := q) l l1 l2 hP (by omega) (upd_same ..) (fun i hi => by rw [upd_ne _ _ (by omega), upd_ne _ _ (by omega)]; exact hdd i (by omega)) (by omega) (by omega) hb (by omega) (by omega)) ?_
  rintro _ _ _ ⟨c, q3, hc, rfl, rfl, rfl⟩
  simp (maxSteps := 4000000) (disch := omega) only [go_sem, w64, AndB_of, IfB_of, IfB_no, pickE_of, pickE_no, ite_of, ite_no, tdivE, tmodE, takeAll]
  refine ⟨_, _, (by repeat (first | exact OldR.base hH | refine OldR.set ?_ | refine OldR.new (by omega) ?_ | exact OldW.refl | refine OldW.new (by omega) ?_ | refine OldW.rd ?_)), (by simp [pureL, pureA, bytesCells_pure]), ?_⟩
  exact ⟨l, c, q3, l2, hP, hc, rfl, rfl⟩
theorem x_DrawChangeOk (s : ByteArray) : ∃ R, (∃ (l : List GTb) (c : GCh), l.length ≤ 6 ∧ (∀ t ∈ l, PTb t) ∧ ChB c ∧ R = .tup [tabsA l, .agg [.int .i64 c.tin, rowA c.row, .bool c.come]]) ∧ QCall Try.prog 14 [.sl s.size false (bytesCells s)] R := by
  refine qex_of (by simp [pureL, pureA, bytesCells_pure]) 2 ?_
  refine dcall_body mixed Try.func14 _ (by unfold Try.f14; rfl) Try.ntmps14 Try.results14 (by decide) (by simp) ?_
  simp (maxSteps := 4000000) (disch := omega) only [go_sem, w64, AndB_of, IfB_of, IfB_no, pickE_of, pickE_no, ite_of, ite_no, tdivE, tmodE, takeAll]
  apply CallB.law; (focus (apply d_open; (repeat (first | exact hH | exact upd_same _ _ _ | rw [upd_ne _ _ (by omega)])); all_goals omega)); rintro _ _ _ ⟨bs, hbs, rfl, rfl, rfl⟩
  simp (maxSteps := 4000000) (disch := omega) only [go_sem, w64, AndB_of, IfB_of, IfB_no, pickE_of, pickE_no, ite_of, ite_no, tdivE, tmodE, takeAll]
  refine CallB.law (d_turns (by omega) (upd_same ..) (fun i hi => by rw [upd_ne _ _ (by omega), upd_ne _ _ (by omega)]; rfl) (by omega) (by omega) (by omega) (by omega) (by omega)) ?_
  rintro _ _ _ ⟨l, c, q, l1, hP, hc, rfl, rfl, rfl⟩
  simp (maxSteps := 4000000) (disch := omega) only [go_sem, w64, AndB_of, IfB_of, IfB_no, pickE_of, pickE_no, ite_of, ite_no, tdivE, tmodE, takeAll]
  exact ⟨l, c, l1, hP, hc, rfl⟩
theorem cntR_snoc (r : GRow) (l : List GRow) : 0 < cntR r (l ++ [r]) := by
  unfold cntR
  rw [List.filter_append]
  simp
theorem chOk_back {ts : List GTb} {c : GCh} {j : Nat} (hj : j < ts.length) (ht : c.tin = j) (hk : chOk ts c) : chOk (ts.set j ⟨ts[j].cols, rowsAfter c ts[j]⟩) ⟨c.tin, c.row, !c.come⟩ := by
  obtain ⟨k1, hb, k2, k3⟩ := hk
  have hjj : c.tin.toNat = j := by omega
  simp only [hjj] at k2 k3
  obtain ⟨k4, k5, k6⟩ := k1.2 _ (List.getElem_mem hj)
  have hR : (rowsAfter c ts[j]).length ≤ 6 ∧ (∀ r ∈ rowsAfter c ts[j], rowFits ts[j].cols r) ∧ ((c.come = true ∧ 0 < cntR c.row (rowsAfter c ts[j])) ∨ (c.come = false ∧ (rowsAfter c ts[j]).length < 6)) := by
    unfold rowsAfter
    rcases k3 with ⟨e, k3⟩ | ⟨e, k3⟩
    · rw [if_pos e]
      exact ⟨by simp; omega, fun r hr => (List.mem_append.1 hr).elim (k6 r) fun h => by simp at h; subst h; exact k2, .inl ⟨e, cntR_snoc _ _⟩⟩
    · rw [if_neg (by rw [e]; simp)]
      have h0 := (idx_cnt c.row ts[j].rows).2 k3
      have h5 := idxF_spec (fun x => decide (x = c.row)) ts[j].rows
      generalize idxF (fun x => decide (x = c.row)) ts[j].rows = I at h0 h5 ⊢
      have h6 : I.toNat < ts[j].rows.length := by rcases h5 with ⟨a, _⟩ | ⟨i, hi, a, _, _⟩ <;> omega
      have h7 : (ts[j].rows.eraseIdx I.toNat).length = ts[j].rows.length - 1 := by rw [List.length_eraseIdx, if_pos h6]
      exact ⟨by omega, fun r hr => k6 r (List.mem_of_mem_eraseIdx hr), .inr ⟨e, by omega⟩⟩
  obtain ⟨r1, r2, r3⟩ := hR
  have hg : ∀ h : c.tin.toNat < (ts.set j ⟨ts[j].cols, rowsAfter c ts[j]⟩).length, (ts.set j ⟨ts[j].cols, rowsAfter c ts[j]⟩)[c.tin.toNat]'h = ⟨ts[j].cols, rowsAfter c ts[j]⟩ := fun h => by simp only [hjj, List.getElem_set_self]
  refine ⟨⟨by rw [List.length_set]; exact k1.1, fun t ht => ?_⟩, ⟨hb.1, by rw [List.length_set]; exact hb.2⟩, ?_, ?_⟩
  · rcases List.mem_or_eq_of_mem_set ht with h | h
    · exact k1.2 t h
    · subst h
      exact ⟨r1, k5, r2⟩
  · rw [hg]
    exact k2
  · rw [hg]
    rcases r3 with ⟨e, r3⟩ | ⟨e, r3⟩
    · exact .inr ⟨by simp [e], r3⟩
    · exact .inl ⟨by simp [e], r3⟩
theorem w_ChangeOk (s : ByteArray) (hs : s.size ≤ 9223372036854775807) :
    CallQ Try.prog 3 [.sl s.size false (bytesCells s)] noH 0 fun r _ _ => r = .bool true := by
  refine callQ_body mixed Try.func3 _ (by unfold Try.f3; rfl) Try.ntmps3 Try.results3 (by decide) (by simp) ?_
  simp (maxSteps := 4000000) (disch := omega) only [go_sem, w64, AndB_of, IfB_of, IfB_no, pickE_of, pickE_no, ite_of, ite_no, tdivE, tmodE, takeAll]
  refine IfB.dec (fun h => ?_) (fun h => ?_)
  · simp (maxSteps := 4000000) (disch := omega) only [go_sem, w64, AndB_of, IfB_of, IfB_no, pickE_of, pickE_no, ite_of, ite_no, tdivE, tmodE, takeAll]
  obtain ⟨R, ⟨ts, c, hl, hP, hc, rfl⟩, hq⟩ := x_DrawChangeOk s
  have hsm : ∀ t ∈ ts, TbB t := fun t ht => ⟨by have := (hP t ht).1; omega, by have := (hP t ht).2.1; omega, fun r hr => ⟨by have := ((hP t ht).2.2 r hr).1; omega, fun v hv => by have := ((hP t ht).2.2 r hr).2 v hv; omega⟩⟩
  simp (maxSteps := 4000000) (disch := omega) only [go_sem, w64, AndB_of, IfB_of, IfB_no, pickE_of, pickE_no, ite_of, ite_no, tdivE, tmodE, takeAll]
  apply CallB.q hq
  simp (maxSteps := 4000000) (disch := omega) only [go_sem, w64, AndB_of, IfB_of, IfB_no, pickE_of, pickE_no, ite_of, ite_no, tdivE, tmodE, takeAll]
  apply CallB.q (q_ChangeOkI ts c (by omega) hsm hc)
  simp (maxSteps := 4000000) (disch := omega) only [go_sem, w64, AndB_of, IfB_of, IfB_no, pickE_of, pickE_no, ite_of, ite_no, tdivE, tmodE, takeAll]
  apply CallB.q (q_ChangeOkS ts c (by omega) hsm hc)
  simp (maxSteps := 4000000) (disch := omega) only [go_sem, w64, AndB_of, IfB_of, IfB_no, pickE_of, pickE_no, ite_of, ite_no, tdivE, tmodE, takeAll]
  refine IfB.dec (fun hk => ?_) (fun hk => ?_)
  · have hk2 := hk
    obtain ⟨k1, hb, k2, k3⟩ := hk2
    have hj : c.tin.toNat < ts.length := by omega
    have hk3 := chOk_back hj (by omega) hk
    have hsm2 : ∀ t ∈ ts.set c.tin.toNat ⟨ts[c.tin.toNat].cols, rowsAfter c ts[c.tin.toNat]⟩, TbB t := fun t ht => by
      rcases List.mem_or_eq_of_mem_set ht with h | h
      · exact hsm t h
      · subst h
        have h8 := hsm _ (List.getElem_mem hj)
        have h9 := hP _ (List.getElem_mem hj)
        refine ⟨h8.1, ?_, ?_⟩
        · unfold rowsAfter
          have := h9.2.1
          split
          · simp; omega
          · rw [List.length_eraseIdx]; split <;> omega
        · unfold rowsAfter
          split
          · exact fun r hr => (List.mem_append.1 hr).elim (h8.2.2 r) fun h => by simp at h; subst h; exact ⟨hc.1, fun v hv => by have := hc.2 v hv; unfold VB at this; omega⟩
          · exact fun r hr => h8.2.2 r (List.mem_of_mem_eraseIdx hr)
    have hq2 := q_ChangeOkI _ ⟨c.tin, c.row, !c.come⟩ (by rw [List.length_set]; omega) hsm2 hc
    rw [decide_eq_true hk3] at hq2
    simp (maxSteps := 4000000) (disch := omega) only [go_sem, w64, AndB_of, IfB_of, IfB_no, pickE_of, pickE_no, ite_of, ite_no, tdivE, tmodE, takeAll]
    refine CallB.law (o_TablesAfter ts c (by omega) hsm hc hk c.tin.toNat hj (by omega) (fun i hi => by rw [upd_ne _ _ (by omega)]; rfl)) ?_
    rintro _ _ _ ⟨rfl, rfl, rfl⟩
    simp (maxSteps := 4000000) (disch := omega) only [go_sem, w64, AndB_of, IfB_of, IfB_no, pickE_of, pickE_no, ite_of, ite_no, tdivE, tmodE, takeAll]
    refine CallB.q hq2 ?_
    simp (maxSteps := 4000000) (disch := omega) only [go_sem, w64, AndB_of, IfB_of, IfB_no, pickE_of, pickE_no, ite_of, ite_no, tdivE, tmodE, takeAll]
  · simp (maxSteps := 4000000) (disch := omega) only [go_sem, w64, AndB_of, IfB_of, IfB_no, pickE_of, pickE_no, ite_of, ite_no, tdivE, tmodE, takeAll]
    repeat' (first | (refine IfB.dec (fun h => ?_) (fun h => ?_) <;> (try (have h2 := h; unfold inR at h2)) <;> (try simp (maxSteps := 4000000) (disch := omega) only [go_sem, w64, AndB_of, IfB_of, IfB_no, pickE_of, pickE_no, ite_of, ite_no, tdivE, tmodE, takeAll, h])) | (refine IfB.split (fun h => ?_) (fun h => ?_) <;> (try simp (maxSteps := 4000000) (disch := omega) only [go_sem, w64, AndB_of, IfB_of, IfB_no, pickE_of, pickE_no, ite_of, ite_no, tdivE, tmodE, takeAll, h])) | (refine DrawB.quiet (by kernel_rfl) ?_; simp (maxSteps := 4000000) (disch := omega) only [go_sem, w64, AndB_of, IfB_of, IfB_no, pickE_of, pickE_no, ite_of, ite_no, tdivE, tmodE, takeAll]) | (apply CallB.q (q_alive); simp (maxSteps := 4000000) (disch := omega) only [go_sem, w64, AndB_of, IfB_of, IfB_no, pickE_of, pickE_no, ite_of, ite_no, tdivE, tmodE, takeAll]) | (apply DCallB.q0 (q_alive); simp (maxSteps := 4000000) (disch := omega) only [go_sem, w64, AndB_of, IfB_of, IfB_no, pickE_of, pickE_no, ite_of, ite_no, tdivE, tmodE, takeAll]))
end Go.TH
