/- TH: the law FnRowsOnce. Made by gen.py. -/
import Derived.Test.YtbhibkochjfdfaaTan2
import Derived.Test.YtbhibkochjfdfaaTad4
namespace Go.TH
open Go Go.Proofs
set_option linter.unusedSimpArgs false
set_option linter.unusedVariables false
set_option maxHeartbeats 20000000
set_option maxRecDepth 100000
theorem PR_small' {r : GRow} {k : Nat} (hk : k ≤ 1000) (h : PR k r) : smallR r := ⟨by have := h.1; omega, fun v hv => by have := (h.2 v hv).1; omega⟩
theorem cntR_cons (r x : GRow) (l : List GRow) : cntR r (x :: l) = cntR r l + if x = r then 1 else 0 := by
  unfold cntR
  by_cases h : x = r
  · simp [h]
  · simp [h]
theorem cntR_zero {r : GRow} : ∀ {l : List GRow}, cntR r l = 0 ↔ r ∉ l
  | [] => by simp [cntR]
  | x :: l => by
    rw [cntR_cons]
    have := cntR_le r l
    by_cases h : x = r
    · subst h
      simp
      omega
    · rw [if_neg h, Int.add_zero, cntR_zero (l := l)]
      simp [Ne.symm h]
theorem cntR_one {r : GRow} : ∀ {l : List GRow}, l.Nodup → r ∈ l → cntR r l = 1
  | [], _, h => by simp at h
  | x :: l, hn, h => by
    rw [cntR_cons]
    obtain ⟨h1, h2⟩ := List.nodup_cons.1 hn
    by_cases e : x = r
    · subst e
      rw [if_pos rfl, cntR_zero.2 h1]
      rfl
    · rw [if_neg e, cntR_one h2 ((List.mem_cons.1 h).resolve_left (Ne.symm e))]
      rfl
theorem onceL_mem {x : GRow} : ∀ {l out : List GRow}, x ∈ onceL out l ↔ x ∈ out ∨ x ∈ l
  | [], out => by simp [onceL]
  | r :: l, out => by
    rw [onceL]
    split
    · rw [onceL_mem (l := l)]
      simp [or_assoc]
    · rename_i h
      have hm : r ∈ out := Decidable.byContradiction fun e => h (cntR_zero.2 e)
      rw [onceL_mem (l := l)]
      simp only [List.mem_cons]
      constructor
      · rintro (h | h)
        · exact .inl h
        · exact .inr (.inr h)
      · rintro (h | rfl | h)
        · exact .inl h
        · exact .inl hm
        · exact .inr h
theorem onceL_nodup : ∀ {l out : List GRow}, out.Nodup → (onceL out l).Nodup
  | [], out, h => h
  | r :: l, out, h => by
    rw [onceL]
    split
    · rename_i hc
      refine onceL_nodup (List.nodup_append.2 ⟨h, by simp, fun a ha b hb => ?_⟩)
      simp at hb
      subst hb
      exact fun e => cntR_zero.1 hc (e ▸ ha)
    · exact onceL_nodup h
theorem onceL_same : ∀ {l out : List GRow}, (out ++ l).Nodup → onceL out l = out ++ l
  | [], out, _ => by simp [onceL]
  | r :: l, out, h => by
    have hr : r ∉ out := fun hm => (List.nodup_append.1 h).2.2 r hm r List.mem_cons_self rfl
    rw [onceL, if_pos (cntR_zero.2 hr), onceL_same (by simpa using h)]
    simp
theorem onceL_len : ∀ {l out : List GRow}, (onceL out l).length ≤ out.length + l.length
  | [], out => by simp [onceL]
  | r :: l, out => by
    rw [onceL]
    split
    · have := onceL_len (l := l) (out := out ++ [r]); simp at this ⊢; omega
    · have := onceL_len (l := l) (out := out); simp at this ⊢; omega
theorem w_RowsOnce (s : ByteArray) (hs : s.size ≤ 9223372036854775807) :
    CallQ Try.prog 12 [.sl s.size false (bytesCells s)] noH 0 fun r _ _ => r = .bool true := by
  refine callQ_body mixed Try.func12 _ (by unfold Try.f12; rfl) Try.ntmps12 Try.results12 (by decide) (by simp) ?_
  simp (maxSteps := 4000000) (disch := omega) only [go_sem, w64, AndB_of, IfB_of, IfB_no, pickE_of, pickE_no, ite_of, ite_no, tdivE, tmodE, takeAll]
  refine IfB.dec (fun h => ?_) (fun h => ?_)
  · simp (maxSteps := 4000000) (disch := omega) only [go_sem, w64, AndB_of, IfB_of, IfB_no, pickE_of, pickE_no, ite_of, ite_no, tdivE, tmodE, takeAll]
  obtain ⟨R, ⟨rows, hl, hP, rfl⟩, hq⟩ := x_DrawRowsOnce s
  have hsm : ∀ r ∈ rows, smallR r := fun r hr => PR_small' (by omega) (hP r hr)
  obtain ⟨out, hout⟩ : ∃ out, onceL [] rows = out := ⟨_, rfl⟩
  have hol : out.length ≤ 6 := by have := onceL_len (l := rows) (out := []); rw [hout] at this; simp at this; omega
  have hom : ∀ x, x ∈ out ↔ x ∈ rows := fun x => by rw [← hout, onceL_mem]; simp
  have hos : ∀ r ∈ out, smallR r := fun r hr => hsm r ((hom r).1 hr)
  have hon : out.Nodup := by rw [← hout]; exact onceL_nodup (by simp)
  have hoo : onceL [] out = out := by rw [onceL_same (by simpa using hon)]; rfl
  have e1 := q_RowsOnceI rows (by omega) hsm
  have e2 := q_RowsOnceS rows (by omega) hsm
  have e3 := q_RowsOnceI out (by omega) hos
  rw [hout] at e1 e2
  rw [hoo] at e3
  simp (maxSteps := 4000000) (disch := omega) only [go_sem, w64, AndB_of, IfB_of, IfB_no, pickE_of, pickE_no, ite_of, ite_no, tdivE, tmodE, takeAll]
  apply CallB.q hq
  simp (maxSteps := 4000000) (disch := omega) only [go_sem, w64, AndB_of, IfB_of, IfB_no, pickE_of, pickE_no, ite_of, ite_no, tdivE, tmodE, takeAll]
  apply CallB.q e1
  simp (maxSteps := 4000000) (disch := omega) only [go_sem, w64, AndB_of, IfB_of, IfB_no, pickE_of, pickE_no, ite_of, ite_no, tdivE, tmodE, takeAll]
  apply CallB.q e2
  simp (maxSteps := 4000000) (disch := omega) only [go_sem, w64, AndB_of, IfB_of, IfB_no, pickE_of, pickE_no, ite_of, ite_no, tdivE, tmodE, takeAll]
  apply CallB.q (q_sameRows out out (by omega) hos)
  simp (maxSteps := 4000000) (disch := omega) only [go_sem, w64, AndB_of, IfB_of, IfB_no, pickE_of, pickE_no, ite_of, ite_no, tdivE, tmodE, takeAll]
  unfold rowsA
  refine LoopB.auto (fun zs => (intOf (slotOf zs 5)).toNat) (fun zz => [(3, none), (0, none), (0, some (.int .i64 (zz : Int)))]) (fun zz => noH) (fun zz => 0) (fun zz => rows.length - zz) (fun zz => zz ≤ rows.length) (by (first | simp (maxSteps := 4000000) (disch := omega) only [go_sem, w64, AndB_of, IfB_of, IfB_no, pickE_of, pickE_no, ite_of, ite_no, tdivE, tmodE, takeAll, hH] | simp (maxSteps := 4000000) (disch := omega) only [go_sem, w64, AndB_of, IfB_of, IfB_no, pickE_of, pickE_no, ite_of, ite_no, tdivE, tmodE, takeAll]); ((repeat' apply And.intro) <;> first | (exact Weak.go (by (first | (simp [wkL]; done) | (simp [wkL]; omega))) (fun zi => by first | exact .inl rfl | exact .inr rfl | (simp only [upd]; repeat' split) <;> first | exact .inl rfl | exact .inr rfl | (exfalso; omega) | exact .inr (hd _ (by omega)) | (left; subst_vars; exact hH.symm) | (left; subst_vars; rfl) | (left; simp; done) | (left; simp; omega)) (by omega)) | omega | rfl | assumption | exact Flat.nil | exact ⟨_, rfl, rfl, by assumption⟩ | (simp; done) | (simp; omega))) ?_
  intro k zh
  obtain hk := zh
  simp (maxSteps := 4000000) (disch := omega) only [go_sem, w64, AndB_of, IfB_of, IfB_no, pickE_of, pickE_no, ite_of, ite_no, tdivE, tmodE, takeAll]
  refine IfB.dec (fun h1 => ?_) (fun h1 => ?_)
  · have h1' : k < rows.length := by omega
    have c1 := cntR_one hon ((hom _).2 (List.getElem_mem h1'))
    simp (maxSteps := 4000000) (disch := omega) only [go_sem, w64, AndB_of, IfB_of, IfB_no, pickE_of, pickE_no, ite_of, ite_no, tdivE, tmodE, takeAll]
    apply CallB.q (q_RowManyI out rows[k] (by omega) hos)
    simp (maxSteps := 4000000) (disch := omega) only [go_sem, w64, AndB_of, IfB_of, IfB_no, pickE_of, pickE_no, ite_of, ite_no, tdivE, tmodE, takeAll, c1]
    ((repeat' apply And.intro) <;> first | (exact Weak.go (by (first | (simp [wkL]; done) | (simp [wkL]; omega))) (fun zi => by first | exact .inl rfl | exact .inr rfl | (simp only [upd]; repeat' split) <;> first | exact .inl rfl | exact .inr rfl | (exfalso; omega) | exact .inr (hd _ (by omega)) | (left; subst_vars; exact hH.symm) | (left; subst_vars; rfl) | (left; simp; done) | (left; simp; omega)) (by omega)) | omega | rfl | assumption | exact Flat.nil | exact ⟨_, rfl, rfl, by assumption⟩ | (simp; done) | (simp; omega))
  · simp (maxSteps := 4000000) (disch := omega) only [go_sem, w64, AndB_of, IfB_of, IfB_no, pickE_of, pickE_no, ite_of, ite_no, tdivE, tmodE, takeAll]
    refine LoopB.auto (fun zs => (intOf (slotOf zs 6)).toNat) (fun zz => [(3, none), (0, none), (1, some (.int .i64 (zz : Int)))]) (fun zz => noH) (fun zz => 0) (fun zz => out.length - zz) (fun zz => zz ≤ out.length) (by (first | simp (maxSteps := 4000000) (disch := omega) only [go_sem, w64, AndB_of, IfB_of, IfB_no, pickE_of, pickE_no, ite_of, ite_no, tdivE, tmodE, takeAll, hH] | simp (maxSteps := 4000000) (disch := omega) only [go_sem, w64, AndB_of, IfB_of, IfB_no, pickE_of, pickE_no, ite_of, ite_no, tdivE, tmodE, takeAll]); ((repeat' apply And.intro) <;> first | (exact Weak.go (by (first | (simp [wkL]; done) | (simp [wkL]; omega))) (fun zi => by first | exact .inl rfl | exact .inr rfl | (simp only [upd]; repeat' split) <;> first | exact .inl rfl | exact .inr rfl | (exfalso; omega) | exact .inr (hd _ (by omega)) | (left; subst_vars; exact hH.symm) | (left; subst_vars; rfl) | (left; simp; done) | (left; simp; omega)) (by omega)) | omega | rfl | assumption | exact Flat.nil | exact ⟨_, rfl, rfl, by assumption⟩ | (simp; done) | (simp; omega))) ?_
    intro k zh
    obtain hk := zh
    simp (maxSteps := 4000000) (disch := omega) only [go_sem, w64, AndB_of, IfB_of, IfB_no, pickE_of, pickE_no, ite_of, ite_no, tdivE, tmodE, takeAll]
    refine IfB.dec (fun h1 => ?_) (fun h1 => ?_)
    · have h1' : k < out.length := by omega
      have c2 : ¬ cntR out[k] rows = 0 := fun e => cntR_zero.1 e ((hom _).1 (List.getElem_mem h1'))
      simp (maxSteps := 4000000) (disch := omega) only [go_sem, w64, AndB_of, IfB_of, IfB_no, pickE_of, pickE_no, ite_of, ite_no, tdivE, tmodE, takeAll]
      apply CallB.q (q_RowManyI rows out[k] (by omega) hsm)
      simp (maxSteps := 4000000) (disch := omega) only [go_sem, w64, AndB_of, IfB_of, IfB_no, pickE_of, pickE_no, ite_of, ite_no, tdivE, tmodE, takeAll]
      ((repeat' apply And.intro) <;> first | (exact Weak.go (by (first | (simp [wkL]; done) | (simp [wkL]; omega))) (fun zi => by first | exact .inl rfl | exact .inr rfl | (simp only [upd]; repeat' split) <;> first | exact .inl rfl | exact .inr rfl | (exfalso; omega) | exact .inr (hd _ (by omega)) | (left; subst_vars; exact hH.symm) | (left; subst_vars; rfl) | (left; simp; done) | (left; simp; omega)) (by omega)) | omega | rfl | assumption | exact Flat.nil | exact ⟨_, rfl, rfl, by assumption⟩ | (simp; done) | (simp; omega))
    · simp (maxSteps := 4000000) (disch := omega) only [go_sem, w64, AndB_of, IfB_of, IfB_no, pickE_of, pickE_no, ite_of, ite_no, tdivE, tmodE, takeAll]
      apply CallB.q e3
      simp (maxSteps := 4000000) (disch := omega) only [go_sem, w64, AndB_of, IfB_of, IfB_no, pickE_of, pickE_no, ite_of, ite_no, tdivE, tmodE, takeAll]
      apply CallB.q (q_sameRows out out (by omega) hos)
      simp (maxSteps := 4000000) (disch := omega) only [go_sem, w64, AndB_of, IfB_of, IfB_no, pickE_of, pickE_no, ite_of, ite_no, tdivE, tmodE, takeAll]
      repeat' (first | (refine IfB.dec (fun h => ?_) (fun h => ?_) <;> (try (have h2 := h; unfold inR at h2)) <;> (try simp (maxSteps := 4000000) (disch := omega) only [go_sem, w64, AndB_of, IfB_of, IfB_no, pickE_of, pickE_no, ite_of, ite_no, tdivE, tmodE, takeAll, h])) | (refine IfB.split (fun h => ?_) (fun h => ?_) <;> (try simp (maxSteps := 4000000) (disch := omega) only [go_sem, w64, AndB_of, IfB_of, IfB_no, pickE_of, pickE_no, ite_of, ite_no, tdivE, tmodE, takeAll, h])) | (refine DrawB.quiet (by kernel_rfl) ?_; simp (maxSteps := 4000000) (disch := omega) only [go_sem, w64, AndB_of, IfB_of, IfB_no, pickE_of, pickE_no, ite_of, ite_no, tdivE, tmodE, takeAll]) | (apply CallB.q (q_alive); simp (maxSteps := 4000000) (disch := omega) only [go_sem, w64, AndB_of, IfB_of, IfB_no, pickE_of, pickE_no, ite_of, ite_no, tdivE, tmodE, takeAll]) | (apply DCallB.q0 (q_alive); simp (maxSteps := 4000000) (disch := omega) only [go_sem, w64, AndB_of, IfB_of, IfB_no, pickE_of, pickE_no, ite_of, ite_no, tdivE, tmodE, takeAll]))
end Go.TH
