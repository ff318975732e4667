/-
  TH, part 5: the quiet operations do in the model what part 2 says.
-/
import Derived.Test.YtbhibkochjfdfaaTh4
set_option linter.unusedVariables false
set_option linter.unusedSimpArgs false
namespace Go.TH
open Go

/-- A value's cells, in the model. -/
theorem cellsA_spec {base nx : Nat} {κ : Cx} {H : AH} (hi : Inv base κ H nx) {v : Value} {a : AV} {cs : List AV} (h : cellsA H a = some cs) (hr : Rep κ.W κ.M κ.F v a) :
    ∃ us : List Value, v.cells = us.toArray ∧ (∀ u ∈ us, u.oneCell' = true) ∧ Reps κ us cs := by
  have one : ∀ {v a}, Rep κ.W κ.M κ.F v a → v.cells = #[v] → v.oneCell' = true → ∃ us : List Value, v.cells = us.toArray ∧ (∀ u ∈ us, u.oneCell' = true) ∧ Reps κ us [a] :=
    fun {v a} hr hc h1 => ⟨[v], hc, fun u hu => by simp at hu; subst hu; exact h1, (Reps.nil κ).cons hr⟩
  cases a with
  | int k n => cases h; obtain rfl := hr.int_inv; exact one hr rfl rfl
  | bool b => cases h; obtain rfl := hr.bool_inv; exact one hr rfl rfl
  | str s => cases h; obtain rfl := hr.str_inv; exact one hr rfl rfl
  | sl n t cells => cases h; obtain ⟨A, c, rfl, _⟩ := hr.sl_inv; exact one hr rfl rfl
  | ro cells => cases h; obtain ⟨ad, vs, rfl, _⟩ := hr.ro_inv; exact one hr rfl rfl
  | ptr id ver off =>
    simp only [cellsA] at h
    split at h
    · rename_i v' cells hl
      split at h
      · rename_i hv
        cases h
        subst hv
        obtain ⟨b, rfl, _⟩ := hi.ptr_inv hl hr
        exact one hr rfl rfl
      · cases h
    · cases h
  | msl id ver sz off n =>
    simp only [cellsA] at h
    split at h
    · rename_i v' cells hl
      split at h
      · rename_i hv
        cases h
        subst hv
        rcases hi.msl_inv hl hr with ⟨b, c, cs', T, fz, rfl, _⟩ | ⟨A, b, rfl, _⟩
        · exact one hr rfl rfl
        · exact one hr rfl rfl
      · cases h
    · cases h
  | agg cells => cases h; obtain ⟨vs, rfl, h1, hr'⟩ := hr.agg_inv; exact ⟨vs, rfl, h1, hr'⟩
  | tup vs => cases h
  | fn f cap => cases h; obtain ⟨vs, rfl, hr'⟩ := hr.fn_inv; exact one hr rfl rfl
  | nilp => cases h; cases hr; exact one .nilp rfl rfl
  | junk => cases h

theorem fold_zip (off : Nat) : ∀ (us : List Value) (k : Nat) (cells : Array Value), off + k + us.length ≤ cells.size →
    (us.zipIdx k).foldl (fun (cs : Array Value) (x : Value × Nat) => cs.setIfInBounds (off + x.2) x.1) cells = (cells.toList.take (off + k) ++ us ++ cells.toList.drop (off + k + us.length)).toArray
  | [], k, cells, h => by simp
  | u :: us, k, cells, h => by
    simp only [List.zipIdx_cons, List.foldl_cons]
    rw [fold_zip off us (k + 1) _ (by simp at h ⊢; omega)]
    have hk : off + k < cells.toList.length := by simp at h ⊢; omega
    have e1 : (cells.toList.set (off + k) u).take (off + (k + 1)) = cells.toList.take (off + k) ++ [u] := by
      rw [show off + (k + 1) = (off + k) + 1 by omega, List.take_succ_eq_append_getElem (by simpa using hk)]
      simp [List.take_set_of_le]
    have e2 : (cells.toList.set (off + k) u).drop (off + (k + 1) + us.length) = cells.toList.drop (off + k + (u :: us).length) := by
      rw [List.drop_set_of_lt (by omega)]
      congr 1
      simp
      omega
    simp only [Array.toList_setIfInBounds]
    rw [e1, e2]
    simp

theorem fill_spec {base nx : Nat} {κ : Cx} {H : AH} (hi : Inv base κ H nx) (places : List (Nat × Nat)) : ∀ (parts : List (Nat × AV)) (vparts : List (Nat × Value)) (cells r : List AV) (us : List Value),
    parts.length = vparts.length → (∀ (j : Nat) (p : Nat × AV) (q : Nat × Value), parts[j]? = some p → vparts[j]? = some q → p.1 = q.1 ∧ Rep κ.W κ.M κ.F q.2 p.2) → (∀ u ∈ us, u.oneCell' = true) → Reps κ us cells →
    fillA H places cells parts = some r → ∃ ws : List Value, Instr.fill (places.toArray[·]?) us.toArray vparts = some ws.toArray ∧ (∀ u ∈ ws, u.oneCell' = true) ∧ Reps κ ws r
  | [], vparts, cells, r, us, hl, hp, h1, hr, h => by
    cases vparts with
    | cons _ _ => simp at hl
    | nil => cases h; exact ⟨us, rfl, h1, hr⟩
  | (i, a) :: parts, vparts, cells, r, us, hl, hp, h1, hr, h => by
    cases vparts with
    | nil => simp at hl
    | cons q vparts =>
      obtain ⟨i', v⟩ := q
      obtain ⟨e1, hv⟩ := hp 0 (i, a) (i', v) rfl rfl
      simp only at e1 hv
      subst e1
      simp only [fillA] at h
      split at h
      · rename_i off size cs hpl hca
        split at h
        · rename_i hsz
          obtain ⟨us', hus, hone, hrs⟩ := cellsA_spec hi hca hv
          have hlen : us'.length = size := by rw [hrs.1]; exact hsz.1
          have hle : off + us'.length ≤ us.length := by rw [hr.1, hlen]; exact hsz.2
          have hr' : Reps κ (us.take off ++ us' ++ us.drop (off + size)) (cells.take off ++ cs ++ cells.drop (off + size)) := ((hr.take off).append hrs).append (hr.drop (off + size))
          obtain ⟨ws, hw, hw1, hw2⟩ := fill_spec hi places parts vparts _ r _ (by simpa using hl) (fun j p q hp1 hq1 => hp (j + 1) p q (by simpa using hp1) (by simpa using hq1))
            (fun u hu => by
              simp only [List.mem_append] at hu
              rcases hu with (hu | hu) | hu
              · exact h1 u (List.mem_of_mem_take hu)
              · exact hone u hu
              · exact h1 u (List.mem_of_mem_drop hu)) hr' h
          refine ⟨ws, ?_, hw1, hw2⟩
          rw [← hw]
          have hz := fold_zip off us' 0 us.toArray (by simpa using hle)
          simp only [Nat.add_zero] at hz
          simp only [Instr.fill, List.getElem?_toArray, hpl, hus, List.size_toArray, hlen]
          have hcond : (decide (size ≠ size) || decide (off + size > us.length)) = false := by
            simp
            omega
          rw [if_neg (by simp; omega)]
          congr 1
          rw [← hlen] at *
          rw [← hz]
          simp [← Array.foldl_toList]
        · cases h
      · cases h
end Go.TH
