/-
  TH, part 15: every order comes to the canonical walk's state.
-/
import Derived.Test.YtbhibkochjfdfaaTh14
set_option linter.unusedVariables false
set_option linter.unusedSimpArgs false
namespace Go.TH
open Go

def cntT (f : Nat → Bool) : Nat → Nat
  | 0 => 0
  | n + 1 => cntT f n + if f n = true then 1 else 0
theorem cntT_le (f : Nat → Bool) : ∀ n, cntT f n ≤ n
  | 0 => Nat.le_refl _
  | n + 1 => by have := cntT_le f n; unfold cntT; split <;> omega
theorem cntT_all (f : Nat → Bool) : ∀ n, cntT f n = n → ∀ i, i < n → f i = true
  | 0, _, i, hi => absurd hi (Nat.not_lt_zero _)
  | n + 1, h, i, hi => by
    have h1 := cntT_le f n
    unfold cntT at h
    split at h
    · rename_i hf
      rcases Nat.lt_succ_iff_lt_or_eq.1 hi with h' | rfl
      · exact cntT_all f n (by omega) i h'
      · exact hf
    · omega
theorem cntT_set (f g : Nat → Bool) (j : Nat) (hf : f j = false) (hg : g j = true) (h : ∀ i, i ≠ j → g i = f i) : ∀ n, cntT g n = cntT f n + if j < n then 1 else 0
  | 0 => by simp [cntT]
  | n + 1 => by
    have ih := cntT_set f g j hf hg h n
    unfold cntT
    by_cases hj : j = n
    · subst hj
      rw [ih, hf, hg]
      simp
    · rw [ih, h n (Ne.symm hj)]
      by_cases h1 : j < n
      · simp [h1, show j < n + 1 by omega]; omega
      · simp [h1, show ¬ j < n + 1 by omega]

/-- One slot of the frame stands for one abstract slot. -/
def AgreeAt (κ : Cx) (a : Act) (T : List AV) (t : Nat) : Prop := (a.tmps[t]? = none ∧ T[t]? = none) ∨ ∃ v x, a.tmps[t]? = some v ∧ T[t]? = some x ∧ Rep κ.W κ.M κ.F v x
theorem AgreeAt.ev {κ κ' : Cx} {a : Act} {T : List AV} {t : Nat} (h : AgreeAt κ a T t) (he : Ev κ κ') : AgreeAt κ' a T t := by
  rcases h with h | ⟨v, x, h1, h2, h3⟩
  · exact .inl h
  · exact .inr ⟨v, x, h1, h2, h3.ev he⟩
theorem AgreeAt.eval {κ : Cx} {a : Act} {T : List AV} {t : Nat} (h : AgreeAt κ a T t) : Rep κ.W κ.M κ.F (a.eval (.tmp t)) (evA T (.tmp t)) := by
  unfold Act.eval evA
  rcases h with ⟨h1, h2⟩ | ⟨v, x, h1, h2, h3⟩
  · simp only [List.getD, h2, Option.getD_none]; exact .junk _
  · simp only [Array.getD_eq_getD_getElem?, h1, List.getD, h2, Option.getD_some]; exact h3
theorem guardA_at {ops : List Oper} {κ : Cx} {a : Act} {T : List AV} {j : Nat} {want b : Bool} (h : guardA ops T j want = some b) {o : Oper} (hg : o.guard = some (j, want))
    (hs : ∀ d, (ops[j]?).bind (·.dst) = some d → AgreeAt κ a T d) : Region.wanted o (yielded ops.toArray a.tmps) = b := by
  unfold guardA at h
  simp only [Region.wanted, hg, yielded, List.getElem?_toArray]
  cases hd : (ops[j]?).bind (·.dst) with
  | none =>
    rw [hd] at h
    simp at h
    subst h
    simp [hd]
  | some d =>
    rw [hd] at h
    simp only [Option.bind_some] at h
    rcases hs d hd with ⟨h1, h2⟩ | ⟨v, x, h1, h2, h3⟩
    · rw [h2] at h
      simp at h
      subst h
      simp [h1]
    · rw [h2] at h
      cases x <;> simp at h
      · obtain rfl := h3.bool_inv
        subst h
        simp [h1]
      · obtain ⟨vs, rfl, _⟩ := h3.tup_inv
        subst h
        simp [h1]

section
variable {P : Program} {ops : List Oper} {effs frees : List Nat} {S : Nat → Bool} {s0 : ASt} {st : Nat → ASt}

theorem Trace.next (tr : Trace P ops effs frees S s0 st) {i : Nat} {o : Oper} (ho : ops[i]? = some o) : ∃ r H' nx', st (i + 1) = ⟨putA (st i).tmps o.dst r, H', nx'⟩ ∧ maskH (SF frees S i) H' = maskH (SF frees S i) (st i).H ∧ (effs.contains i = false → H' = (st i).H ∧ nx' = (st i).nx) := by
  rcases tr.step i o ho with ⟨_, _, _, _, h⟩ | ⟨_, r, H', nx', h, hc⟩
  · exact ⟨_, _, _, h, rfl, fun _ => ⟨rfl, rfl⟩⟩
  · refine ⟨r, H', nx', h, ?_, fun he => ?_⟩
    · split at hc
      · exact hc.2
      · rw [hc.1]
    · rw [he] at hc
      simp only [Bool.false_eq_true, if_false] at hc
      exact ⟨hc.1, hc.2.1⟩
theorem putA_length (T : List AV) (d : Option Tmp) (r : AV) : (putA T d r).length = T.length := by cases d <;> simp [putA]
theorem putA_ne (T : List AV) (d : Option Tmp) (r : AV) (t : Nat) (h : d ≠ some t) : (putA T d r)[t]? = T[t]? := by
  cases d with
  | none => rfl
  | some x =>
    simp only [putA]
    rw [List.getElem?_set_ne]
    intro e
    exact h (by rw [e])
theorem Trace.len (tr : Trace P ops effs frees S s0 st) : ∀ i, i ≤ ops.length → (st i).tmps.length = s0.tmps.length
  | 0, _ => by rw [tr.zero]
  | i + 1, hi => by
    obtain ⟨r, H', nx', h, _⟩ := tr.next (List.getElem?_eq_getElem (show i < ops.length by omega))
    rw [h]
    simp only [putA_length]
    exact tr.len i (by omega)
theorem Trace.mask (tr : Trace P ops effs frees S s0 st) : ∀ (k i : Nat), i + k ≤ ops.length → (∀ q, i ≤ q → q < i + k → frees.contains q = false) → maskH S (st (i + k)).H = maskH S (st i).H
  | 0, _, _, _ => rfl
  | k + 1, i, hi, hf => by
    obtain ⟨r, H', nx', h, hm, _⟩ := tr.next (List.getElem?_eq_getElem (show i + k < ops.length by omega))
    rw [show i + (k + 1) = (i + k) + 1 by omega, h]
    have hs : SF frees S (i + k) = S := by unfold SF; rw [hf (i + k) (by omega) (by omega)]; rfl
    rw [hs] at hm
    exact hm.trans (tr.mask k i (by omega) fun q h1 h2 => hf q h1 (by omega))
theorem Trace.mask' (tr : Trace P ops effs frees S s0 st) {i j : Nat} (hi : i ≤ ops.length) (hj : j ≤ ops.length) (hw : ∀ q, q < ops.length → frees.contains q = true → ¬ (i ≤ q ∧ q < j) ∧ ¬ (j ≤ q ∧ q < i)) : maskH S (st i).H = maskH S (st j).H := by
  have key : ∀ q, q < ops.length → (frees.contains q = false) ∨ frees.contains q = true := fun q _ => by cases frees.contains q <;> simp
  rcases Nat.le_total i j with h | h
  · have := tr.mask (j - i) i (by omega) (fun q h1 h2 => by
      rcases key q (by omega) with h3 | h3
      · exact h3
      · exact absurd ⟨h1, by omega⟩ (hw q (by omega) h3).1)
    rw [show i + (j - i) = j by omega] at this
    exact this.symm
  · have := tr.mask (i - j) j (by omega) (fun q h1 h2 => by
      rcases key q (by omega) with h3 | h3
      · exact h3
      · exact absurd ⟨h1, by omega⟩ (hw q (by omega) h3).2)
    rw [show j + (i - j) = i by omega] at this
    exact this
theorem Trace.stable (tr : Trace P ops effs frees S s0 st) (t : Nat) : ∀ (k i : Nat), i + k ≤ ops.length → (∀ (q : Nat) (o : Oper), i ≤ q → q < i + k → ops[q]? = some o → o.dst ≠ some t) → (st (i + k)).tmps[t]? = (st i).tmps[t]?
  | 0, i, _, _ => rfl
  | k + 1, i, hi, hw => by
    have ho := List.getElem?_eq_getElem (show i + k < ops.length by omega)
    obtain ⟨r, H', nx', h, _⟩ := tr.next ho
    rw [show i + (k + 1) = (i + k) + 1 by omega, h]
    simp only
    rw [putA_ne _ _ _ _ (hw (i + k) _ (by omega) (by omega) ho)]
    exact tr.stable t k i (by omega) (fun q o h1 h2 h3 => hw q o h1 (by omega) h3)
theorem Trace.heap (tr : Trace P ops effs frees S s0 st) : ∀ (k i : Nat), i + k ≤ ops.length → (∀ q, i ≤ q → q < i + k → effs.contains q = false) → (st (i + k)).H = (st i).H ∧ (st (i + k)).nx = (st i).nx
  | 0, i, _, _ => ⟨rfl, rfl⟩
  | k + 1, i, hi, hw => by
    have ho := List.getElem?_eq_getElem (show i + k < ops.length by omega)
    obtain ⟨r, H', nx', h, _, hn⟩ := tr.next ho
    rw [show i + (k + 1) = (i + k) + 1 by omega, h]
    have := hn (hw (i + k) (by omega) (by omega))
    have ih := tr.heap k i (by omega) (fun q h1 h2 => hw q h1 (by omega))
    exact ⟨this.1.trans ih.1, this.2.trans ih.2⟩
/-- Between two places without a writer. -/
theorem Trace.stable' (tr : Trace P ops effs frees S s0 st) {t i j : Nat} (hi : i ≤ ops.length) (hj : j ≤ ops.length) (hw : ∀ (q : Nat) (o : Oper), ops[q]? = some o → o.dst = some t → ¬ (i ≤ q ∧ q < j) ∧ ¬ (j ≤ q ∧ q < i)) : (st i).tmps[t]? = (st j).tmps[t]? := by
  rcases Nat.le_total i j with h | h
  · have := tr.stable t (j - i) i (by omega) (fun q o h1 h2 h3 h4 => (hw q o h3 h4).1 ⟨h1, by omega⟩)
    rw [show i + (j - i) = j by omega] at this
    exact this.symm
  · have := tr.stable t (i - j) j (by omega) (fun q o h1 h2 h3 h4 => (hw q o h3 h4).2 ⟨h1, by omega⟩)
    rw [show j + (i - j) = i by omega] at this
    exact this
theorem Trace.heap' (tr : Trace P ops effs frees S s0 st) {i j : Nat} (hi : i ≤ ops.length) (hj : j ≤ ops.length) (hw : ∀ q, q < ops.length → effs.contains q = true → ¬ (i ≤ q ∧ q < j) ∧ ¬ (j ≤ q ∧ q < i)) : (st i).H = (st j).H ∧ (st i).nx = (st j).nx := by
  have key : ∀ q, q < ops.length → (effs.contains q = false) ∨ effs.contains q = true := fun q _ => by cases effs.contains q <;> simp
  rcases Nat.le_total i j with h | h
  · have := tr.heap (j - i) i (by omega) (fun q h1 h2 => by
      rcases key q (by omega) with h3 | h3
      · exact h3
      · exact absurd ⟨h1, by omega⟩ (hw q (by omega) h3).1)
    rw [show i + (j - i) = j by omega] at this
    exact ⟨this.1.symm, this.2.symm⟩
  · have := tr.heap (i - j) j (by omega) (fun q h1 h2 => by
      rcases key q (by omega) with h3 | h3
      · exact h3
      · exact absurd ⟨h1, by omega⟩ (hw q (by omega) h3).2)
    rw [show j + (i - j) = i by omega] at this
    exact this

theorem zipIdx_mem {ops : List Oper} {i : Nat} {o : Oper} (h : ops[i]? = some o) : (o, i) ∈ ops.zipIdx := by
  rw [List.mem_iff_getElem?]
  exact ⟨i, by simp [List.getElem?_zipIdx, h]⟩
theorem drawOk_spec (h : drawOk ops effs frees = true) : (∀ (i : Nat) (o : Oper), ops[i]? = some o → ∀ e ∈ o.after.toList, Region.binds .any e = true → e.on < i) ∧
    (∀ (i j : Nat) (x y : Oper), i < j → ops[i]? = some x → ops[j]? = some y → (conflict ops.toArray x y = true ∨ (effs.contains i = true ∧ effs.contains j = true) ∨ frees.contains i = true ∨ frees.contains j = true) → Anc ops i j) ∧
    (∀ i, frees.contains i = true → effs.contains i = true) := by
  unfold drawOk at h
  simp only [Bool.and_eq_true] at h
  obtain ⟨⟨⟨hb, _⟩, hfe⟩, hp⟩ := h
  refine ⟨?_, ?_, fun i hi => by
    rw [List.contains_iff_mem] at hi
    exact (List.all_eq_true.1 hfe) i hi⟩
  · intro i o ho e he hbind
    unfold backward at hb
    have := (List.all_eq_true.1 hb) (o, i) (zipIdx_mem ho)
    have := (List.all_eq_true.1 this) e he
    simp only [hbind, Bool.not_true, Bool.false_or, decide_eq_true_eq] at this
    exact this
  · intro i j x y hij hx hy hc
    have h1 := (List.all_eq_true.1 hp) (x, i) (zipIdx_mem hx)
    have h2 := (List.all_eq_true.1 h1) (y, j) (zipIdx_mem hy)
    simp only [hij, decide_true, Bool.not_true, Bool.false_or, Bool.or_eq_true, Bool.and_eq_true, Bool.not_eq_true'] at h2
    rcases h2 with h2 | ⟨⟨⟨h2, h3⟩, h4⟩, h5⟩
    · exact ancL_get ops ops [] (by simp) (fun i j h => by simp at h) i j h2
    · rcases hc with hc | hc
      · rw [hc] at h2; cases h2
      · rcases hc with hc | hc | hc
        · simp only [hc.1, hc.2, Bool.true_and, Bool.and_self] at h3; cases h3
        · rw [hc] at h4; cases h4
        · rw [hc] at h5; cases h5
end
end Go.TH
