/- The framework of this proof, part 2: abstract values and what they stand for in a world. -/
import Derived.Test.YtfnflalnjigfkaaTf1
import Derived.Attr
import Derived.ChangeArms
import Derived.Below
/-
  TH, part 15: every order comes to the canonical walk's state.
-/
set_option linter.unusedVariables false
set_option linter.unusedSimpArgs false
namespace Go.TH
open Go

def cntT (f : Nat → Bool) : Nat → Nat
  | 0 => 0
  | n + 1 => cntT f n + if f n = true then 1 else 0
theorem cntT_le (f : Nat → Bool) : ∀ n, cntT f n ≤ n
  | 0 => Nat.le_refl _
  | n + 1 => by have := cntT_le f n; unfold cntT; split <;> omega
theorem cntT_all (f : Nat → Bool) : ∀ n, cntT f n = n → ∀ i, i < n → f i = true
  | 0, _, i, hi => absurd hi (Nat.not_lt_zero _)
  | n + 1, h, i, hi => by
    have h1 := cntT_le f n
    unfold cntT at h
    split at h
    · rename_i hf
      rcases Nat.lt_succ_iff_lt_or_eq.1 hi with h' | rfl
      · exact cntT_all f n (by omega) i h'
      · exact hf
    · omega
theorem cntT_set (f g : Nat → Bool) (j : Nat) (hf : f j = false) (hg : g j = true) (h : ∀ i, i ≠ j → g i = f i) : ∀ n, cntT g n = cntT f n + if j < n then 1 else 0
  | 0 => by simp [cntT]
  | n + 1 => by
    have ih := cntT_set f g j hf hg h n
    unfold cntT
    by_cases hj : j = n
    · subst hj
      rw [ih, hf, hg]
      simp
    · rw [ih, h n (Ne.symm hj)]
      by_cases h1 : j < n
      · simp [h1, show j < n + 1 by omega]; omega
      · simp [h1, show ¬ j < n + 1 by omega]

/-- One slot of the frame stands for one abstract slot. -/
def AgreeAt (κ : Cx) (a : Act) (T : List AV) (t : Nat) : Prop := (a.tmps[t]? = none ∧ T[t]? = none) ∨ ∃ v x, a.tmps[t]? = some v ∧ T[t]? = some x ∧ Rep κ.W κ.M κ.F v x
theorem AgreeAt.ev {κ κ' : Cx} {a : Act} {T : List AV} {t : Nat} (h : AgreeAt κ a T t) (he : Ev κ κ') : AgreeAt κ' a T t := by
  rcases h with h | ⟨v, x, h1, h2, h3⟩
  · exact .inl h
  · exact .inr ⟨v, x, h1, h2, h3.ev he⟩
theorem AgreeAt.eval {κ : Cx} {a : Act} {T : List AV} {t : Nat} (h : AgreeAt κ a T t) : Rep κ.W κ.M κ.F (a.eval (.tmp t)) (evA T (.tmp t)) := by
  unfold Act.eval evA
  rcases h with ⟨h1, h2⟩ | ⟨v, x, h1, h2, h3⟩
  · simp only [List.getD, h2, Option.getD_none]; exact .junk _
  · simp only [Array.getD_eq_getD_getElem?, h1, List.getD, h2, Option.getD_some]; exact h3
theorem guardA_at {ops : List Oper} {κ : Cx} {a : Act} {T : List AV} {j : Nat} {want b : Bool} (h : guardA ops T j want = some b) {o : Oper} (hg : o.guard = some (j, want))
    (hs : ∀ d, (ops[j]?).bind (·.dst) = some d → AgreeAt κ a T d) : Region.wanted o (yielded ops.toArray a.tmps) = b := by
  unfold guardA at h
  simp only [Region.wanted, hg, yielded, List.getElem?_toArray]
  cases hd : (ops[j]?).bind (·.dst) with
  | none =>
    rw [hd] at h
    simp at h
    subst h
    simp [hd]
  | some d =>
    rw [hd] at h
    simp only [Option.bind_some] at h
    rcases hs d hd with ⟨h1, h2⟩ | ⟨v, x, h1, h2, h3⟩
    · rw [h2] at h
      simp at h
      subst h
      simp [h1]
    · rw [h2] at h
      cases x <;> simp at h
      · obtain rfl := h3.bool_inv
        subst h
        simp [h1]
      · obtain ⟨vs, rfl, _⟩ := h3.tup_inv
        subst h
        simp [h1]

section
variable {P : Program} {ops : List Oper} {effs frees : List Nat} {S : Nat → Bool} {s0 : ASt} {st : Nat → ASt}

theorem Trace.next (tr : Trace P ops effs frees S s0 st) {i : Nat} {o : Oper} (ho : ops[i]? = some o) : ∃ r H' nx', st (i + 1) = ⟨putA (st i).tmps o.dst r, H', nx'⟩ ∧ maskH (SF frees S i) H' = maskH (SF frees S i) (st i).H ∧ (effs.contains i = false → H' = (st i).H ∧ nx' = (st i).nx) := by
  rcases tr.step i o ho with ⟨_, _, _, _, h⟩ | ⟨_, r, H', nx', h, hc⟩
  · exact ⟨_, _, _, h, rfl, fun _ => ⟨rfl, rfl⟩⟩
  · refine ⟨r, H', nx', h, ?_, fun he => ?_⟩
    · split at hc
      · exact hc.2
      · rw [hc.1]
    · rw [he] at hc
      simp only [Bool.false_eq_true, if_false] at hc
      exact ⟨hc.1, hc.2.1⟩
theorem putA_length (T : List AV) (d : Option Tmp) (r : AV) : (putA T d r).length = T.length := by cases d <;> simp [putA]
theorem putA_ne (T : List AV) (d : Option Tmp) (r : AV) (t : Nat) (h : d ≠ some t) : (putA T d r)[t]? = T[t]? := by
  cases d with
  | none => rfl
  | some x =>
    simp only [putA]
    rw [List.getElem?_set_ne]
    intro e
    exact h (by rw [e])
theorem Trace.len (tr : Trace P ops effs frees S s0 st) : ∀ i, i ≤ ops.length → (st i).tmps.length = s0.tmps.length
  | 0, _ => by rw [tr.zero]
  | i + 1, hi => by
    obtain ⟨r, H', nx', h, _⟩ := tr.next (List.getElem?_eq_getElem (show i < ops.length by omega))
    rw [h]
    simp only [putA_length]
    exact tr.len i (by omega)
theorem Trace.mask (tr : Trace P ops effs frees S s0 st) : ∀ (k i : Nat), i + k ≤ ops.length → (∀ q, i ≤ q → q < i + k → frees.contains q = false) → maskH S (st (i + k)).H = maskH S (st i).H
  | 0, _, _, _ => rfl
  | k + 1, i, hi, hf => by
    obtain ⟨r, H', nx', h, hm, _⟩ := tr.next (List.getElem?_eq_getElem (show i + k < ops.length by omega))
    rw [show i + (k + 1) = (i + k) + 1 by omega, h]
    have hs : SF frees S (i + k) = S := by unfold SF; rw [hf (i + k) (by omega) (by omega)]; rfl
    rw [hs] at hm
    exact hm.trans (tr.mask k i (by omega) fun q h1 h2 => hf q h1 (by omega))
theorem Trace.mask' (tr : Trace P ops effs frees S s0 st) {i j : Nat} (hi : i ≤ ops.length) (hj : j ≤ ops.length) (hw : ∀ q, q < ops.length → frees.contains q = true → ¬ (i ≤ q ∧ q < j) ∧ ¬ (j ≤ q ∧ q < i)) : maskH S (st i).H = maskH S (st j).H := by
  have key : ∀ q, q < ops.length → (frees.contains q = false) ∨ frees.contains q = true := fun q _ => by cases frees.contains q <;> simp
  rcases Nat.le_total i j with h | h
  · have := tr.mask (j - i) i (by omega) (fun q h1 h2 => by
      rcases key q (by omega) with h3 | h3
      · exact h3
      · exact absurd ⟨h1, by omega⟩ (hw q (by omega) h3).1)
    rw [show i + (j - i) = j by omega] at this
    exact this.symm
  · have := tr.mask (i - j) j (by omega) (fun q h1 h2 => by
      rcases key q (by omega) with h3 | h3
      · exact h3
      · exact absurd ⟨h1, by omega⟩ (hw q (by omega) h3).2)
    rw [show j + (i - j) = i by omega] at this
    exact this
theorem Trace.stable (tr : Trace P ops effs frees S s0 st) (t : Nat) : ∀ (k i : Nat), i + k ≤ ops.length → (∀ (q : Nat) (o : Oper), i ≤ q → q < i + k → ops[q]? = some o → o.dst ≠ some t) → (st (i + k)).tmps[t]? = (st i).tmps[t]?
  | 0, i, _, _ => rfl
  | k + 1, i, hi, hw => by
    have ho := List.getElem?_eq_getElem (show i + k < ops.length by omega)
    obtain ⟨r, H', nx', h, _⟩ := tr.next ho
    rw [show i + (k + 1) = (i + k) + 1 by omega, h]
    simp only
    rw [putA_ne _ _ _ _ (hw (i + k) _ (by omega) (by omega) ho)]
    exact tr.stable t k i (by omega) (fun q o h1 h2 h3 => hw q o h1 (by omega) h3)
theorem Trace.heap (tr : Trace P ops effs frees S s0 st) : ∀ (k i : Nat), i + k ≤ ops.length → (∀ q, i ≤ q → q < i + k → effs.contains q = false) → (st (i + k)).H = (st i).H ∧ (st (i + k)).nx = (st i).nx
  | 0, i, _, _ => ⟨rfl, rfl⟩
  | k + 1, i, hi, hw => by
    have ho := List.getElem?_eq_getElem (show i + k < ops.length by omega)
    obtain ⟨r, H', nx', h, _, hn⟩ := tr.next ho
    rw [show i + (k + 1) = (i + k) + 1 by omega, h]
    have := hn (hw (i + k) (by omega) (by omega))
    have ih := tr.heap k i (by omega) (fun q h1 h2 => hw q h1 (by omega))
    exact ⟨this.1.trans ih.1, this.2.trans ih.2⟩
/-- Between two places without a writer. -/
theorem Trace.stable' (tr : Trace P ops effs frees S s0 st) {t i j : Nat} (hi : i ≤ ops.length) (hj : j ≤ ops.length) (hw : ∀ (q : Nat) (o : Oper), ops[q]? = some o → o.dst = some t → ¬ (i ≤ q ∧ q < j) ∧ ¬ (j ≤ q ∧ q < i)) : (st i).tmps[t]? = (st j).tmps[t]? := by
  rcases Nat.le_total i j with h | h
  · have := tr.stable t (j - i) i (by omega) (fun q o h1 h2 h3 h4 => (hw q o h3 h4).1 ⟨h1, by omega⟩)
    rw [show i + (j - i) = j by omega] at this
    exact this.symm
  · have := tr.stable t (i - j) j (by omega) (fun q o h1 h2 h3 h4 => (hw q o h3 h4).2 ⟨h1, by omega⟩)
    rw [show j + (i - j) = i by omega] at this
    exact this
theorem Trace.heap' (tr : Trace P ops effs frees S s0 st) {i j : Nat} (hi : i ≤ ops.length) (hj : j ≤ ops.length) (hw : ∀ q, q < ops.length → effs.contains q = true → ¬ (i ≤ q ∧ q < j) ∧ ¬ (j ≤ q ∧ q < i)) : (st i).H = (st j).H ∧ (st i).nx = (st j).nx := by
  have key : ∀ q, q < ops.length → (effs.contains q = false) ∨ effs.contains q = true := fun q _ => by cases effs.contains q <;> simp
  rcases Nat.le_total i j with h | h
  · have := tr.heap (j - i) i (by omega) (fun q h1 h2 => by
      rcases key q (by omega) with h3 | h3
      · exact h3
      · exact absurd ⟨h1, by omega⟩ (hw q (by omega) h3).1)
    rw [show i + (j - i) = j by omega] at this
    exact ⟨this.1.symm, this.2.symm⟩
  · have := tr.heap (i - j) j (by omega) (fun q h1 h2 => by
      rcases key q (by omega) with h3 | h3
      · exact h3
      · exact absurd ⟨h1, by omega⟩ (hw q (by omega) h3).2)
    rw [show j + (i - j) = i by omega] at this
    exact this

theorem zipIdx_mem {ops : List Oper} {i : Nat} {o : Oper} (h : ops[i]? = some o) : (o, i) ∈ ops.zipIdx := by
  rw [List.mem_iff_getElem?]
  exact ⟨i, by simp [List.getElem?_zipIdx, h]⟩
theorem drawOk_spec (h : drawOk ops effs frees = true) : (∀ (i : Nat) (o : Oper), ops[i]? = some o → ∀ e ∈ o.after.toList, Region.binds .any e = true → e.on < i) ∧
    (∀ (i j : Nat) (x y : Oper), i < j → ops[i]? = some x → ops[j]? = some y → (conflict ops.toArray x y = true ∨ (effs.contains i = true ∧ effs.contains j = true) ∨ frees.contains i = true ∨ frees.contains j = true) → Anc ops i j) ∧
    (∀ i, frees.contains i = true → effs.contains i = true) := by
  unfold drawOk at h
  simp only [Bool.and_eq_true] at h
  obtain ⟨⟨⟨hb, _⟩, hfe⟩, hp⟩ := h
  refine ⟨?_, ?_, fun i hi => by
    rw [List.contains_iff_mem] at hi
    exact (List.all_eq_true.1 hfe) i hi⟩
  · intro i o ho e he hbind
    unfold backward at hb
    have := (List.all_eq_true.1 hb) (o, i) (zipIdx_mem ho)
    have := (List.all_eq_true.1 this) e he
    simp only [hbind, Bool.not_true, Bool.false_or, decide_eq_true_eq] at this
    exact this
  · intro i j x y hij hx hy hc
    have h1 := (List.all_eq_true.1 hp) (x, i) (zipIdx_mem hx)
    have h2 := (List.all_eq_true.1 h1) (y, j) (zipIdx_mem hy)
    simp only [hij, decide_true, Bool.not_true, Bool.false_or, Bool.or_eq_true, Bool.and_eq_true, Bool.not_eq_true'] at h2
    rcases h2 with h2 | ⟨⟨⟨h2, h3⟩, h4⟩, h5⟩
    · exact ancL_get ops ops [] (by simp) (fun i j h => by simp at h) i j h2
    · rcases hc with hc | hc
      · rw [hc] at h2; cases h2
      · rcases hc with hc | hc | hc
        · simp only [hc.1, hc.2, Bool.true_and, Bool.and_self] at h3; cases h3
        · rw [hc] at h4; cases h4
        · rw [hc] at h5; cases h5
end
end Go.TH

/-
  TH, part 16: regions that draw their order, sound (the simulation).
-/
set_option linter.unusedVariables false
set_option linter.unusedSimpArgs false
namespace Go.TH
open Go

/-- What holds when just the operations in 'listed' have been carried out. -/
structure Sim (ops : List Oper) (effs : List Nat) (st : Nat → ASt) (s0 : ASt) (base : Nat) (listed : Array Bool) (κ : Cx) (a : Act) : Prop where
  size : listed.size = ops.length
  closed : Closed ops listed
  heap : ∃ m, m ≤ ops.length ∧ (∀ i, i < ops.length → effs.contains i = true → (listed.getD i false = true ↔ i < m)) ∧ Inv base κ (st m).H (st m).nx
  len : a.tmps.size = s0.tmps.length
  tmps : ∀ t, t < s0.tmps.length → ∃ k, k ≤ ops.length ∧ (∀ (i : Nat) (o : Oper), ops[i]? = some o → o.dst = some t → (listed.getD i false = true ↔ i < k)) ∧ AgreeAt κ a (st k).tmps t
  defers : a.defers = []

theorem getD_set (listed : Array Bool) (j i : Nat) (hj : j < listed.size) : (listed.setIfInBounds j true).getD i false = if i = j then true else listed.getD i false := by
  by_cases h : i = j
  · subst h; simp [hj]
  · simp only [h, if_false]
    exact getD_set_ne false (Ne.symm h)

section
variable {P : Program} {ops : List Oper} {effs frees : List Nat} {S : Nat → Bool} {s0 : ASt} {st : Nat → ASt}

/-- Which of the related ones have been carried out, when 'j' comes up. -/
theorem order_at (hok : drawOk ops effs frees = true) {listed : Array Bool} (hc : Closed ops listed) {j : Nat} {oj : Oper} (hoj : ops[j]? = some oj) (hr : j ∈ Region.ready .any ops.toArray listed) {i : Nat} {oi : Oper} (hoi : ops[i]? = some oi) (hij : i ≠ j)
    (h : conflict ops.toArray oi oj = true ∨ conflict ops.toArray oj oi = true ∨ (effs.contains i = true ∧ effs.contains j = true) ∨ frees.contains i = true ∨ frees.contains j = true) : listed.getD i false = true ↔ i < j := by
  have hjf : listed.getD j false = true → False := by
    intro h1
    have h2 := (mem_ready.1 hr).1
    rcases Nat.lt_or_ge j listed.size with h' | h'
    · simp [h'] at h1 h2; rw [h1] at h2; cases h2
    · simp [Array.getElem?_eq_none h'] at h1
  have sym : ∀ x y, conflict ops.toArray x y = true → conflict ops.toArray y x = true ∨ True := fun _ _ _ => .inr trivial
  rcases Nat.lt_or_gt_of_ne hij with hlt | hgt
  · refine ⟨fun _ => hlt, fun _ => ?_⟩
    have hc' : conflict ops.toArray oi oj = true ∨ (effs.contains i = true ∧ effs.contains j = true) ∨ frees.contains i = true ∨ frees.contains j = true := by
      rcases h with h | h | h
      · exact .inl h
      · left
        unfold conflict at h ⊢
        cases hx : oj.dst with
        | none =>
          cases hy : oi.dst with
          | none => rw [hx, hy] at h; simp at h
          | some d => rw [hx, hy] at h; simp at h ⊢; exact h
        | some d =>
          cases hy : oi.dst with
          | none => rw [hx, hy] at h; simp at h ⊢; exact h
          | some d' =>
            rw [hx, hy] at h
            simp at h ⊢
            rcases h with (h | h) | h
            · exact .inr h
            · exact .inl (.inr h.symm)
            · exact .inl (.inl h)
      · exact .inr h
    exact ((drawOk_spec hok).2.1 i j oi oj hlt hoi hoj hc').ready hc hr
  · refine ⟨fun hi => ?_, fun h' => absurd h' (by omega)⟩
    exfalso
    have hc' : conflict ops.toArray oj oi = true ∨ (effs.contains j = true ∧ effs.contains i = true) ∨ frees.contains j = true ∨ frees.contains i = true := by
      rcases h with h | h | h
      · left
        unfold conflict at h ⊢
        cases hx : oi.dst with
        | none =>
          cases hy : oj.dst with
          | none => rw [hx, hy] at h; simp at h
          | some d => rw [hx, hy] at h; simp at h ⊢; exact h
        | some d =>
          cases hy : oj.dst with
          | none => rw [hx, hy] at h; simp at h ⊢; exact h
          | some d' =>
            rw [hx, hy] at h
            simp at h ⊢
            rcases h with (h | h) | h
            · exact .inr h
            · exact .inl (.inr h.symm)
            · exact .inl (.inl h)
      · exact .inl h
      · exact .inr (h.elim (fun h => .inl ⟨h.2, h.1⟩) fun h => .inr h.symm)
    exact hjf (((drawOk_spec hok).2.1 j i oj oi hgt hoj hoi hc').listed hc hi)

/-- What is looked at stands as in the canonical walk. -/
theorem Sim.looks (tr : Trace P ops effs frees S s0 st) (hok : drawOk ops effs frees = true) {base : Nat} {listed : Array Bool} {κ : Cx} {a : Act} (h : Sim ops effs st s0 base listed κ a) {j : Nat} {oj : Oper} (hoj : ops[j]? = some oj)
    (hr : j ∈ Region.ready .any ops.toArray listed) {t : Nat} (ht : t ∈ oj.looksAt ops.toArray) : AgreeAt κ a (st j).tmps t := by
  have hjn : j < ops.length := (List.getElem?_eq_some_iff.1 hoj).1
  have hjun : listed.getD j false = true → False := by
    intro h1
    have h2 := (mem_ready.1 hr).1
    rcases Nat.lt_or_ge j listed.size with h' | h'
    · simp [h'] at h1 h2; rw [h1] at h2; cases h2
    · simp [Array.getElem?_eq_none h'] at h1
  by_cases htl : t < s0.tmps.length
  · obtain ⟨k, hk, hw, hag⟩ := h.tmps t htl
    have heq : (st k).tmps[t]? = (st j).tmps[t]? := by
      refine tr.stable' hk (by omega) (fun q o hq hd => ?_)
      by_cases hqj : q = j
      · subst hqj
        have := (hw q o hq hd)
        have hn : ¬ q < k := fun h' => hjun (this.2 h')
        omega
      · have hcf : conflict ops.toArray o oj = true := by
          unfold conflict
          rw [hd]
          simp only [List.contains_eq_mem, Bool.or_eq_true, decide_eq_true_eq]
          exact .inl (.inl ht)
        have h1 := order_at hok h.closed hoj hr hq hqj (.inl hcf)
        have h2 := hw q o hq hd
        have : q < k ↔ q < j := h2.symm.trans h1
        omega
    unfold AgreeAt at *
    rw [← heq]
    exact hag
  · left
    refine ⟨Array.getElem?_eq_none (by rw [h.len]; omega), List.getElem?_eq_none (by rw [tr.len j (by omega)]; omega)⟩

/-- 'j' is carried out. -/
theorem Sim.step (tr : Trace P ops effs frees S s0 st) (hok : drawOk ops effs frees = true) {base : Nat} {listed : Array Bool} {κ : Cx} {a : Act} (h : Sim ops effs st s0 base listed κ a) {j : Nat} {oj : Oper} (hoj : ops[j]? = some oj)
    (hr : j ∈ Region.ready .any ops.toArray listed) {κ' : Cx} {v : Value} {r : AV} {H' : AH} {nx' : Nat} (hst : st (j + 1) = ⟨putA (st j).tmps oj.dst r, H', nx'⟩) (hrep : Rep κ'.W κ'.M κ'.F v r) (hext : Ext base κ κ')
    (hheap : (effs.contains j = true ∧ Inv base κ' H' nx') ∨ (effs.contains j = false ∧ ∃ m, m ≤ ops.length ∧ (∀ i, i < ops.length → effs.contains i = true → (listed.getD i false = true ↔ i < m)) ∧ Inv base κ' (st m).H (st m).nx)) :
    Sim ops effs st s0 base (listed.setIfInBounds j true) κ' (a.put oj.dst v) := by
  have hjn : j < ops.length := (List.getElem?_eq_some_iff.1 hoj).1
  have hjs : j < listed.size := by rw [h.size]; exact hjn
  have hg := fun i => getD_set listed j i hjs
  obtain ⟨_, oj', hoj', hdeps⟩ := mem_ready.1 hr
  have : oj' = oj := by
    have h1 : ops[j]? = some oj' := by simpa using hoj'
    rw [hoj] at h1
    exact (Option.some.inj h1).symm
  subst this
  refine ⟨by simp [h.size], fun k o ho hk e he hb => ?_, ?_, ?_, fun t ht => ?_, by rw [put_defers]; exact h.defers⟩
  · rw [hg] at hk ⊢
    split at hk
    · rename_i hkj
      subst hkj
      rw [hoj] at ho
      cases ho
      split
      · rfl
      · exact hdeps e (by simpa using he) hb
    · split
      · rfl
      · exact h.closed k o ho hk e he hb
  · rcases hheap with ⟨he, hi'⟩ | ⟨he, m, hm, hw, hi'⟩
    · refine ⟨j + 1, by omega, fun i hi hei => ?_, by rw [hst]; exact hi'⟩
      rw [hg]
      split
      · rename_i hij; subst hij; simp
      · rename_i hij
        rw [order_at hok h.closed hoj hr (List.getElem?_eq_getElem hi) hij (.inr (.inr (.inl ⟨hei, he⟩)))]
        omega
    · refine ⟨m, hm, fun i hi hei => ?_, hi'⟩
      rw [hg]
      split
      · rename_i hij; subst hij; rw [hei] at he; cases he
      · exact hw i hi hei
  · cases hd : oj'.dst <;> simp [Act.put, h.len]
  · by_cases hd : oj'.dst = some t
    · refine ⟨j + 1, by omega, fun i o ho hdo => ?_, ?_⟩
      · rw [hg]
        split
        · rename_i hij; subst hij; simp
        · rename_i hij
          have hcf : conflict ops.toArray o oj' = true := by
            unfold conflict
            rw [hdo, hd]
            simp
          rw [order_at hok h.closed hoj hr ho hij (.inl hcf)]
          omega
      · right
        refine ⟨v, r, ?_, ?_, hrep⟩
        · rw [hd]
          simp only [Act.put]
          rw [Array.getElem?_setIfInBounds]
          simp [h.len, ht]
        · rw [hst]
          simp only [hd, putA]
          rw [List.getElem?_set]
          have := tr.len j (by omega)
          simp [this, ht]
    · obtain ⟨k, hk, hw, hag⟩ := h.tmps t ht
      refine ⟨k, hk, fun i o ho hdo => ?_, ?_⟩
      · rw [hg]
        split
        · rename_i hij
          subst hij
          rw [hoj] at ho
          cases ho
          exact absurd hdo hd
        · exact hw i o ho hdo
      · have := hag.ev hext.ev
        unfold AgreeAt at *
        have e : (a.put oj'.dst v).tmps[t]? = a.tmps[t]? := by
          cases hq : oj'.dst with
          | none => rfl
          | some d =>
            simp only [Act.put]
            rw [Array.getElem?_setIfInBounds_ne]
            intro e
            exact hd (by rw [hq, e])
        rw [e]
        exact this

/-- All have been carried out. -/
theorem Sim.all (tr : Trace P ops effs frees S s0 st) {base : Nat} {listed : Array Bool} {κ : Cx} {a : Act} (h : Sim ops effs st s0 base listed κ a) (hall : ∀ i, i < ops.length → listed.getD i false = true) : St base κ a (st ops.length) := by
  refine ⟨?_, ?_, h.defers⟩
  · obtain ⟨m, hm, hw, hinv⟩ := h.heap
    have := tr.heap' hm (Nat.le_refl _) (fun q hq he => by
      have := (hw q hq he).1 (hall q hq)
      omega)
    rw [← this.1, ← this.2]
    exact hinv
  · refine ⟨by rw [tr.len _ (Nat.le_refl _)]; simpa using h.len, fun t v x h1 h2 => ?_⟩
    have ht : t < s0.tmps.length := by
      have := (List.getElem?_eq_some_iff.1 h2).1
      rw [tr.len _ (Nat.le_refl _)] at this
      exact this
    obtain ⟨k, hk, hw, hag⟩ := h.tmps t ht
    have heq : (st k).tmps[t]? = (st ops.length).tmps[t]? := tr.stable' hk (Nat.le_refl _) (fun q o hq hd => by
      have hqn := (List.getElem?_eq_some_iff.1 hq).1
      have := (hw q o hq hd).1 (hall q hqn)
      omega)
    have h1' : a.tmps[t]? = some v := by simpa using h1
    rcases hag with ⟨h3, _⟩ | ⟨v', x', h3, h4, h5⟩
    · rw [h1'] at h3; cases h3
    · rw [h1'] at h3
      cases h3
      rw [heq, h2] at h4
      cases h4
      exact h5
/-- Nothing is ready: all has been carried out. -/
theorem all_of_ready (hok : drawOk ops effs frees = true) {listed : Array Bool} (hs : listed.size = ops.length) (h : Region.ready .any ops.toArray listed = []) : ∀ i, i < ops.length → listed.getD i false = true := by
  intro i
  induction i using Nat.strongRecOn with
  | _ i ih =>
    intro hi
    cases hl : listed.getD i false with
    | true => rfl
    | false =>
      exfalso
      have hmem : i ∈ Region.ready .any ops.toArray listed := by
        refine mem_ready.2 ⟨?_, ops[i], by simp [hi], fun e he hb => ?_⟩
        · simpa [hs, hi] using hl
        · have := (drawOk_spec hok).1 i _ (List.getElem?_eq_getElem hi) e (by simpa using he) hb
          exact ih e.on this (by omega)
      rw [h] at hmem
      cases hmem

theorem sim_any (tr : Trace P ops effs frees S s0 st) (hok : drawOk ops effs frees = true) {base : Nat} {Q : Exit → Act → World → Prop} {κ0 : Cx}
    (hQ : ∀ κ a, St base κ a (st ops.length) → Ext base κ0 κ → Q .normal a κ.W) : ∀ (fuel : Nat) (listed : Array Bool) (κ : Cx) (a : Act), cntT (fun i => listed.getD i false) ops.length + fuel = ops.length →
      Ext base κ0 κ → Sim ops effs st s0 base listed κ a → wpAny P .any ops.toArray Q fuel listed a κ.W := by
  have fin : ∀ (listed : Array Bool) (κ : Cx) (a : Act), Ext base κ0 κ → Sim ops effs st s0 base listed κ a → Region.ready .any ops.toArray listed = [] → Q .normal a κ.W :=
    fun listed κ a he h hr => hQ κ a (h.all tr (all_of_ready hok h.size hr)) he
  intro fuel
  induction fuel with
  | zero =>
    intro listed κ a hc he h
    have hall := cntT_all _ _ (by simpa using hc)
    have hr : Region.ready .any ops.toArray listed = [] := by
      cases hq : Region.ready .any ops.toArray listed with
      | nil => rfl
      | cons j l =>
        exfalso
        have hj : j ∈ Region.ready .any ops.toArray listed := by rw [hq]; simp
        obtain ⟨h1, o, ho, _⟩ := mem_ready.1 hj
        have hjn : j < ops.length := by
          have : ops[j]? = some o := by simpa using ho
          exact (List.getElem?_eq_some_iff.1 this).1
        have := hall j hjn
        have hjs : j < listed.size := by rw [h.size]; exact hjn
        simp [hjs] at h1 this
        rw [this] at h1
        cases h1
    exact ⟨hr, fin listed κ a he h hr⟩
  | succ fuel ih =>
    intro listed κ a hc he h
    refine ⟨fin listed κ a he h, fun j hj => ?_⟩
    obtain ⟨hun, oj, hoj0, _⟩ := mem_ready.1 hj
    have hoj : ops[j]? = some oj := by simpa using hoj0
    have hjn : j < ops.length := (List.getElem?_eq_some_iff.1 hoj).1
    have hjs : j < listed.size := by rw [h.size]; exact hjn
    have hcount : cntT (fun i => (listed.setIfInBounds j true).getD i false) ops.length + fuel = ops.length := by
      have := cntT_set (fun i => listed.getD i false) (fun i => (listed.setIfInBounds j true).getD i false) j (by simpa [hjs] using hun) (by simp [hjs]) (fun i hi => getD_set_ne false (Ne.symm hi)) ops.length
      rw [this, if_pos hjn]
      omega
    have looks := fun t ht => h.looks tr hok hoj hj (t := t) ht
    unfold wpOp
    rw [hoj0]
    simp only
    have guardLooks : ∀ j' want, oj.guard = some (j', want) → ∀ d, (ops[j']?).bind (·.dst) = some d → AgreeAt κ a (st j).tmps d := by
      intro j' want hg d hd
      apply looks
      unfold Oper.looksAt
      rw [List.mem_append]
      right
      rw [hg]
      simp only [List.getElem?_toArray, hd]
      simp
    rcases tr.step j oj hoj with ⟨j', want, hg, hga, hst⟩ | ⟨hg, r, H', nx', hst, hcase⟩
    · have hw := guardA_at hga hg (guardLooks j' want hg)
      rw [hw]
      simp only [Bool.false_eq_true, if_false]
      -- it is not wanted
      have hsim : Sim ops effs st s0 base (listed.setIfInBounds j true) κ (a.put oj.dst undef) := by
        refine h.step tr hok hoj hj hst (.tup [] [] rfl (fun j v a h => by simp at h)) (.refl _ _) ?_
        cases hq : effs.contains j with
        | false => exact .inr ⟨rfl, h.heap⟩
        | true =>
          left
          refine ⟨rfl, ?_⟩
          -- the heap is the canonical one there
          obtain ⟨m, hm, hwm, hinv⟩ := h.heap
          have hjf : ¬ listed.getD j false = true := by
            simp [hjs] at hun ⊢
            exact hun
          have := tr.heap' hm (show j ≤ ops.length by omega) (fun q hqn heq => by
            have h1 := hwm q hqn heq
            by_cases hqj : q = j
            · subst hqj
              have : ¬ q < m := fun h' => hjf (h1.2 h')
              omega
            · have h2 := order_at hok h.closed hoj hj (List.getElem?_eq_getElem hqn) hqj (.inr (.inr (.inl ⟨heq, hq⟩)))
              have : q < m ↔ q < j := h1.symm.trans h2
              omega)
          rw [← this.1, ← this.2]
          exact hinv
      exact ih _ κ _ hcount he hsim
    · have hw : Region.wanted oj (yielded ops.toArray a.tmps) = true := by
        rcases hg with hg | ⟨j', want, hg, hga⟩
        · simp [Region.wanted, hg]
        · exact guardA_at hga hg (guardLooks j' want hg)
      rw [hw]
      simp only [if_true]
      left
      have hρ : ∀ x ∈ oj.op.operands.toList, Rep κ.W κ.M κ.F (a.eval x) (evA (st j).tmps x) := by
        intro x hx
        cases x with
        | tmp t =>
          apply AgreeAt.eval
          apply looks
          unfold Oper.looksAt
          rw [List.mem_append]
          left
          rw [List.mem_filterMap]
          exact ⟨.tmp t, hx, rfl⟩
        | const v => exact cstA_rep κ v
        | func f => exact .fn f [] [] rfl (fun j v a h => by simp at h)
        | global g => exact .junk _
      obtain ⟨m, hm, hwm, hinv⟩ := h.heap
      cases hq : effs.contains j with
      | false =>
        rw [hq] at hcase
        simp only [Bool.false_eq_true, if_false] at hcase
        obtain ⟨rfl, rfl, hos⟩ := hcase
        have hjf : ¬ listed.getD j false = true := by
          simp [hjs] at hun ⊢
          exact hun
        have hmask0 := tr.mask' hm (show j ≤ ops.length by omega) (fun q hqn hfq => by
          have h1 := hwm q hqn ((drawOk_spec hok).2.2 q hfq)
          by_cases hqj : q = j
          · subst hqj
            rw [(drawOk_spec hok).2.2 q hfq] at hq; cases hq
          · have h2 := order_at hok h.closed hoj hj (List.getElem?_eq_getElem hqn) hqj (.inr (.inr (.inr (.inl hfq))))
            have : q < m ↔ q < j := h1.symm.trans h2
            omega)
        have hmask : maskH (SF frees S j) (st m).H = maskH (SF frees S j) (st j).H := by
          unfold SF
          split
          · rfl
          · exact hmask0
        refine hos _ _ hmask hinv hρ (fun v κ' hr hext hinv' => ?_)
        refine ih _ κ' _ hcount (he.trans hext) ?_
        exact h.step tr hok hoj hj hst hr hext (.inr ⟨hq, m, hm, hwm, hinv'⟩)
      | true =>
        rw [hq] at hcase
        simp only [if_true] at hcase
        have hjf : ¬ listed.getD j false = true := by
          simp [hjs] at hun ⊢
          exact hun
        have heq := tr.heap' hm (show j ≤ ops.length by omega) (fun q hqn heq => by
          have h1 := hwm q hqn heq
          by_cases hqj : q = j
          · subst hqj
            have : ¬ q < m := fun h' => hjf (h1.2 h')
            omega
          · have h2 := order_at hok h.closed hoj hj (List.getElem?_eq_getElem hqn) hqj (.inr (.inr (.inl ⟨heq, hq⟩)))
            have : q < m ↔ q < j := h1.symm.trans h2
            omega)
        rw [heq.1, heq.2] at hinv
        refine hcase.1 hinv hρ (fun v κ' hr hext hinv' => ?_)
        exact ih _ κ' _ hcount (he.trans hext) (h.step tr hok hoj hj hst hr hext (.inl ⟨hq, hinv'⟩))

/-- A REGION THAT DRAWS ITS ORDER. -/
theorem draw_sound (hm : P.follows .mixedOrders = true) {K : ASt → Prop} {s : ASt} {id : Nat} (h : ADraw P ops K s) {base : Nat} {κ : Cx} {a : Act} (hs : St base κ a s) {Q : Exit → Act → World → Prop}
    (hQ : ∀ a' W', Post base κ K a' W' → Q .normal a' W') : (Code.region id ops.toArray true).wp P Q a κ.W := by
  obtain ⟨effs, frees, S, hok, hd⟩ := h
  obtain ⟨st, h0, hK, hstep⟩ := trace_of ops 0 s hd (by simp)
  have tr : Trace P ops effs frees S s st := ⟨h0, fun i o ho => hstep i o (Nat.zero_le _) ho⟩
  simp only [Nat.zero_add] at hK
  refine wp_region_any hm ?_
  have hd' : ({ κ.W with drawn := κ.W.drawn + 1 } : World) = κ.drew.W := rfl
  rw [hd']
  have hsz : ops.toArray.size = ops.length := by simp
  rw [hsz]
  refine sim_any (κ0 := κ) tr hok (fun κ' a' hst hext => hQ a' κ'.W ⟨st ops.length, κ', rfl, hst, hext, hK⟩) ops.length _ κ.drew a ?_ (.drew base κ) ?_
  · have : cntT (fun i => (Array.replicate ops.length false).getD i false) ops.length = 0 := by
      have key : ∀ n, cntT (fun i => (Array.replicate ops.length false).getD i false) n = 0 := by
        intro n
        induction n with
        | zero => rfl
        | succ n ih =>
          unfold cntT
          rw [ih]
          by_cases hn : n < ops.length <;> simp [hn]
      exact key _
    rw [this]
    simp
  · have hf : ∀ i, (Array.replicate ops.length false).getD i false = true → False := by
      intro i h
      by_cases hn : i < ops.length <;> simp [hn] at h
    refine ⟨by simp, fun j o ho hj => absurd hj (hf j), ⟨0, Nat.zero_le _, fun i hi he => ⟨fun h => absurd h (hf i), fun h => absurd h (Nat.not_lt_zero _)⟩, ?_⟩, ?_, fun t ht => ?_, hs.defers⟩
    · rw [h0]; exact hs.inv.drew
    · have := hs.tmps.1; simpa using this
    · refine ⟨0, Nat.zero_le _, fun i o ho hd => ⟨fun h => absurd h (hf i), fun h => absurd h (Nat.not_lt_zero _)⟩, ?_⟩
      rw [h0]
      obtain ⟨v, hv, hr⟩ := hs.tmps.at (List.getElem?_eq_getElem ht)
      exact .inr ⟨v, s.tmps[t], by simpa using hv, List.getElem?_eq_getElem ht, hr.ev (.drew κ)⟩
end
end Go.TH

/-
  TH, part 17: code; functions; contracts.
-/
set_option linter.unusedVariables false
set_option linter.unusedSimpArgs false
namespace Go.TH
open Go

/-- What a piece of code comes to. -/
def awp (P : Program) : Code → (AEx → ASt → Prop) → ASt → Prop
  | .skip, Q, s => Q .normal s
  | .region _ ops draw, Q, s => if draw = true then ADraw P ops.toList (Q .normal) s else aops P ops.toList (Q .normal) ops.toList s
  | .seq a b, Q, s => awp P a (thenQ (awp P b Q) Q) s
  | .cond c a b, Q, s => ACond (evA s.tmps c) (awp P a Q s) (awp P b Q s)
  | .block id b, Q, s => awp P b (blockQ id Q) s
  | .loop b, Q, s => ALoop (awp P b) Q s
  | .exit id, Q, s => Q (.exit id) s
  | .ret, Q, s => Q .ret s
  | _, _, _ => False

theorem exists_least (p : Nat → Prop) (h : ∃ n, p n) : ∃ n, p n ∧ ∀ m, p m → n ≤ m := by
  obtain ⟨n, hn⟩ := h
  induction n using Nat.strongRecOn with
  | _ n ih =>
    by_cases hl : ∃ m, m < n ∧ p m
    · obtain ⟨m, h1, h2⟩ := hl
      exact ih m h1 h2
    · exact ⟨n, hn, fun m hm => Nat.le_of_not_lt fun h => hl ⟨m, h, hm⟩⟩
open Classical in
noncomputable def leastN (p : Nat → Prop) : Nat := if h : ∃ n, p n then (exists_least p h).choose else 0
theorem leastN_spec {p : Nat → Prop} (h : ∃ n, p n) : p (leastN p) ∧ ∀ m, p m → leastN p ≤ m := by
  unfold leastN
  rw [dif_pos h]
  exact (exists_least p h).choose_spec

theorem awp_sound {P : Program} (hm : P.follows .mixedOrders = true) : ∀ (c : Code) {Q : AEx → ASt → Prop} {s : ASt}, awp P c Q s → ∀ {base : Nat} {κ : Cx} {a : Act}, St base κ a s →
    ∀ {QQ : Exit → Act → World → Prop}, (∀ e s' κ' a', Q e s' → St base κ' a' s' → Ext base κ κ' → QQ (AEx.ex e) a' κ'.W) → c.wp P QQ a κ.W
  | .skip, Q, s, h, base, κ, a, hs, QQ, hQ => wp_skip (hQ .normal s κ a h hs (.refl _ _))
  | .region id ops draw, Q, s, h, base, κ, a, hs, QQ, hQ => by
    unfold awp at h
    have fin : ∀ a' W', Post base κ (Q .normal) a' W' → QQ .normal a' W' := by
      rintro a' W' ⟨s', κ', rfl, hs', hext, hK⟩
      exact hQ .normal s' κ' a' hK hs' hext
    cases draw with
    | true =>
      simp only [if_true] at h
      have := draw_sound (id := id) hm h hs fin
      simpa using this
    | false =>
      simp only [Bool.false_eq_true, if_false] at h
      have := aops_sound ops.toList h hs fin
      exact wp_region_list (by simpa using this)
  | .seq x y, Q, s, h, base, κ, a, hs, QQ, hQ => by
    unfold awp at h
    refine wp_seq (awp_sound hm x h hs (fun e s' κ' a' hq hs' hext => ?_))
    cases e with
    | normal => exact awp_sound hm y hq hs' (fun e2 s2 κ2 a2 hq2 hs2 hext2 => hQ e2 s2 κ2 a2 hq2 hs2 (hext.trans hext2))
    | exit id => exact hQ (.exit id) s' κ' a' hq hs' hext
    | ret => exact hQ .ret s' κ' a' hq hs' hext
  | .cond c x y, Q, s, h, base, κ, a, hs, QQ, hQ => by
    unfold awp ACond at h
    split at h
    · rename_i b hb
      have hc := evA_rep hs c
      rw [hb] at hc
      have hv := hc.bool_inv
      unfold AIf at h
      cases b with
      | true => simp only [if_true] at h; exact wp_cond_true hv (awp_sound hm x h hs hQ)
      | false => simp only [Bool.false_eq_true, if_false] at h; exact wp_cond_false hv (awp_sound hm y h hs hQ)
    · exact h.elim
  | .block id b, Q, s, h, base, κ, a, hs, QQ, hQ => by
    unfold awp at h
    refine wp_block (awp_sound hm b h hs (fun e s' κ' a' hq hs' hext => ?_))
    cases e with
    | normal => exact hQ .normal s' κ' a' hq hs' hext
    | exit id' =>
      simp only [blockQ] at hq
      simp only [AEx.ex, Exit.inBlock]
      split at hq
      · rename_i hi; rw [if_pos hi]; exact hQ .normal s' κ' a' hq hs' hext
      · rename_i hi; rw [if_neg hi]; exact hQ (.exit id') s' κ' a' hq hs' hext
    | ret => exact hQ .ret s' κ' a' hq hs' hext
  | .loop b, Q, s, h, base, κ, a, hs, QQ, hQ => by
    unfold awp ALoop at h
    obtain ⟨R, n, ⟨s0, hw0, hR⟩, hround⟩ := h
    let J : Act → World → Nat → Prop := fun a' W' n' => ∃ s' κ', κ'.W = W' ∧ St base κ' a' s' ∧ Ext base κ κ' ∧ R s' n'
    obtain ⟨κ0, hκ0, hs0, hext0⟩ := hw0 base κ a hs
    refine wp_loop (fun a' W' => ∃ n', J a' W' n') (fun a' W' => leastN (J a' W')) ⟨n, s0, κ0, hκ0, hs0, hext0, hR⟩ ?_
    intro a1 W1 hJ
    obtain ⟨⟨s1, κ1, rfl, hs1, hext1, hR1⟩, hmin⟩ := leastN_spec hJ
    refine awp_sound hm b (hround s1 _ hR1) hs1 (fun e s' κ' a' hq hs' hext => ?_)
    cases e with
    | normal =>
      obtain ⟨m, hlt, s2, hw2, hRm⟩ := hq
      obtain ⟨κ2, hκ2, hs2, hext2⟩ := hw2 base κ' a' hs'
      have hJ2 : J a' κ'.W m := ⟨s2, κ2, hκ2, hs2, (hext1.trans hext).trans hext2, hRm⟩
      have hJ' : ∃ n', J a' κ'.W n' := ⟨m, hJ2⟩
      have := (leastN_spec hJ').2 m hJ2
      exact ⟨hJ', by omega⟩
    | exit id => exact hQ (.exit id) s' κ' a' hq hs' (hext1.trans hext)
    | ret => exact hQ .ret s' κ' a' hq hs' (hext1.trans hext)
  | .exit id, Q, s, h, base, κ, a, hs, QQ, hQ => wp_exit (hQ (.exit id) s κ a h hs (.refl _ _))
  | .ret, Q, s, h, base, κ, a, hs, QQ, hQ => wp_ret (hQ .ret s κ a h hs (.refl _ _))
  | .rangeFunc .., Q, s, h, base, κ, a, hs, QQ, hQ => by unfold awp at h; exact h.elim
  | .scope .., Q, s, h, base, κ, a, hs, QQ, hQ => by unfold awp at h; exact h.elim
  | .label .., Q, s, h, base, κ, a, hs, QQ, hQ => by unfold awp at h; exact h.elim
  | .goto .., Q, s, h, base, κ, a, hs, QQ, hQ => by unfold awp at h; exact h.elim
  | .refuse .., Q, s, h, base, κ, a, hs, QQ, hQ => by unfold awp at h; exact h.elim

/-! ### Functions -/
def resC (H : AH) (ty : Option (Bool × Nat)) (x : AV) : Option (Prop × AV) :=
  match ty, x with
  | some s, .ptr id ver off => (match H id with
    | .live v cells => some (v = ver ∧ (loadA cells off s).1, (loadA cells off s).2)
    | .dead => none)
  | _, _ => none
def resA (P : Program) (H : AH) (tmps : List AV) : List ResultVar → Option (Prop × List AV)
  | [] => some (True, [])
  | .tmp t :: r => (resA P H tmps r).map fun l => (l.1, tmps.getD t .junk :: l.2)
  | .cell a t :: r => (match resC H (tyAS P t) (tmps.getD a .junk), resA P H tmps r with
    | some (p, v), some l => some (p ∧ l.1, v :: l.2)
    | _, _ => none)
def packA : List AV → AV
  | [a] => a
  | l => .tup l
/-- Behind the body. -/
def bodyQ (P : Program) (rs : List ResultVar) (K : AV → AH → Nat → Prop) : AEx → ASt → Prop
  | .exit _, _ => False
  | _, s => match resA P s.H s.tmps rs with
    | some l => l.1 ∧ K (packA l.2) s.H s.nx
    | none => False

def resF (tmps : Array Value) : ResultVar → Sem Value
  | .tmp t => pure (tmps.getD t undef)
  | .cell a t => do loadVar t (← asAddr (tmps.getD a undef))
theorem results_eq (fn : Func) (tmps : Array Value) : results fn tmps = (do let vs ← fn.results.mapM (resF tmps); pure (if h : vs.size = 1 then vs[0] else .tuple vs)) := by
  unfold results
  congr 2
theorem resA_run {P : Program} {base : Nat} {κ : Cx} {a : Act} {s : ASt} (hs : St base κ a s) : ∀ (rs : List ResultVar) (l : Prop × List AV), resA P s.H s.tmps rs = some l → l.1 →
    ∃ vs : List Value, (rs.mapM (resF a.tmps)).run P κ.W = .ok vs κ.W ∧ Reps κ vs l.2
  | [], l, h, _ => by cases h; exact ⟨[], by simp, Reps.nil κ⟩
  | .tmp t :: rs, l, h, hp => by
    simp only [resA] at h
    cases hr : resA P s.H s.tmps rs with
    | none => rw [hr] at h; cases h
    | some l' =>
      rw [hr] at h
      cases h
      obtain ⟨vs, h1, h2⟩ := resA_run hs rs l' hr hp
      refine ⟨a.tmps.getD t undef :: vs, ?_, Reps.cons (evA_rep hs (.tmp t)) h2⟩
      rw [List.mapM_cons]
      simp only [resF, Sem.run_bind, Sem.run_pure, Result.andThen_ok, h1]
  | .cell x t :: rs, l, h, hp => by
    simp only [resA] at h
    split at h
    · rename_i p v l' hc hr
      cases h
      obtain ⟨vs, h1, h2⟩ := resA_run hs rs l' hr hp.2
      unfold resC at hc
      split at hc
      · rename_i s0 id ver off hty hx
        obtain ⟨g, n⟩ := s0
        split at hc
        · rename_i ver' cells hl
          cases hc
          obtain ⟨⟨rfl, hp1⟩, hp2⟩ := hp
          have hx' := evA_rep hs (.tmp x)
          simp only [evA] at hx'
          rw [hx] at hx'
          obtain ⟨b, us, hv, hca, hus⟩ := hs.inv.ptr_cells hl hx'
          have hd := loadA_drop cells off (g, n) hp1
          obtain ⟨v, hrun, hrep⟩ := run_load_cells hty hca (hus.drop off) hd.1
          rw [hd.2] at hrep
          refine ⟨v :: vs, ?_, Reps.cons hrep h2⟩
          have hv' : a.tmps.getD x undef = Value.pointer (some _) := hv
          rw [List.mapM_cons]
          simp only [resF, hv', asAddr, Sem.run_bind, Sem.run_pure, Result.andThen_ok, hrun, h1]
        · cases hc
      · cases hc
    · cases h

/-- A BODY GIVES A CONTRACT. -/
def WalkOk (P : Program) (c : Code) (Q : AEx → ASt → Prop) (s : ASt) : Prop := ∀ {base : Nat} {κ : Cx} {a : Act}, St base κ a s →
    ∀ {QQ : Exit → Act → World → Prop}, (∀ e s' κ' a', Q e s' → St base κ' a' s' → Ext base κ κ' → QQ (AEx.ex e) a' κ'.W) → c.wp P QQ a κ.W
theorem callQ_of_walk {P : Program} {f : FuncId} {fn : Func} {c : Code} {n : Nat} {rs : List ResultVar} (hf : P.funcs[f]? = some fn) (hb : fn.body = some c) (hn : fn.ntmps = n) (hrs : fn.results = rs.toArray)
    (hname : (fn.name == "runtime.NumGoroutine") = false) {args : List AV} {H : AH} {nx : Nat} {Q : AV → AH → Nat → Prop}
    (h : WalkOk P c (bodyQ P rs Q) ⟨args ++ List.replicate (n - args.length) (.tup []), H, nx⟩) : CallQ P f args H nx Q := by
  refine ⟨⟨fn, hf, hname, by rw [hb]; rfl⟩, fun base κ vs hi hr => ?_⟩
  refine calls_of_wp hf hb ?_
  have hs : St base κ { tmps := vs.toArray ++ Array.replicate (fn.ntmps - vs.toArray.size) undef, defers := [] } ⟨args ++ List.replicate (n - args.length) (.tup []), H, nx⟩ := by
    refine ⟨hi, ?_, rfl⟩
    have : (vs.toArray ++ Array.replicate (fn.ntmps - vs.toArray.size) undef).toList = vs ++ List.replicate (n - args.length) undef := by
      have := hr.1
      simp [hn, this]
    rw [this]
    refine hr.append ⟨by simp, fun j v a h1 h2 => ?_⟩
    rw [List.getElem?_replicate] at h1 h2
    split at h1
    · rename_i hj
      rw [if_pos hj] at h2
      cases h1
      cases h2
      exact .tup [] [] rfl (fun j v a h => by simp at h)
    · cases h1
  refine h hs (fun e s' κ' a' hq hs' hext => ?_)
  have fin : (∃ l, resA P s'.H s'.tmps rs = some l ∧ l.1 ∧ Q (packA l.2) s'.H s'.nx) → a'.defers = [] ∧ ∃ v, (results fn a'.tmps).run P κ'.W = .ok v κ'.W ∧
      ∃ r H' nx', Q r H' nx' ∧ ∃ v' κ2, Ending.returned v = .returned v' ∧ κ2.W = κ'.W ∧ Rep κ2.W κ2.M κ2.F v' r ∧ Ext base κ κ2 ∧ Inv base κ2 H' nx' := by
    rintro ⟨⟨p, l⟩, hl, hp, hq⟩
    refine ⟨hs'.defers, ?_⟩
    obtain ⟨vs', hrun, hrep⟩ := resA_run (P := P) hs' rs (p, l) hl hp
    have hres : (results fn a'.tmps).run P κ'.W = .ok (if h : vs'.toArray.size = 1 then vs'.toArray[0] else .tuple vs'.toArray) κ'.W := by
      rw [results_eq, hrs]
      simp only [Sem.run_bind, Array.mapM_eq_mapM_toList, Sem.run_map, hrun, Result.andThen_ok, Sem.run_pure]
    refine ⟨_, hres, _, _, _, hq, _, κ', rfl, rfl, ?_, hext, hs'.inv⟩
    match l, hrep with
    | [], hrep =>
      obtain rfl := hrep.unnil
      simp only [packA]
      exact .tup [] [] rfl hrep.2
    | [x], hrep =>
      obtain ⟨v, vs2, rfl, h1, h2⟩ := hrep.uncons
      obtain rfl := h2.unnil
      simpa [packA] using h1
    | x :: y :: l, hrep =>
      obtain ⟨v, vs2, rfl, h1, h2⟩ := hrep.uncons
      obtain ⟨v2, vs3, rfl, h3, h4⟩ := h2.uncons
      simp only [packA]
      have : ¬ ((v :: v2 :: vs3).toArray.size = 1) := by simp
      rw [dif_neg this]
      exact .tup _ _ hrep.1 hrep.2
  cases e with
  | exit id => exact hq.elim
  | normal =>
    simp only [bodyQ] at hq
    split at hq
    · rename_i l hl; exact fin ⟨l, hl, hq.1, hq.2⟩
    · exact hq.elim
  | ret =>
    simp only [bodyQ] at hq
    split at hq
    · rename_i l hl; exact fin ⟨l, hl, hq.1, hq.2⟩
    · exact hq.elim
theorem callQ_of_body {P : Program} (hm : P.follows .mixedOrders = true) {f : FuncId} {fn : Func} {c : Code} {n : Nat} {rs : List ResultVar} (hf : P.funcs[f]? = some fn) (hb : fn.body = some c) (hn : fn.ntmps = n) (hrs : fn.results = rs.toArray)
    (hname : (fn.name == "runtime.NumGoroutine") = false) {args : List AV} {H : AH} {nx : Nat} {Q : AV → AH → Nat → Prop}
    (h : awp P c (bodyQ P rs Q) ⟨args ++ List.replicate (n - args.length) (.tup []), H, nx⟩) : CallQ P f args H nx Q :=
  callQ_of_walk hf hb hn hrs hname (fun {base κ a} hs {QQ} hQ => awp_sound hm c h hs hQ)
theorem call_of_body {P : Program} (hm : P.follows .mixedOrders = true) {f : FuncId} {fn : Func} {c : Code} {n : Nat} {rs : List ResultVar} (hf : P.funcs[f]? = some fn) (hb : fn.body = some c) (hn : fn.ntmps = n) (hrs : fn.results = rs.toArray)
    (hname : (fn.name == "runtime.NumGoroutine") = false) {args : List AV} {H : AH} {nx : Nat} {r : AV} {H' : AH} {nx' : Nat}
    (h : awp P c (bodyQ P rs fun r1 H1 nx1 => r1 = r ∧ H1 = H' ∧ nx1 = nx') ⟨args ++ List.replicate (n - args.length) (.tup []), H, nx⟩) : CallC P f args H nx r H' nx' := by
  obtain ⟨h1, h2⟩ := callQ_of_body hm hf hb hn hrs hname h
  refine ⟨h1, fun base κ vs hi hr => (h2 base κ vs hi hr).mono ?_⟩
  rintro e W' ⟨r1, H1, nx1, ⟨rfl, rfl, rfl⟩, h3⟩
  exact h3
theorem CallC.toQ {P : Program} {f : FuncId} {args : List AV} {H : AH} {nx : Nat} {r : AV} {H' : AH} {nx' : Nat} (h : CallC P f args H nx r H' nx') : CallQ P f args H nx (fun r1 H1 nx1 => r1 = r ∧ H1 = H' ∧ nx1 = nx') :=
  ⟨h.1, fun base κ vs hi hr => (h.2 base κ vs hi hr).mono (fun e W' h => ⟨r, H', nx', ⟨rfl, rfl, rfl⟩, h⟩)⟩
end Go.TH

/-
  TH, part 18: contracts at other states: what hangs on no memory, what is only read, what is handed over to be read.
-/
set_option linter.unusedVariables false
set_option linter.unusedSimpArgs false
namespace Go.TH
open Go

mutual
/-- No places inside. -/
def pureA : AV → Bool
  | .sl _ _ cs => pureL cs
  | .ro cs => pureL cs
  | .agg cs => pureL cs
  | .tup cs => pureL cs
  | .fn _ cs => pureL cs
  | .ptr _ _ _ => false
  | .msl _ _ _ _ _ => false
  | .int _ _ => true
  | .bool _ => true
  | .str _ => true
  | .nilp => true
  | .junk => true
  | .unk => true
def pureL : List AV → Bool
  | [] => true
  | a :: l => pureA a && pureL l
end
mutual
/-- No memory at all inside. -/
def scalA : AV → Bool
  | .sl _ _ cs => cs.isEmpty
  | .ro _ => false
  | .agg cs => scalL cs
  | .tup cs => scalL cs
  | .fn _ cs => scalL cs
  | .ptr _ _ _ => false
  | .msl _ _ _ _ _ => false
  | .int _ _ => true
  | .bool _ => true
  | .str _ => true
  | .nilp => true
  | .junk => true
  | .unk => true
def scalL : List AV → Bool
  | [] => true
  | a :: l => scalA a && scalL l
end
theorem pureL_get : ∀ {l : List AV} {j : Nat} {a : AV}, pureL l = true → l[j]? = some a → pureA a = true
  | [], j, a, _, h => by simp at h
  | x :: l, 0, a, hp, h => by simp at h; subst h; unfold pureL at hp; simp at hp; exact hp.1
  | x :: l, j + 1, a, hp, h => by unfold pureL at hp; simp at hp h; exact pureL_get hp.2 h
theorem scalL_get : ∀ {l : List AV} {j : Nat} {a : AV}, scalL l = true → l[j]? = some a → scalA a = true
  | [], j, a, _, h => by simp at h
  | x :: l, 0, a, hp, h => by simp at h; subst h; unfold scalL at hp; simp at hp; exact hp.1
  | x :: l, j + 1, a, hp, h => by unfold scalL at hp; simp at hp h; exact scalL_get hp.2 h
theorem pureL_append (a b : List AV) : pureL (a ++ b) = (pureL a && pureL b) := by
  induction a with
  | nil => simp [pureL]
  | cons x a ih => simp [pureL, ih, Bool.and_assoc]

theorem Rep.pure {W : World} {M M' : Nat → Option Ent} {F : Nat → Prop} {v : Value} {a : AV} (r : Rep W M F v a) : pureA a = true → Rep W M' F v a := by
  induction r with
  | int k n => exact fun _ => .int k n
  | bool b => exact fun _ => .bool b
  | str s => exact fun _ => .str s
  | sl ad n c t cells vs hn ht hF hs hl hc hr ih => exact fun hp => .sl ad n c t cells vs hn ht hF hs hl hc (fun j v a h1 h2 => ih j v a h1 h2 (pureL_get (by simpa [pureA] using hp) h2))
  | sl0 A n c t hn ht => exact fun _ => .sl0 A n c t hn ht
  | ro ad cells vs hF hs hl hc hr ih => exact fun hp => .ro ad cells vs hF hs hl hc (fun j v a h1 h2 => ih j v a h1 h2 (pureL_get (by simpa [pureA] using hp) h2))
  | ptr id ver off b hm => intro hp; simp [pureA] at hp
  | ptrOld v id ver off e hm hv => intro hp; simp [pureA] at hp
  | msl id ver sz off n c b cs T fz hm hn hb hcap => intro hp; simp [pureA] at hp
  | mslNil A id ver sz off b hm => intro hp; simp [pureA] at hp
  | mslOld v id ver sz off n e hm hv => intro hp; simp [pureA] at hp
  | agg vs cells hl h1 hr ih => exact fun hp => .agg vs cells hl h1 (fun j v a h1 h2 => ih j v a h1 h2 (pureL_get (by simpa [pureA] using hp) h2))
  | tup vs as hl hr ih => exact fun hp => .tup vs as hl (fun j v a h1 h2 => ih j v a h1 h2 (pureL_get (by simpa [pureA] using hp) h2))
  | fn f vs as hl hr ih => exact fun hp => .fn f vs as hl (fun j v a h1 h2 => ih j v a h1 h2 (pureL_get (by simpa [pureA] using hp) h2))
  | nilp => exact fun _ => .nilp
  | junk v => exact fun _ => .junk v
  | unk b => exact fun _ => .unk b
theorem Rep.scal {W W' : World} {M M' : Nat → Option Ent} {F F' : Nat → Prop} {v : Value} {a : AV} (r : Rep W M F v a) : scalA a = true → Rep W' M' F' v a := by
  induction r with
  | int k n => exact fun _ => .int k n
  | bool b => exact fun _ => .bool b
  | str s => exact fun _ => .str s
  | sl ad n c t cells vs hn ht hF hs hl hc hr ih =>
    intro hp
    have : cells = [] := by simpa [scalA] using hp
    subst this
    exact .sl0 _ n c t hn ht
  | sl0 A n c t hn ht => exact fun _ => .sl0 A n c t hn ht
  | ro ad cells vs hF hs hl hc hr ih => intro hp; simp [scalA] at hp
  | ptr id ver off b hm => intro hp; simp [scalA] at hp
  | ptrOld v id ver off e hm hv => intro hp; simp [scalA] at hp
  | msl id ver sz off n c b cs T fz hm hn hb hcap => intro hp; simp [scalA] at hp
  | mslNil A id ver sz off b hm => intro hp; simp [scalA] at hp
  | mslOld v id ver sz off n e hm hv => intro hp; simp [scalA] at hp
  | agg vs cells hl h1 hr ih => exact fun hp => .agg vs cells hl h1 (fun j v a h1 h2 => ih j v a h1 h2 (scalL_get (by simpa [scalA] using hp) h2))
  | tup vs as hl hr ih => exact fun hp => .tup vs as hl (fun j v a h1 h2 => ih j v a h1 h2 (scalL_get (by simpa [scalA] using hp) h2))
  | fn f vs as hl hr ih => exact fun hp => .fn f vs as hl (fun j v a h1 h2 => ih j v a h1 h2 (scalL_get (by simpa [scalA] using hp) h2))
  | nilp => exact fun _ => .nilp
  | junk v => exact fun _ => .junk v
  | unk b => exact fun _ => .unk b

mutual
/-- The places inside are replaced. -/
def mapRef (g : AV → AV) : AV → AV
  | .sl n t cs => .sl n t (mapRefL g cs)
  | .ro cs => .ro (mapRefL g cs)
  | .agg cs => .agg (mapRefL g cs)
  | .tup cs => .tup (mapRefL g cs)
  | .fn f cs => .fn f (mapRefL g cs)
  | .ptr id ver off => g (.ptr id ver off)
  | .msl id ver sz off n => g (.msl id ver sz off n)
  | .int k n => .int k n
  | .bool b => .bool b
  | .str s => .str s
  | .nilp => .nilp
  | .junk => .junk
  | .unk => .unk
def mapRefL (g : AV → AV) : List AV → List AV
  | [] => []
  | a :: l => mapRef g a :: mapRefL g l
end
def derefA (H : AH) (f : List AV → List AV) : AV → AV
  | .ptr id ver off => (match H id with
      | .live v cells => if v = ver then .ro (f (cells.drop off)) else .junk
      | .dead => .junk)
  | .msl id ver sz off n => (match H id with
      | .live v cells => if v = ver then .sl n false (f ((cells.drop off).take (n * sz))) else .junk
      | .dead => .junk)
  | _ => .junk
/-- A picture of a value: what its places hold now, to be read. 'd': how deep places lead to places. -/
def snapA : Nat → AH → AV → AV
  | 0, _ => mapRef fun _ => .junk
  | d + 1, H => mapRef (derefA H fun cs => cs.map (snapA d H))
theorem mapRefL_map (g : AV → AV) : ∀ l, mapRefL g l = l.map (mapRef g)
  | [] => rfl
  | a :: l => by simp [mapRefL, mapRefL_map g l]
mutual
theorem mapRef_pure (g : AV → AV) (hg : ∀ a, pureA (g a) = true) : ∀ a, pureA (mapRef g a) = true
  | .sl n t cs => by simp only [mapRef, pureA]; exact mapRefL_pure g hg cs
  | .ro cs => by simp only [mapRef, pureA]; exact mapRefL_pure g hg cs
  | .agg cs => by simp only [mapRef, pureA]; exact mapRefL_pure g hg cs
  | .tup cs => by simp only [mapRef, pureA]; exact mapRefL_pure g hg cs
  | .fn f cs => by simp only [mapRef, pureA]; exact mapRefL_pure g hg cs
  | .ptr id ver off => by simp only [mapRef]; exact hg _
  | .msl id ver sz off n => by simp only [mapRef]; exact hg _
  | .int k n => rfl
  | .bool b => rfl
  | .str s => rfl
  | .nilp => rfl
  | .junk => rfl
  | .unk => rfl
theorem mapRefL_pure (g : AV → AV) (hg : ∀ a, pureA (g a) = true) : ∀ l, pureL (mapRefL g l) = true
  | [] => rfl
  | a :: l => by simp only [mapRefL, pureL, mapRef_pure g hg a, mapRefL_pure g hg l, Bool.and_self]
end
theorem snapA_pure : ∀ (d : Nat) (H : AH) (a : AV), pureA (snapA d H a) = true
  | 0, H, a => mapRef_pure _ (fun _ => rfl) a
  | d + 1, H, a => by
    refine mapRef_pure _ (fun a => ?_) a
    have hl : ∀ l : List AV, pureL (l.map (snapA d H)) = true := by
      intro l
      induction l with
      | nil => rfl
      | cons x l ih => simp only [List.map_cons, pureL, snapA_pure d H x, ih, Bool.and_self]
    unfold derefA
    split
    · split
      · split
        · simp only [pureA]; exact hl _
        · rfl
      · rfl
    · split
      · split
        · simp only [pureA]; exact hl _
        · rfl
      · rfl
    · rfl

/-- The blocks of the places that live. -/
def liveB (κ : Cx) (H : AH) (b : Nat) : Prop := ∃ id ver cells e, H id = .live ver cells ∧ κ.M id = some e ∧ e.blk = some b
theorem mapRef_rep {κ : Cx} {F' : Nat → Prop} {M' : Nat → Option Ent} (hF : ∀ b, κ.F b → F' b) (g : AV → AV) (hg : ∀ v a, Rep κ.W κ.M κ.F v a → (∃ id ver off, a = .ptr id ver off) ∨ (∃ id ver sz off n, a = .msl id ver sz off n) → Rep κ.W M' F' v (g a))
    {v : Value} {a : AV} (r : Rep κ.W κ.M κ.F v a) : Rep κ.W M' F' v (mapRef g a) := by
  have pts : ∀ {vs : List Value} {cells : List AV}, (∀ (j : Nat) (v : Value) (a : AV), vs[j]? = some v → cells[j]? = some a → Rep κ.W M' F' v (mapRef g a)) →
      ∀ (j : Nat) (v : Value) (a : AV), vs[j]? = some v → (mapRefL g cells)[j]? = some a → Rep κ.W M' F' v a := by
    intro vs cells h j v a h1 h2
    rw [mapRefL_map, List.getElem?_map] at h2
    cases hc : cells[j]? with
    | none => rw [hc] at h2; cases h2
    | some x => rw [hc] at h2; cases h2; exact h j v x h1 hc
  have len : ∀ cells : List AV, (mapRefL g cells).length = cells.length := fun cells => by rw [mapRefL_map]; simp
  induction r with
  | int k n => exact .int k n
  | bool b => exact .bool b
  | str s => exact .str s
  | sl ad n c t cells vs hn ht hF' hs hl hc hr ih => exact .sl ad n c t _ vs hn ht (hF _ hF') hs (by rw [len]; exact hl) hc (pts ih)
  | sl0 A n c t hn ht => exact .sl0 A n c t hn ht
  | ro ad cells vs hF' hs hl hc hr ih => exact .ro ad _ vs (hF _ hF') hs (by rw [len]; exact hl) hc (pts ih)
  | ptr id ver off b hm => exact hg _ _ (.ptr id ver off b hm) (.inl ⟨_, _, _, rfl⟩)
  | ptrOld v id ver off e hm hv => exact hg _ _ (.ptrOld v id ver off e hm hv) (.inl ⟨_, _, _, rfl⟩)
  | msl id ver sz off n c b cs T fz hm hn hb hcap => exact hg _ _ (.msl id ver sz off n c b cs T fz hm hn hb hcap) (.inr ⟨_, _, _, _, _, rfl⟩)
  | mslNil A id ver sz off b hm => exact hg _ _ (.mslNil A id ver sz off b hm) (.inr ⟨_, _, _, _, _, rfl⟩)
  | mslOld v id ver sz off n e hm hv => exact hg _ _ (.mslOld v id ver sz off n e hm hv) (.inr ⟨_, _, _, _, _, rfl⟩)
  | agg vs cells hl h1 hr ih => exact .agg vs _ (by rw [len]; exact hl) h1 (pts ih)
  | tup vs as hl hr ih => exact .tup vs _ (by rw [len]; exact hl) (pts ih)
  | fn f vs as hl hr ih => exact .fn f vs _ (by rw [len]; exact hl) (pts ih)
  | nilp => exact .nilp
  | junk v => exact .junk v
  | unk b => exact .unk b
theorem snap_rep {base nx : Nat} {κ : Cx} {H : AH} (hi : Inv base κ H nx) {F' : Nat → Prop} {M' : Nat → Option Ent} (hF : ∀ b, κ.F b → F' b) (hL : ∀ b, liveB κ H b → F' b) : ∀ (d : Nat) {v : Value} {a : AV}, Rep κ.W κ.M κ.F v a → Rep κ.W M' F' v (snapA d H a)
  | 0, v, a, r => mapRef_rep hF _ (fun v a _ _ => .junk v) r
  | d + 1, v, a, r => by
    refine mapRef_rep hF _ (fun v a hr ha => ?_) r
    have cells : ∀ {vs : List Value} {cs : List AV}, Reps κ vs cs → Reps ⟨κ.W, M', F'⟩ vs (cs.map (snapA d H)) := by
      intro vs cs h
      refine ⟨by simp [h.1], fun j v a h1 h2 => ?_⟩
      rw [List.getElem?_map] at h2
      cases hc : cs[j]? with
      | none => rw [hc] at h2; cases h2
      | some x => rw [hc] at h2; cases h2; exact snap_rep hi hF hL d (h.2 j v x h1 hc)
    rcases ha with ⟨id, ver, off, rfl⟩ | ⟨id, ver, sz, off, n, rfl⟩
    · cases hl : H id with
      | dead => simp only [derefA, hl]; exact .junk v
      | live v' cs =>
        simp only [derefA, hl]
        split
        · rename_i hv
          subst hv
          obtain ⟨b, rfl, hm⟩ := hi.ptr_inv hl hr
          obtain ⟨_, _, vs, rest, T, hb, h1, hrs⟩ := hi.place hl hm
          have hca := (cellsAt_block (κ := κ) hb h1).drop off
          rw [add_lit, Nat.zero_add] at hca
          exact Rep.ro_mk (κ := ⟨κ.W, M', F'⟩) (hL b ⟨id, _, _, _, hl, hm, rfl⟩) hca (cells (hrs.drop off))
        · exact .junk v
    · cases hl : H id with
      | dead => simp only [derefA, hl]; exact .junk v
      | live v' cs =>
        simp only [derefA, hl]
        split
        · rename_i hv
          subst hv
          rcases hi.msl_inv hl hr with ⟨b, c, cs', T, fz, rfl, hm, hn, hb0, hcap⟩ | ⟨A, b0, rfl, hm, hn⟩
          · obtain ⟨_, _, vs, rest, T', hb, h1, hrs⟩ := hi.place hl hm
            have hca := ((cellsAt_block (κ := κ) hb h1).drop off).take (n * sz)
            rw [add_lit, Nat.zero_add] at hca
            exact Rep.sl_mk (κ := ⟨κ.W, M', F'⟩) hn (fun h => by cases h) (.inr ⟨_, _, rfl, hL b ⟨id, _, _, _, hl, hm, rfl⟩, hca, cells ((hrs.drop off).take (n * sz))⟩)
          · subst hn
            simp only [Nat.zero_mul, List.take_zero, List.map_nil]
            exact .sl0 A 0 0 false (Nat.le_refl _) (fun h => by cases h)
        · exact .junk v
theorem snap_reps {base nx : Nat} {κ : Cx} {H : AH} (hi : Inv base κ H nx) {F' : Nat → Prop} {M' : Nat → Option Ent} (hF : ∀ b, κ.F b → F' b) (hL : ∀ b, liveB κ H b → F' b) (d : Nat) {vs : List Value} {as : List AV} (h : Reps κ vs as) :
    Reps ⟨κ.W, M', F'⟩ vs (as.map (snapA d H)) := by
  refine ⟨by simp [h.1], fun j v a h1 h2 => ?_⟩
  rw [List.getElem?_map] at h2
  cases hc : as[j]? with
  | none => rw [hc] at h2; cases h2
  | some x => rw [hc] at h2; cases h2; exact snap_rep hi hF hL d (h.2 j v x h1 hc)

/-- CALLED ON WHAT IS PURE, in a heap of its own: the answer's picture hangs on no memory. -/
theorem qcall_ofQ {P : Program} {f : FuncId} {args : List AV} (hp : pureL args = true) (d : Nat) {R : AV} (h : CallQ P f args noH 0 fun r H' _ => snapA d H' r = R) : QCall P f args R := by
  intro H nx
  refine ⟨h.1, fun base κ vs hi hr => ?_⟩
  -- the callee's own state
  have hi0 : Inv κ.W.heap.size ⟨κ.W, fun _ => none, κ.F⟩ noH 0 := ⟨hi.hF, Nat.le_refl _, (fun _ _ => rfl), (fun id ver cells h => by cases h), (fun i j ei ej b _ h _ _ _ => by cases h)⟩
  have hr0 : Reps ⟨κ.W, fun _ => none, κ.F⟩ vs args := ⟨hr.1, fun j v a h1 h2 => (hr.2 j v a h1 h2).pure (pureL_get hp h2)⟩
  refine (h.2 _ _ vs hi0 hr0).mono ?_
  rintro e W' ⟨r, H', nx', rfl, v, κ', rfl, rfl, hrep, hext, hinv⟩
  let F2 : Nat → Prop := fun b => κ'.F b ∨ liveB κ' H' b
  have newF : ∀ b, F2 b → κ.F b ∨ κ.W.heap.size ≤ b := by
    rintro b (hb | ⟨id, ver, cells, e, h1, h2, h3⟩)
    · exact hext.newF b hb
    · obtain ⟨e', he', _, hh⟩ := hinv.live id ver cells h1
      rw [h2] at he'
      cases he'
      unfold Held at hh
      rw [h3] at hh
      exact .inr hh.1
  have ev : Ev κ ⟨κ'.W, κ.M, F2⟩ := ⟨fun b hb => ⟨.inl (hext.ev.fr b hb).1, (hext.ev.fr b hb).2⟩, fun id e he => ⟨e, he, .inr rfl⟩, hext.ev.shp⟩
  refine ⟨v, ⟨κ'.W, κ.M, F2⟩, rfl, rfl, snap_rep hinv (fun b hb => .inl hb) (fun b hb => .inr hb) d hrep, ?_, ?_⟩
  · refine ⟨ev, hext.os, hext.tape, hext.output, hext.size, fun b hb => hext.below b (Nat.lt_of_lt_of_le hb hi.hbase), fun b hb => ?_⟩
    rcases newF b hb with h' | h'
    · exact .inl h'
    · exact .inr (Nat.le_trans hi.hbase h')
  · refine ⟨fun b hb => ?_, Nat.le_trans hi.hbase hext.size, hi.hM, fun id ver cells hl => ?_, hi.inj⟩
    · rcases hb with hb | ⟨id, ver, cells, e, h1, h2, h3⟩
      · exact hinv.hF b hb
      · obtain ⟨e', he', _, hh⟩ := hinv.live id ver cells h1
        rw [h2] at he'
        cases he'
        exact hh.lt h3
    · obtain ⟨e, he, hv, hh⟩ := hi.live id ver cells hl
      refine ⟨e, he, hv, hh.ev ev (fun b hb _ hn hc => ?_) (fun b hb => hext.below b (hh.lt hb))⟩
      rcases newF b hc with h' | h'
      · exact hn h'
      · have := hh.lt hb
        omega
/-- CALLED ON A PICTURE of what is the caller's own: a plain answer leaves it as it is. -/
theorem callC_borrow {P : Program} {f : FuncId} {args : List AV} {H : AH} {nx : Nat} {r : AV} (d : Nat) (h : QCall P f (args.map (snapA d H)) r) (hs : scalA r = true) : CallC P f args H nx r H nx := by
  refine ⟨(h noH 0).1, fun base κ vs hi hr => ?_⟩
  have hF0 : ∀ b, (κ.F b ∨ liveB κ H b) → b < κ.W.heap.size := by
    rintro b (hb | ⟨id, ver, cells, e, h1, h2, h3⟩)
    · exact hi.hF b hb
    · obtain ⟨e', he', _, hh⟩ := hi.live id ver cells h1
      rw [h2] at he'
      cases he'
      exact hh.lt h3
  have hi0 : Inv κ.W.heap.size ⟨κ.W, fun _ => none, fun b => κ.F b ∨ liveB κ H b⟩ noH 0 := ⟨hF0, Nat.le_refl _, (fun _ _ => rfl), (fun id ver cells h => by cases h), (fun i j ei ej b _ h _ _ _ => by cases h)⟩
  have hr0 : Reps ⟨κ.W, fun _ => none, fun b => κ.F b ∨ liveB κ H b⟩ vs (args.map (snapA d H)) := snap_reps hi (fun b hb => .inl hb) (fun b hb => .inr hb) d hr
  refine ((h noH 0).2 _ _ vs hi0 hr0).mono ?_
  rintro e W' ⟨v, κ', rfl, rfl, hrep, hext, hinv⟩
  have ev : Ev κ ⟨κ'.W, κ.M, κ.F⟩ := ⟨fun b hb => ⟨hb, (hext.ev.fr b (.inl hb)).2⟩, fun id e he => ⟨e, he, .inr rfl⟩, hext.ev.shp⟩
  refine ⟨v, ⟨κ'.W, κ.M, κ.F⟩, rfl, rfl, hrep.scal hs, ?_, ?_⟩
  · exact ⟨ev, hext.os, hext.tape, hext.output, hext.size, fun b hb => hext.below b (Nat.lt_of_lt_of_le hb hi.hbase), fun b hb => .inl hb⟩
  · refine ⟨fun b hb => Nat.lt_of_lt_of_le (hi.hF b hb) hext.size, Nat.le_trans hi.hbase hext.size, hi.hM, fun id ver cells hl => ?_, hi.inj⟩
    obtain ⟨e, he, hv, hh⟩ := hi.live id ver cells hl
    exact ⟨e, he, hv, hh.ev ev (fun b hb _ hn hc => hn hc) (fun b hb => hext.below b (hh.lt hb))⟩
theorem qcall_of {P : Program} {f : FuncId} {args : List AV} {r : AV} {H' : AH} {nx' : Nat} (hp : pureL args = true) (h : CallC P f args noH 0 r H' nx') (d : Nat) : QCall P f args (snapA d H' r) := by
  refine qcall_ofQ hp d ⟨h.toQ.1, fun base κ vs hi hr => (h.toQ.2 base κ vs hi hr).mono ?_⟩
  rintro e W' ⟨r1, H1, nx1, ⟨rfl, rfl, rfl⟩, h3⟩
  exact ⟨_, _, _, rfl, h3⟩

mutual
theorem mapRef_id (g : AV → AV) : ∀ a, pureA a = true → mapRef g a = a
  | .sl n t cs, h => by simp only [mapRef, mapRefL_id g cs (by simpa [pureA] using h)]
  | .ro cs, h => by simp only [mapRef, mapRefL_id g cs (by simpa [pureA] using h)]
  | .agg cs, h => by simp only [mapRef, mapRefL_id g cs (by simpa [pureA] using h)]
  | .tup cs, h => by simp only [mapRef, mapRefL_id g cs (by simpa [pureA] using h)]
  | .fn f cs, h => by simp only [mapRef, mapRefL_id g cs (by simpa [pureA] using h)]
  | .ptr id ver off, h => by simp [pureA] at h
  | .msl id ver sz off n, h => by simp [pureA] at h
  | .int k n, _ => rfl
  | .bool b, _ => rfl
  | .str s, _ => rfl
  | .nilp, _ => rfl
  | .junk, _ => rfl
  | .unk, _ => rfl
theorem mapRefL_id (g : AV → AV) : ∀ l, pureL l = true → mapRefL g l = l
  | [], _ => rfl
  | a :: l, h => by
    simp only [pureL, Bool.and_eq_true] at h
    simp only [mapRefL, mapRef_id g a h.1, mapRefL_id g l h.2]
end
theorem snapA_id (d : Nat) (H : AH) (a : AV) (h : pureA a = true) : snapA d H a = a := by
  cases d <;> exact mapRef_id _ a h
/-- The plainest case: a pure answer. -/
theorem qcall_pure {P : Program} {f : FuncId} {args : List AV} {r : AV} {H' : AH} {nx' : Nat} (hp : pureL args = true) (hr : pureA r = true) (h : CallC P f args noH 0 r H' nx') : QCall P f args r := by
  have := qcall_of hp h 0
  rwa [snapA_id 0 H' r hr] at this
theorem ACall.of {P : Program} {f : FuncId} {args : List AV} {H : AH} {nx : Nat} {r : AV} {H' : AH} {nx' : Nat} {K : AV → AH → Nat → Prop} (h : CallC P f args H nx r H' nx') (k : K r H' nx') : ACall P f args H nx K := ACallD.toA ⟨r, H', nx', h, k⟩
theorem ACall.q {P : Program} {f : FuncId} {args : List AV} {H : AH} {nx : Nat} {r : AV} {K : AV → AH → Nat → Prop} (h : QCall P f args r) (k : K r H nx) : ACall P f args H nx K := ACallD.toA ⟨r, H, nx, h H nx, k⟩
end Go.TH

/-
  TH, part 19: how the walk is reckoned: rules for simp.
-/
set_option linter.unusedVariables false
set_option linter.unusedSimpArgs false
namespace Go.TH
open Go
universe u

/-- What hangs on a term: simp leaves the term alone. -/
inductive Box {α : Sort u} (x : α) : Type where
  | mk : Box x
def IfB (b : Bool) (A B : Prop) (_ : Box A) (_ : Box B) : Prop := AIf b A B
def bindB {α : Type} (x : Option (Prop × α)) (k : α → Prop) (_ : Box k) : Prop := bindP x k
structure CallB (P : Program) (f : FuncId) (args : List AV) (H : AH) (nx : Nat) (K : AV → AH → Nat → Prop) (_ : Box K) : Prop where
  out : ACallD P f args H nx K
def LoopB (body : (AEx → ASt → Prop) → ASt → Prop) (Q : AEx → ASt → Prop) (s : ASt) (_ : Box body) (_ : Box Q) : Prop := ALoop body Q s
def DrawB (P : Program) (ops : List Oper) (K : ASt → Prop) (s : ASt) (_ : Box ops) (_ : Box K) : Prop := ADraw P ops K s
def CondB (a : AV) (A B : Prop) (_ : Box A) (_ : Box B) : Prop := ACond a A B
section
variable {P : Program} {Q : AEx → ASt → Prop} {s s' : ASt}
@[congr] theorem awp_congr {c : Code} (h : s = s') : awp P c Q s = awp P c Q s' := by rw [h]
@[congr] theorem aops_congr {ops l : List Oper} {K : ASt → Prop} (h : s = s') : aops P ops K l s = aops P ops K l s' := by rw [h]
@[congr] theorem dops_congr {ops l : List Oper} {effs frees : List Nat} {S : Nat → Bool} {K : ASt → Prop} {i : Nat} (h : s = s') : dops P ops effs frees S K i l s = dops P ops effs frees S K i l s' := by rw [h]
@[congr] theorem aop_congr {d : Option Tmp} {op : Op} {K : ASt → Prop} (h : s = s') : aop P d op s K = aop P d op s' K := by rw [h]
@[congr] theorem dop_congr {e : Bool} {S : Nat → Bool} {d : Option Tmp} {op : Op} {K : ASt → Prop} (h : s = s') : dop P e S d op s K = dop P e S d op s' K := by rw [h]
@[congr] theorem thenQ_congr {n : ASt → Prop} {e : AEx} (h : s = s') : thenQ n Q e s = thenQ n Q e s' := by rw [h]
@[congr] theorem blockQ_congr {id : Nat} {e : AEx} (h : s = s') : blockQ id Q e s = blockQ id Q e s' := by rw [h]

@[go_sem] theorem awp_skip : awp P .skip Q s = Q .normal s := rfl
@[go_sem] theorem awp_region {id : Nat} {ops : List Oper} : awp P (.region id ops.toArray false) Q s = aops P ops (Q .normal) ops s := by simp [awp]
@[go_sem] theorem awp_region_draw {id : Nat} {ops : List Oper} : awp P (.region id ops.toArray true) Q s = DrawB P ops (Q .normal) s .mk .mk := by simp [awp, DrawB]
@[go_sem] theorem awp_seq {a b : Code} : awp P (.seq a b) Q s = awp P a (thenQ (awp P b Q) Q) s := rfl
@[go_sem] theorem awp_cond {c : Operand} {a b : Code} : awp P (.cond c a b) Q s = CondB (evA s.tmps c) (awp P a Q s) (awp P b Q s) .mk .mk := rfl
@[go_sem] theorem awp_block {id : Nat} {b : Code} : awp P (.block id b) Q s = awp P b (blockQ id Q) s := rfl
@[go_sem] theorem awp_loop {b : Code} : awp P (.loop b) Q s = LoopB (awp P b) Q s .mk .mk := rfl
@[go_sem] theorem awp_exit {id : Nat} : awp P (.exit id) Q s = Q (.exit id) s := rfl
@[go_sem] theorem awp_ret : awp P .ret Q s = Q .ret s := rfl
@[go_sem] theorem thenQ_normal {n : ASt → Prop} : thenQ n Q .normal s = n s := rfl
@[go_sem] theorem thenQ_exit {n : ASt → Prop} {id : Nat} : thenQ n Q (.exit id) s = Q (.exit id) s := rfl
@[go_sem] theorem thenQ_ret {n : ASt → Prop} : thenQ n Q .ret s = Q .ret s := rfl
@[go_sem] theorem blockQ_normal {id : Nat} : blockQ id Q .normal s = Q .normal s := rfl
@[go_sem] theorem blockQ_same {id : Nat} : blockQ id Q (.exit id) s = Q .normal s := by simp [blockQ]
@[go_sem] theorem blockQ_other {id i : Nat} (h : (i == id) = false) : blockQ id Q (.exit i) s = Q (.exit i) s := by simp at h; simp [blockQ, h]
@[go_sem] theorem blockQ_ret {id : Nat} : blockQ id Q .ret s = Q .ret s := rfl
@[go_sem] theorem IfB_true {A B : Prop} {w : Box A} {w2 : Box B} : IfB true A B w w2 = A := by simp [IfB, AIf]
@[go_sem] theorem IfB_false {A B : Prop} {w : Box A} {w2 : Box B} : IfB false A B w w2 = B := by simp [IfB, AIf]
@[go_sem] theorem IfB_not {b : Bool} {A B : Prop} {w : Box A} {w2 : Box B} : IfB (!b) A B w w2 = IfB b B A .mk .mk := by cases b <;> simp [IfB, AIf]
@[go_sem] theorem CondB_bool {b : Bool} {A B : Prop} {w : Box A} {w2 : Box B} : CondB (.bool b) A B w w2 = IfB b A B .mk .mk := rfl
theorem IfB.split {b : Bool} {A B : Prop} {w : Box A} {w2 : Box B} (h1 : b = true → A) (h2 : b = false → B) : IfB b A B w w2 := by
  cases b
  · simpa [IfB, AIf] using h2 rfl
  · simpa [IfB, AIf] using h1 rfl
def AndB (p A : Prop) (_ : Box A) : Prop := p ∧ A
@[congr] theorem AndB_congr {p q A : Prop} {w : Box A} (h : p = q) : AndB p A w = AndB q A w := by rw [h]
@[congr] theorem IfB_congr {b c : Bool} {A B : Prop} {w : Box A} {w2 : Box B} (h : b = c) : IfB b A B w w2 = IfB c A B w w2 := by rw [h]
@[congr] theorem CondB_congr {b c : AV} {A B : Prop} {w : Box A} {w2 : Box B} (h : b = c) : CondB b A B w w2 = CondB c A B w w2 := by rw [h]
@[congr] theorem bindB_congr {α : Type} {x y : Option (Prop × α)} {k : α → Prop} {w : Box k} (h : x = y) : bindB x k w = bindB y k w := by rw [h]
@[congr] theorem CallB_congr {f : FuncId} {args args' : List AV} {H H' : AH} {nx nx' : Nat} {K : AV → AH → Nat → Prop} {w : Box K} (h1 : args = args') (h2 : H = H') (h3 : nx = nx') : CallB P f args H nx K w = CallB P f args' H' nx' K w := by rw [h1, h2, h3]
@[congr] theorem LoopB_congr {body : (AEx → ASt → Prop) → ASt → Prop} {w : Box body} {w2 : Box Q} (h : s = s') : LoopB body Q s w w2 = LoopB body Q s' w w2 := by rw [h]
@[congr] theorem DrawB_congr {ops : List Oper} {K : ASt → Prop} {w : Box ops} {w2 : Box K} (h : s = s') : DrawB P ops K s w w2 = DrawB P ops K s' w w2 := by rw [h]
@[go_sem] theorem AndB_true {A : Prop} {w : Box A} : AndB True A w = A := by simp [AndB]
theorem AndB.mk {p A : Prop} {w : Box A} (h : p) (h2 : A) : AndB p A w := ⟨h, h2⟩
@[go_sem] theorem bindB_some {α : Type} {p : Prop} {a : α} {k : α → Prop} {w : Box k} : bindB (some (p, a)) k w = AndB p (k a) .mk := rfl
theorem bindB_true {α : Type} {a : α} {k : α → Prop} {w : Box k} : bindB (some (True, a)) k w = k a := by simp [bindB, bindP]

section
variable {K : ASt → Prop} {ops r : List Oper} {d : Option Tmp} {op : Op} {t : TypeId} {p : String} {a : Array Edge}
@[go_sem] theorem aops_nil : aops P ops K [] s = K s := rfl
@[go_sem] theorem aops_cons : aops P ops K (⟨d, op, t, p, a, none⟩ :: r) s = aop P d op s (aops P ops K r) := rfl
/-- Which slot tells whether an operation is wanted. -/
def gslot (ops : List Oper) (j : Nat) : Option Tmp := (ops[j]?).bind (·.dst)
def guardT (tmps : List AV) (d : Option Tmp) (want : Bool) : Option Bool :=
  match d.bind (tmps[·]?) with
  | some (.bool b) => some (b == want)
  | some (.tup _) => some false
  | none => some false
  | _ => none
def AGuard (x : Option Bool) (A B : Prop) (_ : Box A) (_ : Box B) : Prop :=
  match x with
  | some b => AIf b A B
  | none => False
theorem guardA_eq (ops : List Oper) (tmps : List AV) (j : Nat) (want : Bool) : guardA ops tmps j want = guardT tmps (gslot ops j) want := rfl
@[congr] theorem AGuard_congr {b c : Option Bool} {A B : Prop} {w : Box A} {w2 : Box B} (h : b = c) : AGuard b A B w w2 = AGuard c A B w w2 := by rw [h]
@[go_sem] theorem AGuard_some {b : Bool} {A B : Prop} {w : Box A} {w2 : Box B} : AGuard (some b) A B w w2 = IfB b A B .mk .mk := rfl
@[go_sem] theorem aops_guard {j : Nat} {want : Bool} : aops P ops K (⟨d, op, t, p, a, some (j, want)⟩ :: r) s =
    AGuard (guardT s.tmps (gslot ops j) want) (aop P d op s (aops P ops K r)) (aops P ops K r ⟨putA s.tmps d (.tup []), s.H, s.nx⟩) .mk .mk := rfl
variable {effs frees : List Nat} {S : Nat → Bool} {i : Nat}
@[go_sem] theorem dops_nil : dops P ops effs frees S K i [] s = K s := rfl
@[go_sem] theorem dops_cons : dops P ops effs frees S K i (⟨d, op, t, p, a, none⟩ :: r) s = dop P (effs.contains i) (SF frees S i) d op s (dops P ops effs frees S K (i + 1) r) := rfl
@[go_sem] theorem dops_guard {j : Nat} {want : Bool} : dops P ops effs frees S K i (⟨d, op, t, p, a, some (j, want)⟩ :: r) s =
    AGuard (guardT s.tmps (gslot ops j) want) (dop P (effs.contains i) (SF frees S i) d op s (dops P ops effs frees S K (i + 1) r)) (dops P ops effs frees S K (i + 1) r ⟨putA s.tmps d (.tup []), s.H, s.nx⟩) .mk .mk := rfl

/-- The call of a function's value. -/
def ACallV (P : Program) (f : AV) (args : List AV) (s : ASt) (K : AV → AH → Nat → Prop) (_ : Box K) : Prop :=
  match f with
  | .fn g cap => CallB P g (args ++ cap) s.H s.nx K .mk
  | _ => False
@[congr] theorem ACallV_congr {f g : AV} {args args' : List AV} {s s' : ASt} {K : AV → AH → Nat → Prop} {w : Box K} (h1 : f = g) (h2 : args = args') (h3 : s = s') : ACallV P f args s K w = ACallV P g args' s' K w := by rw [h1, h2, h3]
@[go_sem] theorem ACallV_fn {g : FuncId} {cap args : List AV} {K : AV → AH → Nat → Prop} {w : Box K} : ACallV P (.fn g cap) args s K w = CallB P g (args ++ cap) s.H s.nx K .mk := rfl
def CK (s : ASt) (d : Option Tmp) (K : ASt → Prop) (r : AV) (H : AH) (n : Nat) : Prop := K ⟨putA s.tmps d r, H, n⟩
@[go_sem] theorem CK_eq {r : AV} {H : AH} {n : Nat} : CK s d K r H n = K ⟨putA s.tmps d r, H, n⟩ := rfl
@[go_sem] theorem aop_call {f : Operand} {args : List Operand} {tys : Array TypeId} : aop P d (.call ⟨.value f, args.toArray, tys⟩) s K =
    ACallV P (evA s.tmps f) (args.map (evA s.tmps)) s (CK s d K) .mk := by
  unfold aop ACallV CK
  simp only [callV]
  cases evA s.tmps f <;> first | rfl | exact propext ⟨fun h => ⟨by simpa using h⟩, fun h => by simpa using h.out⟩
theorem CallB.of {f : FuncId} {args : List AV} {H : AH} {nx : Nat} {r : AV} {H' : AH} {nx' : Nat} {K : AV → AH → Nat → Prop} {w : Box K} (h : CallC P f args H nx r H' nx') (k : K r H' nx') : CallB P f args H nx K w := ⟨⟨_, _, _, h, k⟩⟩
theorem CallB.q {f : FuncId} {args : List AV} {H : AH} {nx : Nat} {r : AV} {K : AV → AH → Nat → Prop} {w : Box K} (h : QCall P f args r) (k : K r H nx) : CallB P f args H nx K w := ⟨⟨_, _, _, h H nx, k⟩⟩
theorem CallB.borrow (d : Nat) {f : FuncId} {args : List AV} {H : AH} {nx : Nat} {r : AV} {K : AV → AH → Nat → Prop} {w : Box K} (h : QCall P f (args.map (snapA d H)) r) (hs : scalA r = true) (k : K r H nx) : CallB P f args H nx K w := ⟨⟨_, _, _, callC_borrow d h hs, k⟩⟩
/-- By a law. -/
theorem CallB.law {f : FuncId} {args : List AV} {H : AH} {nx : Nat} {Q K : AV → AH → Nat → Prop} {w : Box K} (h : ACallD P f args H nx Q) (k : ∀ r H' nx', Q r H' nx' → K r H' nx') : CallB P f args H nx K w := ⟨h.mono k⟩

/-! ### The operations, one by one -/
def QK (s : ASt) (d : Option Tmp) (K : ASt → Prop) (r : AV) : Prop := K ⟨putA s.tmps d r, s.H, s.nx⟩
@[go_sem] theorem QK_eq {r : AV} : QK s d K r = K ⟨putA s.tmps d r, s.H, s.nx⟩ := rfl
def HK (s : ASt) (d : Option Tmp) (K : ASt → Prop) (x : AV × AH × Nat) : Prop := K ⟨putA s.tmps d x.1, x.2.1, x.2.2⟩
@[go_sem] theorem HK_eq {r : AV} {H : AH} {n : Nat} : HK s d K (r, H, n) = K ⟨putA s.tmps d r, H, n⟩ := rfl
@[congr] theorem QK_congr {r r' : AV} (h : r = r') : QK s d K r = QK s d K r' := by rw [h]
@[congr] theorem HK_congr {x y : AV × AH × Nat} (h : x = y) : HK s d K x = HK s d K y := by rw [h]

theorem aop_q {op : Op} (hc : callV op = none) (hh : hstep P (evA s.tmps) s.H s.nx op = none) : aop P d op s K = bindP (qstep P (evA s.tmps) s.H op) (QK s d K) := by
  unfold aop astep
  rw [hc]
  simp only
  cases qstep P (evA s.tmps) s.H op with
  | none => simp only [hh]; rfl
  | some x => obtain ⟨p, r⟩ := x; rfl
theorem aop_h {op : Op} (hc : callV op = none) (hq : qstep P (evA s.tmps) s.H op = none) : aop P d op s K = bindP (hstep P (evA s.tmps) s.H s.nx op) (HK s d K) := by
  unfold aop astep
  rw [hc]
  simp only [hq]
  rfl
theorem dop_q {op : Op} (hc : callV op = none) : dop P false S d op s K = bindP (dstep P (evA s.tmps) (maskH S s.H) op) (QK s d K) := by
  unfold dop
  simp only [Bool.false_eq_true, if_false, hc]
  rfl
/-- A quiet operation, in a region that draws or not. -/
def qfs (P : Program) (f : Option (Prop × AV)) (op : Op) (E : Operand → AV) (H : AH) : Prop := True

@[go_sem] theorem aop_move {x : Operand} : aop P d (.move x) s K = K ⟨putA s.tmps d (evA s.tmps x), s.H, s.nx⟩ := by rw [aop_q rfl rfl]; simp [qstep, bindP, QK]
@[go_sem] theorem aop_assign {x : Operand} : aop P d (.assign x) s K = K ⟨putA s.tmps d (evA s.tmps x), s.H, s.nx⟩ := by rw [aop_q rfl rfl]; simp [qstep, bindP, QK]

def pickE (c a b : AV) : Option (Prop × AV) := match c with | .bool q => some (True, if q then a else b) | _ => none
@[go_sem] theorem pickE_true {a b : AV} : pickE (.bool true) a b = some (True, a) := rfl
@[go_sem] theorem pickE_false {a b : AV} : pickE (.bool false) a b = some (True, b) := rfl
def buildE (H : AH) (z : Option (List AV)) (pl : Option (List (Nat × Nat))) (parts : List (Nat × AV)) : Option (Prop × AV) :=
  match z, pl with
  | some z, some pl => (fillA H pl z parts).map fun cs => (True, .agg cs)
  | _, _ => none
@[go_sem] theorem buildE_some {H : AH} {z : List AV} {pl : List (Nat × Nat)} {parts : List (Nat × AV)} : buildE H (some z) (some pl) parts = (fillA H pl z parts).map fun cs => (True, .agg cs) := rfl
def onLive (b : ABlk) (f : Nat → List AV → Option (Prop × AV)) : Option (Prop × AV) := match b with | .live v cells => f v cells | .dead => none
@[go_sem] theorem onLive_live {v : Nat} {cells : List AV} {f : Nat → List AV → Option (Prop × AV)} : onLive (.live v cells) f = f v cells := rfl
@[congr] theorem onLive_congr {b c : ABlk} {f : Nat → List AV → Option (Prop × AV)} (h : b = c) : onLive b f = onLive c f := by rw [h]
def loadE (s : Option (Bool × Nat)) (H : AH) (x : AV) : Option (Prop × AV) :=
  match s with
  | none => none
  | some s => match x with
    | .ro cells => some (loadA cells 0 s)
    | .ptr id ver off => onLive (H id) fun v cells => some (v = ver ∧ (loadA cells off s).1, (loadA cells off s).2)
    | _ => none
@[go_sem] theorem loadE_ro {s : Bool × Nat} {H : AH} {cells : List AV} : loadE (some s) H (.ro cells) = some (loadA cells 0 s) := rfl
@[go_sem] theorem loadE_ptr {s : Bool × Nat} {H : AH} {id ver off : Nat} : loadE (some s) H (.ptr id ver off) = onLive (H id) fun v cells => some (v = ver ∧ (loadA cells off s).1, (loadA cells off s).2) := rfl
def nilE (H : AH) (x : AV) : Option (Prop × AV) :=
  match x with
  | .ro cells => some (True, .ro cells)
  | .ptr id ver off => onLive (H id) fun v _ => some (v = ver, .ptr id ver off)
  | _ => none
@[go_sem] theorem nilE_ro {H : AH} {cells : List AV} : nilE H (.ro cells) = some (True, .ro cells) := rfl
@[go_sem] theorem nilE_ptr {H : AH} {id ver off : Nat} : nilE H (.ptr id ver off) = onLive (H id) fun v _ => some (v = ver, .ptr id ver off) := rfl
def fldE (f : Option (Nat × Nat × Bool)) (H : AH) (x : AV) : Option (Prop × AV) :=
  match f with
  | none => none
  | some f => match x with
    | .ro cells => some (True, .ro (cells.drop f.1))
    | .ptr id ver o => onLive (H id) fun v _ => some (v = ver, .ptr id ver (o + f.1))
    | _ => none
@[go_sem] theorem fldE_ro {f : Nat × Nat × Bool} {H : AH} {cells : List AV} : fldE (some f) H (.ro cells) = some (True, .ro (cells.drop f.1)) := rfl
@[go_sem] theorem fldE_ptr {f : Nat × Nat × Bool} {H : AH} {id ver o : Nat} : fldE (some f) H (.ptr id ver o) = onLive (H id) fun v _ => some (v = ver, .ptr id ver (o + f.1)) := rfl
def fieldE (f : Option (Nat × Nat × Bool)) (x : AV) : Option (Prop × AV) :=
  match f with
  | none => none
  | some f => match x with
    | .agg cells => some (loadA cells f.1 (f.2.2, f.2.1))
    | _ => none
@[go_sem] theorem fieldE_agg {f : Nat × Nat × Bool} {cells : List AV} : fieldE (some f) (.agg cells) = some (loadA cells f.1 (f.2.2, f.2.1)) := rfl
def idxE (e : Option (TypeId × Nat × Nat)) (H : AH) (x i : AV) : Option (Prop × AV) :=
  match e with
  | none => none
  | some e => match i with
    | .int _ k => (match x with
      | .sl n _ cells => some (0 ≤ k ∧ k < n ∧ k.toNat * e.2.1 < cells.length, .ro (cells.drop (k.toNat * e.2.1)))
      | .msl id ver sz' off n => onLive (H id) fun v _ => some (v = ver ∧ sz' = e.2.1 ∧ 0 ≤ k ∧ k < n, .ptr id ver (off + k.toNat * e.2.1))
      | _ => none)
    | _ => none
@[go_sem] theorem idxE_sl {e : TypeId × Nat × Nat} {H : AH} {n : Nat} {t : Bool} {cells : List AV} {q : IntKind} {k : Int} : idxE (some e) H (.sl n t cells) (.int q k) = some (0 ≤ k ∧ k < n ∧ k.toNat * e.2.1 < cells.length, .ro (cells.drop (k.toNat * e.2.1))) := rfl
@[go_sem] theorem idxE_msl {e : TypeId × Nat × Nat} {H : AH} {id ver sz' off n : Nat} {q : IntKind} {k : Int} : idxE (some e) H (.msl id ver sz' off n) (.int q k) = onLive (H id) fun v _ => some (v = ver ∧ sz' = e.2.1 ∧ 0 ≤ k ∧ k < n, .ptr id ver (off + k.toNat * e.2.1)) := rfl
def indexE (P : Program) (t : TypeId) (x i : AV) : Option (Prop × AV) :=
  match x, i with
  | .str s, .int _ k => if tyStr P t then some (0 ≤ k ∧ k < s.size, .int .u8 ((s.data.toList.getD k.toNat 0).toNat)) else none
  | _, _ => none
@[go_sem] theorem indexE_str {t : TypeId} {b : ByteArray} {q : IntKind} {k : Int} : indexE P t (.str b) (.int q k) = if tyStr P t then some (0 ≤ k ∧ k < b.size, .int .u8 ((b.data.toList.getD k.toNat 0).toNat)) else none := rfl
def extE (x : AV) (j : Nat) : Option (Prop × AV) := match x with | .tup as => some (j < as.length, as.getD j .junk) | _ => none
@[go_sem] theorem extE_tup {as : List AV} {j : Nat} : extE (.tup as) j = some (j < as.length, as.getD j .junk) := rfl
def convE (P : Program) (src dst : TypeId) (H : AH) (x : AV) : Option (Prop × AV) :=
  match x with
  | .int _ n => (match tyInt P dst with | some k => if (P.underlying src).isSome then some (True, .int k (k.wrap n)) else none | none => none)
  | .str s => if tyStr P dst ∧ (P.underlying src).isSome then some (True, .str s) else none
  | a => (match tySl P src with
      | some (e, _, _) => if tyInt P e = some .u8 ∧ tyStr P dst = true then (match rdSl H a with
          | some (n, cells) => some (n ≤ cells.length ∧ (cells.take n).all isU8 = true, .str (bytesA (cells.take n)))
          | none => none) else none
      | none => none)
def slcE (P : Program) (t : TypeId) (H : AH) (x : AV) (l h m : Option AV) : Option (Prop × AV) :=
  match optInt l, optInt h, optInt m with
  | some l, some h, some m => (match x with
      | .str s => if tyStr P t ∧ m = none then sliceS s l h else none
      | a => (match tySl P t with | some (_, sz, _) => sliceA H sz a l h m | none => none))
  | _, _, _ => none
def mkfE (f : FuncId) (first : List Operand) (cap : List AV) : Option (Prop × AV) := if first.length = 0 then some (True, .fn f cap) else none
@[go_sem] theorem mkfE_nil {f : FuncId} {cap : List AV} : mkfE f [] cap = some (True, .fn f cap) := rfl

section
variable {x y c b : Operand} {j : Nat}
theorem q_pickE {E : Operand → AV} {H : AH} {a : Operand} : qstep P E H (.pick c a b) = pickE (E c) (E a) (E b) := rfl
theorem q_buildE {E : Operand → AV} {H : AH} {parts : List (Nat × Operand)} : qstep P E H (.build t parts.toArray) = buildE H (tyZ P t) (tyFs P t) (parts.map fun x => (x.1, E x.2)) := by
  simp only [qstep, buildE]
  cases tyZ P t <;> cases tyFs P t <;> rfl
theorem q_loadE {E : Operand → AV} {H : AH} : qstep P E H (.load t x) = loadE (tyAS P t) H (E x) := by
  simp only [qstep, loadE]
  cases tyAS P t with
  | none => rfl
  | some s => cases E x <;> first | rfl | (simp only [onLive]; split <;> rfl)
theorem q_nilE {E : Operand → AV} {H : AH} : qstep P E H (.nilCheck x) = nilE H (E x) := by
  simp only [qstep, nilE]
  cases E x <;> first | rfl | (simp only [onLive]; split <;> rfl)
theorem q_binE {E : Operand → AV} {H : AH} {op : BinOp} {t2 : TypeId} : qstep P E H (.binOp op t x y t2) = binB P H op t (isNilC y) (E x) (E y) := rfl
theorem q_unE {E : Operand → AV} {H : AH} {op : UnOp} : qstep P E H (.unOp op t x) = unA op (E x) := rfl
theorem q_convE {E : Operand → AV} {H : AH} {src dst : TypeId} : qstep P E H (.convert src dst x) = convE P src dst H (E x) := by
  simp only [qstep, convE]
  cases E x <;> first | rfl | (split <;> rfl)
theorem q_mkfE {E : Operand → AV} {H : AH} {f : FuncId} {first cap : List Operand} : qstep P E H (.makeFunc (.func f) first.toArray cap.toArray) = mkfE f first (cap.map E) := by simp [qstep, mkfE]
theorem q_slcE {E : Operand → AV} {H : AH} {lo hi mx : Option Operand} : qstep P E H (.slice t x lo hi mx) = slcE P t H (E x) (lo.map E) (hi.map E) (mx.map E) := by
  simp only [qstep, slcE]
  cases optInt (lo.map E) <;> cases optInt (hi.map E) <;> cases optInt (mx.map E) <;> cases E x <;> first | rfl | (cases tySl P t <;> rfl)
theorem q_fldE {E : Operand → AV} {H : AH} : qstep P E H (.fieldAddr t x j) = fldE (tyFld P t j) H (E x) := by
  simp only [qstep, fldE]
  cases tyFld P t j with
  | none => rfl
  | some f => cases E x <;> first | rfl | (simp only [onLive]; split <;> rfl)
theorem q_fieldE {E : Operand → AV} {H : AH} : qstep P E H (.field t x j) = fieldE (tyFld P t j) (E x) := by
  simp only [qstep, fieldE]
  cases tyFld P t j with
  | none => rfl
  | some f => cases E x <;> rfl
theorem q_idxE {E : Operand → AV} {H : AH} : qstep P E H (.indexAddr t x y) = idxE (tySl P t) H (E x) (E y) := by
  simp only [qstep, idxE]
  cases tySl P t with
  | none => rfl
  | some f => cases E y <;> first | rfl | (cases E x <;> first | rfl | (simp only [onLive]; split <;> rfl))
theorem q_indexE {E : Operand → AV} {H : AH} : qstep P E H (.index t x y) = indexE P t (E x) (E y) := by
  simp only [qstep, indexE]
  cases E x <;> cases E y <;> rfl
theorem q_extE {E : Operand → AV} {H : AH} : qstep P E H (.extract x j) = extE (E x) j := rfl
theorem q_bltE {E : Operand → AV} {H : AH} {bi : Builtin} {args : List Operand} {tys : List TypeId} : qstep P E H (.call ⟨.builtin bi, args.toArray, tys.toArray⟩) = builtA P H bi tys (args.map E) := by simp [qstep]
end
end
end
end Go.TH

/-
  TH, part 20: the rules, operation by operation.
-/
set_option linter.unusedVariables false
set_option linter.unusedSimpArgs false
namespace Go.TH
open Go
section
variable {P : Program} {s : ASt} {K : ASt → Prop} {d : Option Tmp} {t : TypeId} {x y c b : Operand} {j : Nat} {S : Nat → Bool}

@[go_sem] theorem aop_pick {a : Operand} : aop P d (.pick c a b) s K = bindB (pickE (evA s.tmps c) (evA s.tmps a) (evA s.tmps b)) (QK s d K) .mk := by rw [aop_q rfl rfl, q_pickE]; rfl
@[go_sem] theorem aop_build {parts : List (Nat × Operand)} : aop P d (.build t parts.toArray) s K = bindB (buildE s.H (tyZ P t) (tyFs P t) (parts.map fun x => (x.1, evA s.tmps x.2))) (QK s d K) .mk := by rw [aop_q rfl rfl, q_buildE]; rfl
@[go_sem] theorem aop_load : aop P d (.load t x) s K = bindB (loadE (tyAS P t) s.H (evA s.tmps x)) (QK s d K) .mk := by rw [aop_q rfl rfl, q_loadE]; rfl
@[go_sem] theorem aop_nil : aop P d (.nilCheck x) s K = bindB (nilE s.H (evA s.tmps x)) (QK s d K) .mk := by rw [aop_q rfl rfl, q_nilE]; rfl
@[go_sem] theorem aop_bin {op : BinOp} {t2 : TypeId} : aop P d (.binOp op t x y t2) s K = bindB (binB P s.H op t (isNilC y) (evA s.tmps x) (evA s.tmps y)) (QK s d K) .mk := by rw [aop_q rfl rfl, q_binE]; rfl
@[go_sem] theorem aop_un {op : UnOp} : aop P d (.unOp op t x) s K = bindB (unA op (evA s.tmps x)) (QK s d K) .mk := by rw [aop_q rfl rfl, q_unE]; rfl
@[go_sem] theorem aop_mkf {f : FuncId} {first cap : List Operand} : aop P d (.makeFunc (.func f) first.toArray cap.toArray) s K = bindB (mkfE f first (cap.map (evA s.tmps))) (QK s d K) .mk := by rw [aop_q rfl rfl, q_mkfE]; rfl
@[go_sem] theorem aop_slc {lo hi mx : Option Operand} : aop P d (.slice t x lo hi mx) s K = bindB (slcE P t s.H (evA s.tmps x) (lo.map (evA s.tmps)) (hi.map (evA s.tmps)) (mx.map (evA s.tmps))) (QK s d K) .mk := by rw [aop_q rfl rfl, q_slcE]; rfl
@[go_sem] theorem aop_fld : aop P d (.fieldAddr t x j) s K = bindB (fldE (tyFld P t j) s.H (evA s.tmps x)) (QK s d K) .mk := by rw [aop_q rfl rfl, q_fldE]; rfl
@[go_sem] theorem aop_field : aop P d (.field t x j) s K = bindB (fieldE (tyFld P t j) (evA s.tmps x)) (QK s d K) .mk := by rw [aop_q rfl rfl, q_fieldE]; rfl
@[go_sem] theorem aop_idx : aop P d (.indexAddr t x y) s K = bindB (idxE (tySl P t) s.H (evA s.tmps x) (evA s.tmps y)) (QK s d K) .mk := by rw [aop_q rfl rfl, q_idxE]; rfl
@[go_sem] theorem aop_index : aop P d (.index t x y) s K = bindB (indexE P t (evA s.tmps x) (evA s.tmps y)) (QK s d K) .mk := by rw [aop_q rfl rfl, q_indexE]; rfl
@[go_sem] theorem aop_ext : aop P d (.extract x j) s K = bindB (extE (evA s.tmps x) j) (QK s d K) .mk := by rw [aop_q rfl rfl, q_extE]; rfl
theorem blt_h {E : Operand → AV} {H : AH} {nx : Nat} {bi : Builtin} {args : List Operand} {tys : List TypeId} (hb : bi = .len ∨ bi = .max ∨ bi = .min) : hstep P E H nx (.call ⟨.builtin bi, args.toArray, tys.toArray⟩) = none := by
  rcases hb with rfl | rfl | rfl <;> rfl
@[go_sem] theorem aop_len {args : List Operand} {tys : List TypeId} : aop P d (.call ⟨.builtin .len, args.toArray, tys.toArray⟩) s K = bindB (builtA P s.H .len tys (args.map (evA s.tmps))) (QK s d K) .mk := by rw [aop_q rfl (blt_h (.inl rfl)), q_bltE]; rfl
@[go_sem] theorem aop_max {args : List Operand} {tys : List TypeId} : aop P d (.call ⟨.builtin .max, args.toArray, tys.toArray⟩) s K = bindB (builtA P s.H .max tys (args.map (evA s.tmps))) (QK s d K) .mk := by rw [aop_q rfl (blt_h (.inr (.inl rfl))), q_bltE]; rfl
@[go_sem] theorem aop_min {args : List Operand} {tys : List TypeId} : aop P d (.call ⟨.builtin .min, args.toArray, tys.toArray⟩) s K = bindB (builtA P s.H .min tys (args.map (evA s.tmps))) (QK s d K) .mk := by rw [aop_q rfl (blt_h (.inr (.inr rfl))), q_bltE]; rfl
def convH (P : Program) (src dst : TypeId) (H : AH) (nx : Nat) (x : AV) : Option (Prop × AV × AH × Nat) :=
  match convE P src dst H x with
  | some (p, r) => some (p, r, H, nx)
  | none => (match x, tySl P dst with
      | .str s, some (e, _, _) => if tyInt P e = some .u8 ∧ (P.underlying src).isSome then some (s.size ≤ 140737488355328, .sl s.size false (bytesCells s), H, nx) else none
      | _, _ => none)
@[go_sem] theorem aop_conv {src dst : TypeId} : aop P d (.convert src dst x) s K = bindB (convH P src dst s.H s.nx (evA s.tmps x)) (HK s d K) .mk := by
  unfold aop astep
  simp only [callV, q_convE, convH, hstep]
  cases convE P src dst s.H (evA s.tmps x) with
  | none => simp only; cases evA s.tmps x <;> first | rfl | (cases tySl P dst <;> rfl)
  | some q => obtain ⟨p, r⟩ := q; rfl

def allocE (H : AH) (nx : Nat) (z : Option (List AV)) : Option (Prop × AV × AH × Nat) := z.map fun cs => (True, .ptr nx 0 0, upd H nx (.live 0 cs), nx + 1)
@[go_sem] theorem allocE_some {H : AH} {nx : Nat} {z : List AV} : allocE H nx (some z) = some (True, .ptr nx 0 0, upd H nx (.live 0 z), nx + 1) := rfl
@[go_sem] theorem aop_alloc : aop P d (.alloc t) s K = bindB (allocE s.H s.nx (tyZ P t)) (HK s d K) .mk := by
  rw [aop_h rfl rfl]
  simp only [hstep, allocE]
  cases tyZ P t <;> rfl
@[go_sem] theorem aop_mkmap : aop P d (.makeMap t none) s K = K ⟨putA s.tmps d .junk, s.H, s.nx⟩ := by
  rw [aop_h rfl rfl]
  simp [hstep, bindP, HK]
@[go_sem] theorem aop_box : aop P d (.box t x) s K = bindB (allocE s.H s.nx (cellsA s.H (evA s.tmps x))) (HK s d K) .mk := by
  rw [aop_h rfl rfl]
  simp only [hstep, allocE]
  cases cellsA s.H (evA s.tmps x) <;> rfl
def bslE (P : Program) (H : AH) (nx : Nat) (e : Option (TypeId × Nat × Nat)) (len : Nat) (parts : List (Nat × AV)) : Option (Prop × AV × AH × Nat) :=
  match e with
  | none => none
  | some e => match tyZ P e.1 with
    | none => none
    | some z => if z.length = e.2.1 ∧ len * e.2.1 ≤ 16777216 then (fillB H e.2.1 (List.replicate len z).flatten parts).map fun cs => (True, .msl nx 0 e.2.1 0 len, upd H nx (.live 0 cs), nx + 1) else none
@[go_sem] theorem aop_bsl {len : Nat} {parts : List (Nat × Operand)} : aop P d (.buildSlice t len parts.toArray) s K = bindB (bslE P s.H s.nx (tySl P t) len (parts.map fun x => (x.1, evA s.tmps x.2))) (HK s d K) .mk := by
  rw [aop_h rfl rfl]
  simp only [hstep, bslE]
  cases tySl P t with
  | none => rfl
  | some e =>
    obtain ⟨e, sz, by'⟩ := e
    simp only
    cases tyZ P e <;> rfl
def storeE (H : AH) (nx : Nat) (ty : Option (Bool × Nat)) (x : AV) (cs : Option (List AV)) : Option (Prop × AV × AH × Nat) :=
  match ty, x, cs with
  | some (_, n), .ptr id ver off, some cs => (match H id with
      | .live v cells => some (v = ver ∧ cs.length = n ∧ off + n ≤ cells.length, .tup [], upd H id (.live v (cells.take off ++ cs ++ cells.drop (off + n))), nx)
      | .dead => none)
  | _, _, _ => none
@[go_sem] theorem aop_store : aop P d (.store t x y) s K = bindB (storeE s.H s.nx (tyAS P t) (evA s.tmps x) (cellsA s.H (evA s.tmps y))) (HK s d K) .mk := by
  rw [aop_h rfl rfl]
  simp only [hstep, storeE]
  cases tyAS P t with
  | none => rfl
  | some q =>
    obtain ⟨g, n⟩ := q
    cases evA s.tmps x with
    | ptr id ver off =>
      cases hl : s.H id with
      | dead => cases cellsA s.H (evA s.tmps y) <;> simp only [hl] <;> rfl
      | live v cells => cases cellsA s.H (evA s.tmps y) <;> simp only [hl] <;> rfl
    | _ => rfl
def mkslE (P : Program) (H : AH) (nx : Nat) (e : Option (TypeId × Nat × Nat)) (l c : AV) : Option (Prop × AV × AH × Nat) :=
  match e, l, c with
  | some e, .int _ l, .int _ c => (match tyZ P e.1 with
      | some z => if z.length = e.2.1 then some (0 ≤ l ∧ l ≤ c ∧ c.toNat * e.2.2 ≤ 140737488355328 ∧ c ≤ 140737488355328, .msl nx 0 e.2.1 0 l.toNat, upd H nx (.live 0 (List.replicate l.toNat z).flatten), nx + 1) else none
      | none => none)
  | _, _, _ => none
@[go_sem] theorem aop_mksl : aop P d (.makeSlice t x y) s K = bindB (mkslE P s.H s.nx (tySl P t) (evA s.tmps x) (evA s.tmps y)) (HK s d K) .mk := by
  rw [aop_h rfl rfl]
  simp only [hstep, mkslE]
  cases tySl P t with
  | none => rfl
  | some e =>
    obtain ⟨e, sz, by'⟩ := e
    cases evA s.tmps x <;> cases evA s.tmps y <;> first | rfl | (simp only; cases tyZ P e <;> rfl)
def appE (P : Program) (H : AH) (nx : Nat) (tys : List TypeId) (args : List AV) : Option (Prop × AV × AH × Nat) := match tys, args with | [t, tx], [s, x] => appA P H nx t tx s x | _, _ => none
def copE (P : Program) (H : AH) (nx : Nat) (tys : List TypeId) (args : List AV) : Option (Prop × AV × AH × Nat) := match tys, args with | [t, tx], [s, x] => copA P H nx t tx s x | _, _ => none
@[go_sem] theorem appE_two {H : AH} {nx : Nat} {tx : TypeId} {a x : AV} : appE P H nx [t, tx] [a, x] = appA P H nx t tx a x := rfl
@[go_sem] theorem copE_two {H : AH} {nx : Nat} {tx : TypeId} {a x : AV} : copE P H nx [t, tx] [a, x] = copA P H nx t tx a x := rfl
@[go_sem] theorem aop_append {args : List Operand} {tys : List TypeId} : aop P d (.call ⟨.builtin .append, args.toArray, tys.toArray⟩) s K = bindB (appE P s.H s.nx tys (args.map (evA s.tmps))) (HK s d K) .mk := by
  rw [aop_h rfl (by simp [qstep, builtA])]
  congr 1
  simp only [hstep, appE]
  match tys, args.map (evA s.tmps) with
  | [], _ => rfl
  | [_], _ => rfl
  | [_, _], [] => rfl
  | [_, _], [_] => rfl
  | [_, _], [_, _] => rfl
  | [_, _], _ :: _ :: _ :: _ => rfl
  | _ :: _ :: _ :: _, _ => rfl
def clrE (P : Program) (H : AH) (nx : Nat) (tys : List TypeId) (args : List AV) : Option (Prop × AV × AH × Nat) := match tys, args with | [t], [x] => clrA P H nx t x | _, _ => none
@[go_sem] theorem clrE_one {H : AH} {nx : Nat} {a : AV} : clrE P H nx [t] [a] = clrA P H nx t a := rfl
@[go_sem] theorem aop_clear {args : List Operand} {tys : List TypeId} : aop P d (.call ⟨.builtin .clear, args.toArray, tys.toArray⟩) s K = bindB (clrE P s.H s.nx tys (args.map (evA s.tmps))) (HK s d K) .mk := by
  rw [aop_h rfl (by simp [qstep, builtA])]
  congr 1
  simp only [hstep, clrE]
  match tys, args.map (evA s.tmps) with
  | [], _ => rfl
  | [_], [] => rfl
  | [_], [_] => rfl
  | [_], _ :: _ :: _ => rfl
  | _ :: _ :: _, [] => rfl
  | _ :: _ :: _, [_] => rfl
  | [_, _], [_, _] => rfl
  | _ :: _ :: _ :: _, [_, _] => rfl
  | _ :: _ :: _, _ :: _ :: _ :: _ => rfl
@[go_sem] theorem aop_copy {args : List Operand} {tys : List TypeId} : aop P d (.call ⟨.builtin .copy, args.toArray, tys.toArray⟩) s K = bindB (copE P s.H s.nx tys (args.map (evA s.tmps))) (HK s d K) .mk := by
  rw [aop_h rfl (by simp [qstep, builtA])]
  congr 1
  simp only [hstep, copE]
  match tys, args.map (evA s.tmps) with
  | [], _ => rfl
  | [_], _ => rfl
  | [_, _], [] => rfl
  | [_, _], [_] => rfl
  | [_, _], [_, _] => rfl
  | [_, _], _ :: _ :: _ :: _ => rfl
  | _ :: _ :: _ :: _, _ => rfl

/-! ### Slots -/
def nthA : List AV → Nat → AV
  | [], _ => .junk
  | a :: _, 0 => a
  | _ :: l, n + 1 => nthA l n
theorem nthA_eq : ∀ (l : List AV) (n : Nat), l.getD n .junk = nthA l n
  | [], n => by simp [nthA]
  | a :: l, 0 => by simp [nthA]
  | a :: l, n + 1 => by simp [nthA, ← nthA_eq l n]
@[go_sem] theorem isNilC_tmp {n : Nat} : isNilC (.tmp n) = false := rfl
@[go_sem] theorem isNilC_int {k : IntKind} {n : Int} : isNilC (.const (.int k n)) = false := rfl
@[go_sem] theorem isNilC_bool {b : Bool} : isNilC (.const (.bool b)) = false := rfl
@[go_sem] theorem isNilC_str {b : ByteArray} : isNilC (.const (.string b)) = false := rfl
@[go_sem] theorem isNilC_agg {c : Array Value} : isNilC (.const (.agg c)) = false := rfl
@[go_sem] theorem isNilC_nil : isNilC (.const (.slice none 0 0)) = true := rfl
@[go_sem] theorem binB_no {P : Program} {H : AH} {op : BinOp} {t : TypeId} {x y : AV} : binB P H op t false x y = binA P op t x y := rfl
@[go_sem] theorem binB_yes {P : Program} {H : AH} {op : BinOp} {t : TypeId} {x y : AV} : binB P H op t true x y = if isEqN op = true ∧ (tySl P t).isSome = true then nilS H (isNeq op) x else none := rfl
@[go_sem] theorem nilS_sl {H : AH} {g : Bool} {n : Nat} {t : Bool} {cs : List AV} : nilS H g (.sl n t cs) = some (True, if 0 < cs.length then .bool g else .unk) := rfl
@[go_sem] theorem isNeq_eql : isNeq .eql = false := rfl
@[go_sem] theorem isNeq_neq : isNeq .neq = true := rfl
def nilL (b : ABlk) (ver n : Nat) (g : Bool) : Option (Prop × AV) := match b with | .live v _ => some (v = ver, if 0 < n then .bool g else .unk) | .dead => none
@[go_sem] theorem nilL_live {v ver n : Nat} {g : Bool} {cs : List AV} : nilL (.live v cs) ver n g = some (v = ver, if 0 < n then .bool g else .unk) := rfl
@[go_sem] theorem nilS_msl {H : AH} {g : Bool} {id ver sz off n : Nat} : nilS H g (.msl id ver sz off n) = nilL (H id) ver n g := rfl
@[go_sem] theorem isEqN_eql : isEqN .eql = true := rfl
@[go_sem] theorem isEqN_neq : isEqN .neq = true := rfl
@[go_sem] theorem nthA_zero {a : AV} {l : List AV} : nthA (a :: l) 0 = a := rfl
@[go_sem] theorem nthA_succ {a : AV} {l : List AV} {n : Nat} : nthA (a :: l) (n + 1) = nthA l n := rfl
@[go_sem] theorem evA_tmp {T : List AV} {n : Nat} : evA T (.tmp n) = nthA T n := nthA_eq T n
@[go_sem] theorem evA_func {T : List AV} {f : FuncId} : evA T (.func f) = .fn f [] := rfl
@[go_sem] theorem evA_int {T : List AV} {k : IntKind} {n : Int} : evA T (.const (.int k n)) = .int k n := rfl
@[go_sem] theorem evA_bool {T : List AV} {b : Bool} : evA T (.const (.bool b)) = .bool b := rfl
@[go_sem] theorem evA_str {T : List AV} {b : ByteArray} : evA T (.const (.string b)) = .str b := rfl
@[go_sem] theorem evA_nil {T : List AV} : evA T (.const (.slice none 0 0)) = .sl 0 true [] := rfl
@[go_sem] theorem evA_nilp {T : List AV} : evA T (.const (.pointer none)) = .nilp := rfl
@[go_sem] theorem evA_agg {T : List AV} {cs : List Value} : evA T (.const (.agg cs.toArray)) = if cs.all (·.oneCell') then .agg (cs.map cst1) else .junk := by simp [evA, cstA]
def setN : List AV → Nat → AV → List AV
  | [], _, _ => []
  | _ :: l, 0, a => a :: l
  | b :: l, n + 1, a => b :: setN l n a
theorem setN_eq : ∀ (l : List AV) (n : Nat) (a : AV), l.set n a = setN l n a
  | [], n, a => by simp [setN]
  | b :: l, 0, a => by simp [setN]
  | b :: l, n + 1, a => by simp [setN, ← setN_eq l n a]
@[go_sem] theorem setN_zero {a b : AV} {l : List AV} : setN (b :: l) 0 a = a :: l := rfl
@[go_sem] theorem setN_succ {a b : AV} {l : List AV} {n : Nat} : setN (b :: l) (n + 1) a = b :: setN l n a := rfl
@[go_sem] theorem putA_some {T : List AV} {n : Nat} {a : AV} : putA T (some n) a = setN T n a := setN_eq T n a
@[go_sem] theorem putA_none {T : List AV} {a : AV} : putA T none a = T := rfl
end
end Go.TH

/-
  TH, part 21: what simp is told.
-/
set_option linter.unusedVariables false
set_option linter.unusedSimpArgs false
namespace Go.TH
open Go

def initT : Nat → List AV → List AV
  | 0, _ => []
  | n + 1, [] => .tup [] :: initT n []
  | n + 1, a :: l => a :: initT n l
theorem initT_nil : ∀ n, initT n [] = List.replicate n (.tup [])
  | 0 => rfl
  | n + 1 => by simp [initT, initT_nil n, List.replicate_succ]
theorem initT_eq : ∀ (n : Nat) (args : List AV), args.length ≤ n → args ++ List.replicate (n - args.length) (.tup []) = initT n args
  | n, [], _ => by simp [initT_nil]
  | 0, a :: l, h => by simp at h
  | n + 1, a :: l, h => by
    have := initT_eq n l (by simpa using h)
    simp only [initT, List.cons_append, List.length_cons, Nat.add_sub_add_right, this]
/-- A BODY GIVES A CONTRACT. -/
theorem call_body {P : Program} (hm : P.follows .mixedOrders = true) {f : FuncId} {fn : Func} (hf : P.funcs[f]? = some fn) (c : Code) (hb : fn.body = some c) {n : Nat} (hn : fn.ntmps = n) {rs : List ResultVar} (hrs : fn.results = rs.toArray)
    (hname : (fn.name == "runtime.NumGoroutine") = false) {args : List AV} {H : AH} {nx : Nat} {r : AV} {H' : AH} {nx' : Nat} (hl : args.length ≤ n)
    (h : awp P c (bodyQ P rs fun r1 H1 nx1 => r1 = r ∧ H1 = H' ∧ nx1 = nx') ⟨initT n args, H, nx⟩) : CallC P f args H nx r H' nx' :=
  call_of_body hm hf hb hn hrs hname (by rw [initT_eq n args hl]; exact h)
/-- On pure arguments, in a heap of its own: what comes back is looked at as a picture, 'd' deep. -/
theorem qcall_body {P : Program} (hm : P.follows .mixedOrders = true) {f : FuncId} {fn : Func} (hf : P.funcs[f]? = some fn) (c : Code) (hb : fn.body = some c) {n : Nat} (hn : fn.ntmps = n) {rs : List ResultVar} (hrs : fn.results = rs.toArray)
    (hname : (fn.name == "runtime.NumGoroutine") = false) {args : List AV} {r : AV} (d : Nat) (hl : args.length ≤ n) (hp : pureL args = true)
    (h : awp P c (bodyQ P rs fun r1 H1 _ => snapA d H1 r1 = r) ⟨initT n args, noH, 0⟩) : QCall P f args r :=
  qcall_ofQ hp d (callQ_of_body hm hf hb hn hrs hname (by rw [initT_eq n args hl]; exact h))

@[go_sem] theorem initT_zero {l : List AV} : initT 0 l = [] := by cases l <;> rfl
@[go_sem] theorem initT_succ_nil {n : Nat} : initT (n + 1) [] = .tup [] :: initT n [] := rfl
@[go_sem] theorem initT_cons {n : Nat} {a : AV} {l : List AV} : initT (n + 1) (a :: l) = a :: initT n l := rfl
@[go_sem] theorem upd_get {H : AH} {i j : Nat} {b : ABlk} : upd H i b j = if j = i then b else H j := rfl
@[go_sem] theorem bodyQ_normal {P : Program} {rs : List ResultVar} {K : AV → AH → Nat → Prop} {s : ASt} : bodyQ P rs K .normal s = bodyQ P rs K .ret s := rfl
def RetK (l : Option (Prop × List AV)) (s : ASt) (K : AV → AH → Nat → Prop) : Prop := match l with | some l => l.1 ∧ K (packA l.2) s.H s.nx | none => False
@[go_sem] theorem bodyQ_ret {P : Program} {rs : List ResultVar} {K : AV → AH → Nat → Prop} {s : ASt} : bodyQ P rs K .ret s = RetK (resA P s.H s.tmps rs) s K := rfl
@[congr] theorem bodyQ_congr {P : Program} {rs : List ResultVar} {K : AV → AH → Nat → Prop} {e : AEx} {s s' : ASt} (h : s = s') : bodyQ P rs K e s = bodyQ P rs K e s' := by rw [h]
@[congr] theorem RetK_congr {l l' : Option (Prop × List AV)} {K : AV → AH → Nat → Prop} {s s' : ASt} (h1 : l = l') (h : s = s') : RetK l s K = RetK l' s' K := by rw [h, h1]
@[go_sem] theorem RetK_some {p : Prop} {l : List AV} {K : AV → AH → Nat → Prop} {s : ASt} : RetK (some (p, l)) s K = (p ∧ K (packA l) s.H s.nx) := rfl
@[go_sem] theorem resA_nil {P : Program} {H : AH} {T : List AV} : resA P H T [] = some (True, []) := rfl
@[go_sem] theorem resA_tmp {P : Program} {H : AH} {T : List AV} {t : Tmp} {r : List ResultVar} : resA P H T (.tmp t :: r) = (resA P H T r).map fun l => (l.1, nthA T t :: l.2) := by simp only [resA, nthA_eq]
def cellR (c : Option (Prop × AV)) (l : Option (Prop × List AV)) : Option (Prop × List AV) :=
  match c, l with
  | some (p, v), some l => some (p ∧ l.1, v :: l.2)
  | _, _ => none
@[go_sem] theorem cellR_some {p : Prop} {v : AV} {l : Prop × List AV} : cellR (some (p, v)) (some l) = some (p ∧ l.1, v :: l.2) := rfl
def resP (b : ABlk) (ver off : Nat) (s : Bool × Nat) : Option (Prop × AV) := match b with | .live v cells => some (v = ver ∧ (loadA cells off s).1, (loadA cells off s).2) | .dead => none
@[go_sem] theorem resP_live {v : Nat} {cells : List AV} {ver off : Nat} {s : Bool × Nat} : resP (.live v cells) ver off s = some (v = ver ∧ (loadA cells off s).1, (loadA cells off s).2) := rfl
@[go_sem] theorem resC_ptr {H : AH} {s : Bool × Nat} {id ver off : Nat} : resC H (some s) (.ptr id ver off) = resP (H id) ver off s := rfl
@[go_sem] theorem resA_cell {P : Program} {H : AH} {T : List AV} {t : Tmp} {ty : TypeId} {r : List ResultVar} : resA P H T (.cell t ty :: r) = cellR (resC H (tyAS P ty) (nthA T t)) (resA P H T r) := by simp only [resA, nthA_eq]; rfl
@[go_sem] theorem packA_one {a : AV} : packA [a] = a := rfl
@[go_sem] theorem packA_nil : packA [] = .tup [] := rfl
@[go_sem] theorem packA_two {a b : AV} {l : List AV} : packA (a :: b :: l) = .tup (a :: b :: l) := rfl
@[go_sem] theorem guardT_bool {T : List AV} {b want : Bool} {d : Tmp} (h : T[d]? = some (.bool b)) : guardT T (some d) want = some (b == want) := by simp [guardT, h]
def gT (a : Option AV) (want : Bool) : Option Bool :=
  match a with
  | some (.bool b) => some (b == want)
  | some (.tup _) => some false
  | none => some false
  | _ => none
@[go_sem] theorem guardT_gT {T : List AV} {d : Tmp} {want : Bool} : guardT T (some d) want = gT T[d]? want := rfl
@[go_sem] theorem gT_bool {b : Bool} : gT (some (.bool b)) true = some b := by simp [gT]
@[go_sem] theorem gT_bool_f {b : Bool} : gT (some (.bool b)) false = some (!b) := by simp [gT]
@[go_sem] theorem gT_tup {l : List AV} {want : Bool} : gT (some (.tup l)) want = some false := rfl
def nthO : List Oper → Nat → Option Tmp
  | [], _ => none
  | o :: _, 0 => o.dst
  | _ :: l, n + 1 => nthO l n
@[go_sem] theorem nthO_zero {d : Option Tmp} {op : Op} {t : TypeId} {p : String} {a : Array Edge} {g : Option (Nat × Bool)} {l : List Oper} : nthO (⟨d, op, t, p, a, g⟩ :: l) 0 = d := rfl
@[go_sem] theorem nthO_succ {o : Oper} {l : List Oper} {n : Nat} : nthO (o :: l) (n + 1) = nthO l n := rfl
theorem gslot_eq : ∀ (l : List Oper) (n : Nat), gslot l n = nthO l n
  | [], n => by simp [gslot, nthO]
  | o :: l, 0 => by simp [gslot, nthO]
  | o :: l, n + 1 => by
    have := gslot_eq l n
    simp only [gslot, nthO, List.getElem?_cons_succ] at *
    exact this
section
variable {H : AH}
@[go_sem] theorem cellsA_int {k : IntKind} {n : Int} : cellsA H (.int k n) = some [.int k n] := rfl
@[go_sem] theorem cellsA_bool {b : Bool} : cellsA H (.bool b) = some [.bool b] := rfl
@[go_sem] theorem cellsA_str {b : ByteArray} : cellsA H (.str b) = some [.str b] := rfl
@[go_sem] theorem cellsA_sl {n : Nat} {t : Bool} {cs : List AV} : cellsA H (.sl n t cs) = some [.sl n t cs] := rfl
@[go_sem] theorem cellsA_ro {cs : List AV} : cellsA H (.ro cs) = some [.ro cs] := rfl
@[go_sem] theorem cellsA_agg {cs : List AV} : cellsA H (.agg cs) = some cs := rfl
@[go_sem] theorem cellsA_nilp : cellsA H .nilp = some [.nilp] := rfl
@[go_sem] theorem cellsA_fn {f : FuncId} {cs : List AV} : cellsA H (.fn f cs) = some [.fn f cs] := rfl
@[go_sem] theorem lenT_str {P : Program} {t : TypeId} {s : ByteArray} : lenT P H t (.str s) = if tyStr P t then some (True, .int .i64 s.size) else none := rfl
@[go_sem] theorem lenT_sl {P : Program} {t : TypeId} {n : Nat} {g : Bool} {cs : List AV} : lenT P H t (.sl n g cs) = if (tySl P t).isSome then some (True, .int .i64 n) else none := rfl
def lenP (b : ABlk) (ver n : Nat) : Option (Prop × AV) := match b with | .live v _ => some (v = ver, .int .i64 n) | .dead => none
@[go_sem] theorem lenP_live {v ver n : Nat} {cs : List AV} : lenP (.live v cs) ver n = some (v = ver, .int .i64 n) := rfl
@[go_sem] theorem lenT_msl {P : Program} {t : TypeId} {id ver sz off n : Nat} : lenT P H t (.msl id ver sz off n) = if (tySl P t).isSome then lenP (H id) ver n else none := rfl
def cellsP (b : ABlk) (ver : Nat) (x : AV) : Option (List AV) := match b with | .live v _ => if v = ver then some [x] else none | .dead => none
@[go_sem] theorem cellsP_live {v ver : Nat} {cs : List AV} {x : AV} : cellsP (.live v cs) ver x = if v = ver then some [x] else none := rfl
@[go_sem] theorem cellsA_ptr {id ver off : Nat} : cellsA H (.ptr id ver off) = cellsP (H id) ver (.ptr id ver off) := rfl
@[go_sem] theorem cellsA_msl {id ver sz off n : Nat} : cellsA H (.msl id ver sz off n) = cellsP (H id) ver (.msl id ver sz off n) := rfl
def storeB (b : ABlk) (H : AH) (nx id ver off n : Nat) (cs : List AV) : Option (Prop × AV × AH × Nat) := match b with
  | .live v cells => some (v = ver ∧ cs.length = n ∧ off + n ≤ cells.length, .tup [], upd H id (.live v (cells.take off ++ cs ++ cells.drop (off + n))), nx)
  | .dead => none
@[go_sem] theorem storeB_live {H : AH} {nx id v ver off n : Nat} {cs cells : List AV} : storeB (.live v cells) H nx id ver off n cs = some (v = ver ∧ cs.length = n ∧ off + n ≤ cells.length, .tup [], upd H id (.live v (cells.take off ++ cs ++ cells.drop (off + n))), nx) := rfl
@[go_sem] theorem storeE_ptr {nx : Nat} {g : Bool} {n id ver off : Nat} {cs : List AV} : storeE H nx (some (g, n)) (.ptr id ver off) (some cs) = storeB (H id) H nx id ver off n cs := by
  simp only [storeE, storeB]; try (cases H id <;> rfl)
end
attribute [go_sem] clrA gslot_eq binA isShift intBin shiftA strBin unA loadA builtA foldI fillA fillB sliceA sliceS optInt appA srcA copA rdSl slcE convE convH bslE mkslE cst1 eqL eq1
attribute [go_sem] List.map_cons List.map_nil List.cons_append List.nil_append List.length_cons List.length_nil List.drop_zero List.drop_succ_cons List.take_zero List.take_succ_cons List.getElem?_cons_zero List.getElem?_cons_succ
  Option.map_some Option.map_none Option.bind_some Option.getD_some Option.getD_none true_and and_true if_true if_false List.getD_cons_zero List.getD_cons_succ decide_true decide_false Nat.zero_add Nat.add_zero Nat.zero_mul Nat.one_mul Nat.mul_one Int.toNat_natCast
  Bool.false_eq_true Bool.true_and Bool.and_true Bool.false_and Bool.and_false Bool.not_true Bool.not_false Bool.true_or Bool.or_true Bool.false_or Bool.or_false eq_self and_self
  List.drop_nil List.take_nil List.replicate_succ List.replicate_zero List.flatten_cons List.flatten_nil List.append_nil
end Go.TH

/-
  TH, part 22: loops, drawn regions, forks.
-/
set_option linter.unusedVariables false
set_option linter.unusedSimpArgs false
namespace Go.TH
open Go
section
variable {P : Program} {s : ASt} {K : ASt → Prop} {d : Option Tmp} {t : TypeId} {x y c b : Operand} {j : Nat} {S : Nat → Bool}

/-! ### Loops -/
def LQ {ι : Type} (st : ι → ASt) (μ : ι → Nat) (G : ι → Prop) (i : ι) (Q : AEx → ASt → Prop) : AEx → ASt → Prop
  | .normal, s2 => ∃ j, G j ∧ μ j < μ i ∧ Weak s2 (st j)
  | e, s2 => Q e s2
@[go_sem] theorem LQ_exit {ι : Type} {st : ι → ASt} {μ : ι → Nat} {G : ι → Prop} {i : ι} {Q : AEx → ASt → Prop} {k : Nat} {s2 : ASt} : LQ st μ G i Q (.exit k) s2 = Q (.exit k) s2 := rfl
@[go_sem] theorem LQ_ret {ι : Type} {st : ι → ASt} {μ : ι → Nat} {G : ι → Prop} {i : ι} {Q : AEx → ASt → Prop} {s2 : ASt} : LQ st μ G i Q .ret s2 = Q .ret s2 := rfl
@[congr] theorem LQ_congr {ι : Type} {st : ι → ASt} {μ : ι → Nat} {G : ι → Prop} {i : ι} {Q : AEx → ASt → Prop} {e : AEx} {s2 s3 : ASt} (h : s2 = s3) : LQ st μ G i Q e s2 = LQ st μ G i Q e s3 := by rw [h]
theorem LQ.next {ι : Type} {st : ι → ASt} {μ : ι → Nat} {G : ι → Prop} {i : ι} {Q : AEx → ASt → Prop} {s2 : ASt} (j : ι) (h1 : G j) (h2 : μ j < μ i) (h3 : Weak s2 (st j)) : LQ st μ G i Q .normal s2 := ⟨j, h1, h2, h3⟩
theorem LoopB.intro {body : (AEx → ASt → Prop) → ASt → Prop} {Q : AEx → ASt → Prop} {w : Box body} {w2 : Box Q} {ι : Type} (st : ι → ASt) (μ : ι → Nat) (G : ι → Prop) (i : ι) (h0 : Weak s (st i)) (hG : G i)
    (step : ∀ i, G i → body (LQ st μ G i Q) (st i)) : LoopB body Q s w w2 := by
  refine ⟨fun s n => ∃ i, G i ∧ n = μ i ∧ s = st i, μ i, ⟨_, h0, i, hG, rfl, rfl⟩, ?_⟩
  rintro s' n' ⟨i, hi, rfl, rfl⟩
  have := step i hi
  have e : (LQ st μ G i Q) = (fun e s2 => match e with | .normal => ∃ m, m < μ i ∧ ∃ s0, Weak s2 s0 ∧ ∃ i, G i ∧ m = μ i ∧ s0 = st i | e => Q e s2) := by
    funext e s2
    cases e with
    | normal =>
      refine propext ⟨?_, ?_⟩
      · rintro ⟨j, h1, h2, h3⟩; exact ⟨μ j, h2, _, h3, j, h1, rfl, rfl⟩
      · rintro ⟨m, h1, s0, h2, j, h3, rfl, rfl⟩; exact ⟨j, h3, h1, h2⟩
    | exit k => rfl
    | ret => rfl
  rw [e] at this
  exact this
theorem Weak.mk {T T0 : List AV} {H : AH} {nx : Nat} (h : wkL T T0) : Weak ⟨T, H, nx⟩ ⟨T0, H, nx⟩ := Weak0.toW ⟨h, fun _ => .inl rfl, Nat.le_refl _⟩
@[go_sem] theorem wkL_nil : wkL [] [] = True := rfl
@[go_sem] theorem wkL_junk {a : AV} {l l' : List AV} : wkL (a :: l) (.junk :: l') = wkL l l' := by simp [wkL]
theorem wkL_refl : ∀ l : List AV, wkL l l
  | [] => trivial
  | a :: l => ⟨.inr rfl, wkL_refl l⟩
theorem wkL_same {a : AV} {l l' : List AV} : wkL l l' → wkL (a :: l) (a :: l') := fun h => ⟨.inr rfl, h⟩
theorem wkL_cons {a b : AV} {l l' : List AV} (h : a = b) : wkL l l' → wkL (a :: l) (b :: l') := fun h' => ⟨.inr h, h'⟩
/-- A frame of which just some slots are known. -/
def mkT (n : Nat) (l : List (Nat × AV)) : List AV := go n 0 l
where go : Nat → Nat → List (Nat × AV) → List AV
  | 0, _, _ => []
  | n + 1, k, (i, a) :: l => if i = k then a :: go n (k + 1) l else .junk :: go n (k + 1) ((i, a) :: l)
  | n + 1, k, [] => .junk :: go n (k + 1) []
theorem mkT_eq {n : Nat} {l : List (Nat × AV)} : mkT n l = mkT.go n 0 l := rfl
theorem mkT_zero {k : Nat} {l : List (Nat × AV)} : mkT.go 0 k l = [] := by unfold mkT.go; rfl
theorem mkT_cons {n k i : Nat} {a : AV} {l : List (Nat × AV)} : mkT.go (n + 1) k ((i, a) :: l) = if i = k then a :: mkT.go n (k + 1) l else .junk :: mkT.go n (k + 1) ((i, a) :: l) := by rw [mkT.go]
theorem mkT_nil {n k : Nat} : mkT.go (n + 1) k [] = .junk :: mkT.go n (k + 1) [] := by rw [mkT.go]

/-! ### Regions that draw -/
theorem DrawB.intro {ops : List Oper} {w : Box ops} {w2 : Box K} (effs frees : List Nat) (S : Nat → Bool) (hok : drawOk ops effs frees = true) (h : dops P ops effs frees S K 0 ops s) : DrawB P ops K s w w2 := ⟨effs, frees, S, hok, h⟩
/-- Nothing but quiet steps. -/
def noS : Nat → Bool := fun _ => false
@[go_sem] theorem maskH_noS {H : AH} : maskH noS H = H := by funext i; simp [maskH, noS]
theorem DrawB.quiet {ops : List Oper} {w : Box ops} {w2 : Box K} (hok : drawOk ops [] [] = true) (h : dops P ops [] [] noS K 0 ops s) : DrawB P ops K s w w2 := ⟨[], [], noS, hok, h⟩
/-- Three places. -/
def inS (a b c : Nat) : Nat → Bool := fun i => decide (i = a ∨ i = b ∨ i = c)
@[go_sem] theorem maskI_upd {H : AH} {a b c i : Nat} {x : ABlk} (h : i = a ∨ i = b ∨ i = c) : maskH (inS a b c) (upd H i x) = maskH (inS a b c) H := by
  funext k
  simp only [maskH, upd, inS, decide_eq_true_eq]
  split
  · rfl
  · split
    · subst_vars; contradiction
    · rfl
@[go_sem] theorem maskI_get {H : AH} {a b c i : Nat} (h : i ≠ a ∧ i ≠ b ∧ i ≠ c) : maskH (inS a b c) H i = H i := by
  have : ¬ (i = a ∨ i = b ∨ i = c) := by omega
  simp [maskH, inS, this]
@[go_sem] theorem maskH_all {H : AH} : maskH (fun _ => true) H = noH := by funext i; simp [maskH, noH]
attribute [go_sem] SF
theorem maskH_upd {H : AH} {i : Nat} {b : ABlk} (h : S i = true) : maskH S (upd H i b) = maskH S H := by
  funext k
  simp only [maskH, upd]
  split
  · rfl
  · split
    · rename_i h1 h2; subst h2; exact absurd h h1
    · rfl
theorem maskH_out {H : AH} {i : Nat} (h : S i = false) : maskH S H i = H i := by simp [maskH, h]
@[go_sem] theorem contains_nil {i : Nat} : ([] : List Nat).contains i = false := rfl
@[go_sem] theorem contains_cons {i k : Nat} {l : List Nat} : (k :: l).contains i = (i == k || l.contains i) := by rw [List.contains_cons]

/-- Behind a step with an effect. -/
def EK (S : Nat → Bool) (H : AH) (K : ASt → Prop) (s' : ASt) : Prop := AndB (maskH S s'.H = maskH S H) (K s') .mk
@[go_sem] theorem EK_eq {H : AH} {s' : ASt} : EK S H K s' = AndB (maskH S s'.H = maskH S H) (K s') .mk := rfl
@[go_sem] theorem dop_eff {op : Op} : dop P true S d op s K = aopD P d op s (EK S s.H K) := by unfold dop; rw [if_pos rfl]; rfl
/-- A call with its one result. -/
structure ECallB (P : Program) (f : AV) (args : List AV) (s : ASt) (K : AV → AH → Nat → Prop) (_ : Box K) : Prop where
  out : match f with
    | .fn g cap => ACallD P g (args ++ cap) s.H s.nx K
    | _ => False
@[congr] theorem ECallB_congr {f g : AV} {args args' : List AV} {s s' : ASt} {K : AV → AH → Nat → Prop} {w : Box K} (h1 : f = g) (h2 : args = args') (h3 : s = s') : ECallB P f args s K w = ECallB P g args' s' K w := by rw [h1, h2, h3]
theorem ECallB.of {g : FuncId} {args : List AV} {r : AV} {H' : AH} {nx' : Nat} {K : AV → AH → Nat → Prop} {w : Box K} (h : CallC P g args s.H s.nx r H' nx') (k : K r H' nx') : ECallB P (.fn g []) args s K w := ⟨⟨r, H', nx', by rw [List.append_nil]; exact h, k⟩⟩
@[go_sem] theorem aopD_is {op : Op} : aopD P d op s K = aop P d op s K := by
  unfold aopD aop
  rfl
theorem aopD_call {f : Operand} {args : List Operand} {tys : Array TypeId} : aopD P d (.call ⟨.value f, args.toArray, tys⟩) s K = ECallB P (evA s.tmps f) (args.map (evA s.tmps)) s (CK s d K) .mk := by
  refine propext (Iff.trans ?_ ⟨fun h => ⟨h⟩, fun h => h.out⟩)
  unfold aopD
  simp only [callV]
  cases evA s.tmps f <;> simp [CK]
  rfl
@[congr] theorem EK_congr {H : AH} {s' s2 : ASt} (h : s' = s2) : EK S H K s' = EK S H K s2 := by rw [h]
structure DCallB (P : Program) (f : AV) (args : List AV) (K : AV → Prop) (_ : Box K) : Prop where
  out : match f with
    | .fn g cap => ∃ q, QCall P g (args ++ cap) q ∧ K q
    | _ => False
@[congr] theorem DCallB_congr {f g : AV} {args args' : List AV} {K : AV → Prop} {w : Box K} (h1 : f = g) (h2 : args = args') : DCallB P f args K w = DCallB P g args' K w := by rw [h1, h2]
theorem DCallB.q {g : FuncId} {cap args : List AV} {K : AV → Prop} {w : Box K} {r : AV} (h : QCall P g (args ++ cap) r) (k : K r) : DCallB P (.fn g cap) args K w := ⟨⟨r, h, k⟩⟩
@[go_sem] theorem dop_call {f : Operand} {args : List Operand} {tys : Array TypeId} : dop P false S d (.call ⟨.value f, args.toArray, tys⟩) s K =
    DCallB P (evA s.tmps f) (args.map (evA s.tmps)) (QK s d K) .mk := by
  refine propext (Iff.trans ?_ ⟨fun h => ⟨h⟩, fun h => h.out⟩)
  unfold dop
  simp only [callV, Bool.false_eq_true, if_false]
  cases evA s.tmps f <;> simp [QK]
theorem DCallB.q0 {g : FuncId} {args : List AV} {K : AV → Prop} {w : Box K} {r : AV} (h : QCall P g args r) (k : K r) : DCallB P (.fn g []) args K w := ⟨⟨r, by rw [List.append_nil]; exact h, k⟩⟩
theorem dstep_q {E : Operand → AV} {H : AH} {op : Op} (h : fstep P E H op = none) : dstep P E H op = qstep P E H op := by
  unfold dstep
  split
  · rename_i h'; exact h'.symm
  · rename_i h'; rw [h, h']
@[go_sem] theorem dop_move : dop P false S d (.move x) s K = K ⟨putA s.tmps d (evA s.tmps x), s.H, s.nx⟩ := by rw [dop_q rfl, dstep_q rfl]; simp [qstep, bindP, QK]
@[go_sem] theorem dop_assign : dop P false S d (.assign x) s K = K ⟨putA s.tmps d (evA s.tmps x), s.H, s.nx⟩ := by rw [dop_q rfl, dstep_q rfl]; simp [qstep, bindP, QK]
@[go_sem] theorem dop_pick {a : Operand} : dop P false S d (.pick c a b) s K = bindB (pickE (evA s.tmps c) (evA s.tmps a) (evA s.tmps b)) (QK s d K) .mk := by rw [dop_q rfl, dstep_q rfl, q_pickE]; rfl
@[go_sem] theorem dop_build {parts : List (Nat × Operand)} : dop P false S d (.build t parts.toArray) s K = bindB (buildE (maskH S s.H) (tyZ P t) (tyFs P t) (parts.map fun x => (x.1, evA s.tmps x.2))) (QK s d K) .mk := by rw [dop_q rfl, dstep_q rfl, q_buildE]; rfl
@[go_sem] theorem dop_load : dop P false S d (.load t x) s K = bindB (loadE (tyAS P t) (maskH S s.H) (evA s.tmps x)) (QK s d K) .mk := by rw [dop_q rfl, dstep_q rfl, q_loadE]; rfl
@[go_sem] theorem dop_nil : dop P false S d (.nilCheck x) s K = bindB (nilE (maskH S s.H) (evA s.tmps x)) (QK s d K) .mk := by rw [dop_q rfl, dstep_q rfl, q_nilE]; rfl
@[go_sem] theorem dop_bin {op : BinOp} {t2 : TypeId} : dop P false S d (.binOp op t x y t2) s K = bindB (binB P (maskH S s.H) op t (isNilC y) (evA s.tmps x) (evA s.tmps y)) (QK s d K) .mk := by rw [dop_q rfl, dstep_q rfl, q_binE]; rfl
@[go_sem] theorem dop_un {op : UnOp} : dop P false S d (.unOp op t x) s K = bindB (unA op (evA s.tmps x)) (QK s d K) .mk := by rw [dop_q rfl, dstep_q rfl, q_unE]; rfl
@[go_sem] theorem dop_mkf {f : FuncId} {first cap : List Operand} : dop P false S d (.makeFunc (.func f) first.toArray cap.toArray) s K = bindB (mkfE f first (cap.map (evA s.tmps))) (QK s d K) .mk := by rw [dop_q rfl, dstep_q rfl, q_mkfE]; rfl
@[go_sem] theorem dop_slc {lo hi mx : Option Operand} : dop P false S d (.slice t x lo hi mx) s K = bindB (slcE P t (maskH S s.H) (evA s.tmps x) (lo.map (evA s.tmps)) (hi.map (evA s.tmps)) (mx.map (evA s.tmps))) (QK s d K) .mk := by rw [dop_q rfl, dstep_q rfl, q_slcE]; rfl
@[go_sem] theorem dop_fld : dop P false S d (.fieldAddr t x j) s K = bindB (fldE (tyFld P t j) (maskH S s.H) (evA s.tmps x)) (QK s d K) .mk := by rw [dop_q rfl, dstep_q rfl, q_fldE]; rfl
@[go_sem] theorem dop_field : dop P false S d (.field t x j) s K = bindB (fieldE (tyFld P t j) (evA s.tmps x)) (QK s d K) .mk := by rw [dop_q rfl, dstep_q rfl, q_fieldE]; rfl
@[go_sem] theorem dop_idx : dop P false S d (.indexAddr t x y) s K = bindB (idxE (tySl P t) (maskH S s.H) (evA s.tmps x) (evA s.tmps y)) (QK s d K) .mk := by rw [dop_q rfl, dstep_q rfl, q_idxE]; rfl
@[go_sem] theorem dop_index : dop P false S d (.index t x y) s K = bindB (indexE P t (evA s.tmps x) (evA s.tmps y)) (QK s d K) .mk := by rw [dop_q rfl, dstep_q rfl, q_indexE]; rfl
@[go_sem] theorem dop_ext : dop P false S d (.extract x j) s K = bindB (extE (evA s.tmps x) j) (QK s d K) .mk := by rw [dop_q rfl, dstep_q rfl, q_extE]; rfl
@[go_sem] theorem dop_blt {bi : Builtin} {args : List Operand} {tys : List TypeId} : dop P false S d (.call ⟨.builtin bi, args.toArray, tys.toArray⟩) s K = bindB (builtA P (maskH S s.H) bi tys (args.map (evA s.tmps))) (QK s d K) .mk := by rw [dop_q rfl, dstep_q rfl, q_bltE]; rfl
def convD (P : Program) (src dst : TypeId) (H : AH) (x : AV) : Option (Prop × AV) :=
  match convE P src dst H x with
  | some x => some x
  | none => (match x, tySl P dst with
      | .str s, some (e, _, _) => if tyInt P e = some .u8 ∧ (P.underlying src).isSome then some (s.size ≤ 140737488355328, .sl s.size false (bytesCells s)) else none
      | _, _ => none)
@[go_sem] theorem dop_conv {src dst : TypeId} : dop P false S d (.convert src dst x) s K = bindB (convD P src dst (maskH S s.H) (evA s.tmps x)) (QK s d K) .mk := by
  rw [dop_q rfl]
  unfold dstep
  rw [q_convE]
  rfl
def bslD (P : Program) (H : AH) (e : Option (TypeId × Nat × Nat)) (len : Nat) (parts : List (Nat × AV)) : Option (Prop × AV) :=
  match e with
  | none => none
  | some e => match tyZ P e.1 with
    | none => none
    | some z => if z.length = e.2.1 ∧ len * e.2.1 ≤ 16777216 then (fillB H e.2.1 (List.replicate len z).flatten parts).map fun cs => (True, .sl len true cs) else none
@[go_sem] theorem dop_bsl {len : Nat} {parts : List (Nat × Operand)} : dop P false S d (.buildSlice t len parts.toArray) s K = bindB (bslD P (maskH S s.H) (tySl P t) len (parts.map fun x => (x.1, evA s.tmps x.2))) (QK s d K) .mk := by
  rw [dop_q rfl]
  have e : dstep P (evA s.tmps) (maskH S s.H) (.buildSlice t len parts.toArray) = bslD P (maskH S s.H) (tySl P t) len (parts.map fun x => (x.1, evA s.tmps x.2)) := by
    unfold dstep bslD
    simp only [qstep, fstep]
    cases tySl P t with
    | none => rfl
    | some e =>
      obtain ⟨e, sz, by'⟩ := e
      simp only
      cases tyZ P e <;> rfl
  rw [e]
  rfl

/-! ### Forks -/
theorem IfB.dec {p : Prop} [Decidable p] {A B : Prop} {w : Box A} {w2 : Box B} (h1 : p → A) (h2 : ¬ p → B) : IfB (decide p) A B w w2 :=
  IfB.split (fun h => h1 (of_decide_eq_true h)) (fun h => h2 (of_decide_eq_false h))
end
/-! ### Pictures -/
section
variable {d : Nat} {H : AH}
theorem snapA_mapRef (d : Nat) (H : AH) : ∃ g, ∀ a, snapA d H a = mapRef g a := by cases d <;> exact ⟨_, fun _ => rfl⟩
@[go_sem] theorem snapA_int {k : IntKind} {n : Int} : snapA d H (.int k n) = .int k n := by cases d <;> rfl
@[go_sem] theorem snapA_bool {b : Bool} : snapA d H (.bool b) = .bool b := by cases d <;> rfl
@[go_sem] theorem snapA_str {b : ByteArray} : snapA d H (.str b) = .str b := by cases d <;> rfl
@[go_sem] theorem snapA_nilp : snapA d H .nilp = .nilp := by cases d <;> rfl
@[go_sem] theorem snapA_junk : snapA d H .junk = .junk := by cases d <;> rfl
theorem mapRefL_snap {g : AV → AV} {d : Nat} {H : AH} (h : ∀ a, snapA d H a = mapRef g a) (cs : List AV) : mapRefL g cs = cs.map (snapA d H) := by
  rw [mapRefL_map]; exact List.map_congr_left fun a _ => (h a).symm
@[go_sem] theorem snapA_tup {cs : List AV} : snapA d H (.tup cs) = .tup (cs.map (snapA d H)) := by obtain ⟨g, h⟩ := snapA_mapRef d H; rw [h]; simp only [mapRef, mapRefL_snap h]
@[go_sem] theorem snapA_agg {cs : List AV} : snapA d H (.agg cs) = .agg (cs.map (snapA d H)) := by obtain ⟨g, h⟩ := snapA_mapRef d H; rw [h]; simp only [mapRef, mapRefL_snap h]
@[go_sem] theorem snapA_fn {f : FuncId} {cs : List AV} : snapA d H (.fn f cs) = .fn f (cs.map (snapA d H)) := by obtain ⟨g, h⟩ := snapA_mapRef d H; rw [h]; simp only [mapRef, mapRefL_snap h]
@[go_sem] theorem snapA_sl {n : Nat} {t : Bool} {cs : List AV} : snapA d H (.sl n t cs) = .sl n t (cs.map (snapA d H)) := by obtain ⟨g, h⟩ := snapA_mapRef d H; rw [h]; simp only [mapRef, mapRefL_snap h]
@[go_sem] theorem snapA_ro {cs : List AV} : snapA d H (.ro cs) = .ro (cs.map (snapA d H)) := by obtain ⟨g, h⟩ := snapA_mapRef d H; rw [h]; simp only [mapRef, mapRefL_snap h]
def snapM (b : ABlk) (ver sz off n d : Nat) (H : AH) : AV := match b with
  | .live v cells => if v = ver then .sl n false (((cells.drop off).take (n * sz)).map (snapA d H)) else .junk
  | .dead => .junk
@[go_sem] theorem snapM_live {v ver sz off n d : Nat} {cells : List AV} : snapM (.live v cells) ver sz off n d H = if v = ver then .sl n false (((cells.drop off).take (n * sz)).map (snapA d H)) else .junk := rfl
@[go_sem] theorem snapA_msl {id ver sz off n : Nat} : snapA (d + 1) H (.msl id ver sz off n) = snapM (H id) ver sz off n d H := by
  simp only [snapA, mapRef, derefA, snapM]; try rfl
def snapP (b : ABlk) (ver off d : Nat) (H : AH) : AV := match b with
  | .live v cells => if v = ver then .ro ((cells.drop off).map (snapA d H)) else .junk
  | .dead => .junk
@[go_sem] theorem snapP_live {v ver off d : Nat} {cells : List AV} : snapP (.live v cells) ver off d H = if v = ver then .ro ((cells.drop off).map (snapA d H)) else .junk := rfl
@[go_sem] theorem snapA_ptr {id ver off : Nat} : snapA (d + 1) H (.ptr id ver off) = snapP (H id) ver off d H := by
  simp only [snapA, mapRef, derefA, snapP]; try rfl
end
theorem w64 {x : Int} (h : -9223372036854775808 ≤ x ∧ x ≤ 9223372036854775807) : IntKind.i64.wrap x = x := by rw [IntKind.wrap_i64]; omega
/-- What is asked on the way, where the discharger sees it. -/
theorem AndB_of {p A : Prop} {w : Box A} (h : p) : AndB p A w = A := by simp [AndB, h]
@[go_sem] theorem beq_int {a b : Int} : (a == b) = decide (a = b) := by by_cases h : a = b <;> simp [h]
@[go_sem] theorem bne_int {a b : Int} : (a != b) = !decide (a = b) := by by_cases h : a = b <;> simp [h]
@[go_sem] theorem cast_pred {j : Nat} : ((j + 1 : Nat) : Int) - 1 = (j : Int) := by omega
theorem IfB_of {p : Prop} [Decidable p] {A B : Prop} {w : Box A} {w2 : Box B} (h : p) : IfB (decide p) A B w w2 = A := by simp [h, IfB, AIf]
theorem IfB_no {p : Prop} [Decidable p] {A B : Prop} {w : Box A} {w2 : Box B} (h : ¬ p) : IfB (decide p) A B w w2 = B := by simp [h, IfB, AIf]
@[go_sem] theorem pickE_not {b : Bool} {x y : AV} : pickE (.bool (!b)) x y = pickE (.bool b) y x := by cases b <;> rfl
theorem pickE_of {p : Prop} [Decidable p] {a b : AV} (h : p) : pickE (.bool (decide p)) a b = some (True, a) := by simp [pickE, h]
theorem pickE_no {p : Prop} [Decidable p] {a b : AV} (h : ¬ p) : pickE (.bool (decide p)) a b = some (True, b) := by simp [pickE, h]
@[go_sem high] theorem nthA_8 {a b c d e f g h : AV} {l : List AV} {n : Nat} : nthA (a :: b :: c :: d :: e :: f :: g :: h :: l) (n + 8) = nthA l n := rfl
@[go_sem high] theorem setN_8 {a b c d e f g h x : AV} {l : List AV} {n : Nat} : setN (a :: b :: c :: d :: e :: f :: g :: h :: l) (n + 8) x = a :: b :: c :: d :: e :: f :: g :: h :: setN l n x := rfl
theorem ite_of {α : Type} {p : Prop} [Decidable p] {a b : α} (h : p) : (if p then a else b) = a := if_pos h
theorem ite_no {α : Type} {p : Prop} [Decidable p] {a b : α} (h : ¬ p) : (if p then a else b) = b := if_neg h
theorem Weak.noH {T T0 : List AV} {H : AH} {nx nx0 : Nat} (h : wkL T T0) (hn : nx ≤ nx0) : Weak ⟨T, H, nx⟩ ⟨T0, Go.TH.noH, nx0⟩ := Weak0.toW ⟨h, fun _ => .inr rfl, hn⟩
@[go_sem] theorem beq_bool {b : Bool} : (b == b) = true := by simp
@[go_sem] theorem IfB_or {a b : Bool} {A B : Prop} {w : Box A} {w2 : Box B} : IfB (a || b) A B w w2 = IfB a A (IfB b A B .mk .mk) .mk .mk := by cases a <;> simp [IfB, AIf]
@[go_sem] theorem IfB_and {a b : Bool} {A B : Prop} {w : Box A} {w2 : Box B} : IfB (a && b) A B w w2 = IfB a (IfB b A B .mk .mk) B .mk .mk := by cases a <;> simp [IfB, AIf]
@[go_sem] theorem cast_zero : ((0 : Nat) : Int) = 0 := rfl
@[go_sem] theorem lt_one {n : Nat} : (0 < n + 1) = True := by simp
attribute [go_sem] upd_upd convD bslD Option.isSome_some Option.isSome_none reduceCtorEq false_and and_false not_false_eq_true not_true_eq_false or_true true_or false_or or_false
attribute [go_sem] Nat.reduceAdd Nat.reduceLT Nat.reduceMul Nat.reduceSub Nat.reduceEqDiff Nat.reduceBEq Int.reduceAdd Int.reduceLT Int.reduceLE Int.reduceNeg Int.reduceToNat Nat.reduceLeDiff reduceIte reduceDIte Int.reduceMul Int.reduceSub Int.reduceEq Int.reduceBEq
end Go.TH

/-
  TH, part 23: what a caller hands over.
-/
set_option linter.unusedVariables false
set_option linter.unusedSimpArgs false
namespace Go.TH
open Go
section
variable {H : Type} {enc : TypeId × Value → H} {P : Program} {W : World} {spare : Nat → Bool} {held : Bool} {fuel : Nat} {t : TypeId} {cs : List Value} {x : DataW H × List MemPlace}
/-- The state at the entry: all memory is only read. -/
abbrev entry (W : World) : Cx := ⟨W, fun _ => none, fun b => b < W.heap.size⟩
theorem entry_inv (W : World) : Inv W.heap.size (entry W) noH 0 := ⟨fun _ h => h, Nat.le_refl _, fun _ _ => rfl, fun _ _ _ h => by simp [noH] at h, fun i j ei ej b _ h => by cases h⟩
/-- Cells handed over: each is one cell. -/
def In (W : World) (cs : List Value) (as : List AV) : Prop := (∀ v ∈ cs, v.oneCell' = true) ∧ Reps (entry W) cs as
theorem In.append {a b : List Value} {x y : List AV} (h1 : In W a x) (h2 : In W b y) : In W (a ++ b) (x ++ y) :=
  ⟨fun v hv => by rcases List.mem_append.1 hv with h | h; exact h1.1 v h; exact h2.1 v h, h1.2.append h2.2⟩
theorem In.nil : In W [] [] := ⟨fun _ h => by simp at h, Reps.nil _⟩
theorem In.one {v : Value} {a : AV} (h1 : v.oneCell' = true) (h : Rep W (fun _ => none) (fun b => b < W.heap.size) v a) : In W [v] [a] :=
  ⟨fun w hw => by simp at hw; subst hw; exact h1, Reps.cons h (Reps.nil _)⟩
theorem in_int {k : IntKind} (ht : P.underlying t = some (.int k)) (h : DataW.trod enc P W 0 spare held fuel t cs = some x) : ∃ n, (Lit.int k n).wf = true ∧ In W cs [.int k n] := by
  obtain ⟨n, rfl, _, hw⟩ := DataW.trod_int ht h
  exact ⟨n, hw, In.one rfl (.int k n)⟩
theorem in_bool (ht : P.underlying t = some .bool) (h : DataW.trod enc P W 0 spare held fuel t cs = some x) : ∃ b, In W cs [.bool b] := by
  obtain ⟨b, rfl, _⟩ := DataW.trod_bool ht h
  exact ⟨b, In.one rfl (.bool b)⟩
theorem in_str (ht : P.underlying t = some .string) (h : DataW.trod enc P W 0 spare held fuel t cs = some x) : ∃ s : ByteArray, s.size ≤ 9223372036854775807 ∧ In W cs [.str s] := by
  obtain ⟨s, rfl, _, hs⟩ := DataW.trod_string ht h
  exact ⟨s, hs, In.one rfl (.str s)⟩
/-- A struct's fields, from a place on. -/
theorem In.split {o n : Nat} {a b : List AV} (h1 : In W ((cs.drop o).take n) a) (h2 : In W (cs.drop (o + n)) b) : In W (cs.drop o) (a ++ b) := by
  have := h1.append h2
  rwa [← List.drop_drop, List.take_append_drop] at this
theorem In.last {o : Nat} (h : cs.length = o) : In W (cs.drop o) [] := by subst h; rw [List.drop_length]; exact In.nil

theorem cells?_spec {a : Addr} {n : Nat} {cs : List Value} (h : W.cells? 0 a n = some cs) : cs.length = n ∧ ∀ (j : Nat) (v : Value), cs[j]? = some v → W.cell? (a.add j) = some v := by
  unfold World.cells? at h
  rw [if_pos (Nat.zero_le _)] at h
  have hl : cs.length = n := by simpa using mapM_some_length h
  refine ⟨hl, fun j v hv => ?_⟩
  have hj : j < n := by rw [← hl]; exact (List.getElem?_eq_some_iff.1 hv).1
  have := mapM_some_get h j j (by simp [hj])
  rw [this, hv]
theorem in_slice {e : TypeId} (ht : P.underlying t = some (.slice e)) {α : Type} (c : α → List AV) (ok : α → Prop) {sz : Nat} (hsz : P.cellsOf e = sz)
    (hpos : 0 < sz) (he : ∀ fuel cs x, DataW.trod enc P W 0 spare held fuel e cs = some x → ∃ a, ok a ∧ In W cs (c a)) (h : DataW.trod enc P W 0 spare held fuel t cs = some x) :
    ∃ (l : List α) , (∀ a ∈ l, ok a) ∧ l.length ≤ 9223372036854775807 ∧ In W cs [.sl l.length false (l.flatMap c)] := by
  rcases DataW.trod_slice ht h with ⟨rfl, _⟩ | ⟨a, len, cap, elems, rest, n, _, rfl, rfl, hb, hl, hm, hlen, hel, hsp, hns⟩
  · exact ⟨[], fun a h => by simp at h, by simp, In.one rfl (.sl0 none 0 0 false (Nat.le_refl _) (fun h => by cases h))⟩
  · subst hsz
    -- an element at each place
    have each : ∀ i, i < len → ∃ (y : α) (ci : List Value), ok y ∧ W.cells? 0 (a.add (i * P.cellsOf e)) (P.cellsOf e) = some ci ∧ In W ci (c y) := by
      intro i hi
      have h1 := hel i hi
      have : i < elems.length := by omega
      rw [List.getElem?_eq_getElem this, Option.bind_eq_some_iff] at h1
      obtain ⟨ci, h2, h3⟩ := h1
      obtain ⟨y, hy, hin⟩ := he _ _ _ h3
      exact ⟨y, ci, hy, h2, hin⟩
    have hmax : len ≤ 9223372036854775807 := Nat.le_trans hl hm
    rcases Nat.eq_zero_or_pos len with rfl | hlen0
    · exact ⟨[], fun a h => by simp at h, by simp, In.one rfl (.sl0 (some a) 0 cap false hl (fun h => by cases h))⟩
    have hs : a.spot = none ∧ a.block < W.heap.size := by
      obtain ⟨y, ci, _, g2, _⟩ := each 0 hlen0
      obtain ⟨s1, s2⟩ := cells?_spec g2
      have h0 := s2 0 ci[0] (List.getElem?_eq_getElem (by omega))
      have e0 : ((a.add (0 * P.cellsOf e)).add 0) = a := by simp [Addr.add]
      rw [e0] at h0
      unfold World.cell? at h0
      refine ⟨?_, ?_⟩
      · cases hsp' : a.spot with
        | none => rfl
        | some q => rw [hsp'] at h0; simp at h0; split at h0 <;> simp at h0
      · rcases Nat.lt_or_ge a.block W.heap.size with h | h
        · exact h
        · rw [Array.getElem?_eq_none h] at h0; simp at h0
    -- all of them, front to back
    have all : ∀ k, k ≤ len → ∃ (l : List α) (vs : List Value), l.length = k ∧ (∀ y ∈ l, ok y) ∧ vs.length = k * P.cellsOf e ∧ In W vs (l.flatMap c) ∧ ∀ (j : Nat) (v : Value), vs[j]? = some v → W.cell? (a.add j) = some v := by
      intro k
      induction k with
      | zero => exact fun _ => ⟨[], [], rfl, fun y h => by simp at h, by simp, In.nil, fun j v h => by simp at h⟩
      | succ k ih =>
        intro hk
        obtain ⟨l, vs, h1, h2, h3, h4, h6⟩ := ih (by omega)
        obtain ⟨y, ci, g1, g2, g3⟩ := each k (by omega)
        obtain ⟨s1, s2⟩ := cells?_spec g2
        refine ⟨l ++ [y], vs ++ ci, by simp [h1], ?_, ?_, ?_, ?_⟩
        · intro z hz
          rcases List.mem_append.1 hz with h | h
          · exact h2 z h
          · simp at h; subst h; exact g1
        · rw [List.length_append, h3, s1, Nat.add_mul, Nat.one_mul]
        · simpa using h4.append g3
        · intro j v hv
          by_cases hj : j < vs.length
          · rw [List.getElem?_append_left hj] at hv; exact h6 j v hv
          · rw [List.getElem?_append_right (by omega)] at hv
            have := s2 _ v hv
            rwa [add_add a hs.1, h3, show k * P.cellsOf e + (j - k * P.cellsOf e) = j from by omega] at this
    obtain ⟨l, vs, h1, h2, h3, h4, h6⟩ := all len (Nat.le_refl _)
    refine ⟨l, h2, by omega, In.one rfl ?_⟩
    rw [h1]
    exact .sl a len cap false _ vs hl (fun h => by cases h) hs.2 hs.1 h4.2.1 (fun j v hj => ⟨h6 j v hj, h4.1 v (List.mem_of_getElem? hj)⟩) h4.2.2
end
theorem callQ_body {P : Program} (hm : P.follows .mixedOrders = true) {f : FuncId} {fn : Func} (hf : P.funcs[f]? = some fn) (c : Code) (hb : fn.body = some c) {n : Nat} (hn : fn.ntmps = n) {rs : List ResultVar} (hrs : fn.results = rs.toArray)
    (hname : (fn.name == "runtime.NumGoroutine") = false) {args : List AV} {H : AH} {nx : Nat} {Q : AV → AH → Nat → Prop} (hl : args.length ≤ n)
    (h : awp P c (bodyQ P rs Q) ⟨initT n args, H, nx⟩) : CallQ P f args H nx Q :=
  callQ_of_body hm hf hb hn hrs hname (by rw [initT_eq n args hl]; exact h)
/-- A law that answers true. -/
theorem law_calls {P : Program} {f : FuncId} {as : List AV} (h : CallQ P f as noH 0 fun r _ _ => r = .bool true) {W : World} {vs : List Value} (hr : In W vs as) :
    Calls P f vs.toArray W fun e W' => e = .returned (.bool true) ∧ Go.RowKit.Below W.heap.size W W' := by
  refine (h.2 _ _ vs (entry_inv W) hr.2).mono ?_
  rintro e W' ⟨r, H', nx', rfl, v, κ', rfl, rfl, hrep, hext, _⟩
  obtain rfl := hrep.bool_inv
  exact ⟨rfl, hext.os, hext.tape, hext.output, hext.size, hext.below⟩
end Go.TH

/-
  TH, part 24: a walk has one end; contracts that tell their result beforehand.
-/
set_option linter.unusedVariables false
set_option linter.unusedSimpArgs false
namespace Go.TH
open Go
section
variable {P : Program}
theorem AIf.imp {b : Bool} {A B A' B' : Prop} (h : AIf b A B) (ha : A → A') (hb : B → B') : AIf b A' B' := by
  cases b
  · simp [AIf] at h ⊢; exact hb h
  · simp [AIf] at h ⊢; exact ha h
theorem bindP_mono {α : Type} {x : Option (Prop × α)} {k k' : α → Prop} (h : bindP x k) (hk : ∀ a, k a → k' a) : bindP x k' := by
  unfold bindP at *
  cases x with
  | none => exact h
  | some y => exact ⟨h.1, hk _ h.2⟩
theorem bindP_ex {α : Type} {x : Option (Prop × α)} {k : α → Prop} (h : bindP x k) : ∃ a, k a ∧ ∀ k' : α → Prop, k' a → bindP x k' := by
  cases x with
  | none => exact h.elim
  | some y =>
    have h' : y.1 ∧ k y.2 := h
    exact ⟨y.2, h'.2, fun k' hk => (⟨h'.1, hk⟩ : y.1 ∧ k' y.2)⟩
theorem aop_ex {d : Option Tmp} {op : Op} {s : ASt} {K : ASt → Prop} (h : aop P d op s K) : ∃ s', K s' ∧ ∀ K' : ASt → Prop, K' s' → aop P d op s K' := by
  unfold aop at *
  split at h
  · rename_i f args hc
    split at h
    · rename_i g cap hf
      obtain ⟨r, H', nx', h1, h2⟩ := h
      exact ⟨_, h2, fun K' hK => ⟨r, H', nx', h1, hK⟩⟩
    · exact h.elim
  · obtain ⟨a, h1, h2⟩ := bindP_ex h
    exact ⟨_, h1, fun K' hK => h2 _ hK⟩
theorem aops_ex {ops : List Oper} {K : ASt → Prop} : ∀ (l : List Oper) {s : ASt}, aops P ops K l s → ∃ s', K s' ∧ ∀ K' : ASt → Prop, K' s' → aops P ops K' l s
  | [], s, h => ⟨s, h, fun K' hK => hK⟩
  | o :: r, s, h => by
    unfold aops at h
    have one : aop P o.dst o.op s (aops P ops K r) → ∃ s', K s' ∧ ∀ K' : ASt → Prop, K' s' → aop P o.dst o.op s (aops P ops K' r) := by
      intro h
      obtain ⟨s1, h1, h2⟩ := aop_ex h
      obtain ⟨s', h3, h4⟩ := aops_ex r h1
      exact ⟨s', h3, fun K' hK => h2 _ (h4 K' hK)⟩
    cases hg : o.guard with
    | none =>
      rw [hg] at h
      obtain ⟨s', h1, h2⟩ := one h
      refine ⟨s', h1, fun K' hK => ?_⟩
      unfold aops
      rw [hg]
      exact h2 K' hK
    | some jw =>
      obtain ⟨j, want⟩ := jw
      rw [hg] at h
      simp only at h
      cases hq : guardA ops s.tmps j want with
      | none => rw [hq] at h; exact h.elim
      | some b =>
        rw [hq] at h
        simp only at h
        cases b with
        | true =>
          obtain ⟨s', h1, h2⟩ := one (by simpa [AIf] using h)
          refine ⟨s', h1, fun K' hK => ?_⟩
          unfold aops
          simp only [hg, hq]
          simpa [AIf] using h2 K' hK
        | false =>
          obtain ⟨s', h1, h2⟩ := aops_ex r (by simpa [AIf] using h)
          refine ⟨s', h1, fun K' hK => ?_⟩
          unfold aops
          simp only [hg, hq]
          simpa [AIf] using h2 K' hK
theorem dop_ex {eff : Bool} {S : Nat → Bool} {d : Option Tmp} {op : Op} {s : ASt} {K : ASt → Prop} (h : dop P eff S d op s K) : ∃ s', K s' ∧ ∀ K' : ASt → Prop, K' s' → dop P eff S d op s K' := by
  unfold dop at h
  split at h
  · rename_i he
    rw [aopD_is] at h
    obtain ⟨s', h1, h2⟩ := aop_ex h
    refine ⟨s', h1.2, fun K' hK => ?_⟩
    unfold dop
    rw [if_pos he, aopD_is]
    exact h2 _ ⟨h1.1, hK⟩
  · rename_i he
    cases hc : callV op with
    | some fa =>
      obtain ⟨f, args⟩ := fa
      rw [hc] at h
      simp only at h
      split at h
      · rename_i g cap hf
        obtain ⟨q, h1, h2⟩ := h
        refine ⟨_, h2, fun K' hK => ?_⟩
        unfold dop
        rw [if_neg he]
        simp only [hc, hf]
        exact ⟨q, h1, hK⟩
      · exact h.elim
    | none =>
      rw [hc] at h
      obtain ⟨a, h1, h2⟩ := bindP_ex h
      refine ⟨_, h1, fun K' hK => ?_⟩
      unfold dop
      rw [if_neg he]
      simp only [hc]
      exact h2 _ hK
theorem dops_ex {ops : List Oper} {effs frees : List Nat} {S : Nat → Bool} {K : ASt → Prop} : ∀ (l : List Oper) (i : Nat) {s : ASt}, dops P ops effs frees S K i l s → ∃ s', K s' ∧ ∀ K' : ASt → Prop, K' s' → dops P ops effs frees S K' i l s
  | [], i, s, h => ⟨s, h, fun K' hK => hK⟩
  | o :: r, i, s, h => by
    unfold dops at h
    have one : dop P (effs.contains i) (SF frees S i) o.dst o.op s (dops P ops effs frees S K (i + 1) r) → ∃ s', K s' ∧ ∀ K' : ASt → Prop, K' s' → dop P (effs.contains i) (SF frees S i) o.dst o.op s (dops P ops effs frees S K' (i + 1) r) := by
      intro h
      obtain ⟨s1, h1, h2⟩ := dop_ex h
      obtain ⟨s', h3, h4⟩ := dops_ex r (i + 1) h1
      exact ⟨s', h3, fun K' hK => h2 _ (h4 K' hK)⟩
    cases hg : o.guard with
    | none =>
      rw [hg] at h
      obtain ⟨s', h1, h2⟩ := one h
      refine ⟨s', h1, fun K' hK => ?_⟩
      unfold dops
      rw [hg]
      exact h2 K' hK
    | some jw =>
      obtain ⟨j, want⟩ := jw
      rw [hg] at h
      simp only at h
      cases hq : guardA ops s.tmps j want with
      | none => rw [hq] at h; exact h.elim
      | some b =>
        rw [hq] at h
        simp only at h
        cases b with
        | true =>
          obtain ⟨s', h1, h2⟩ := one (by simpa [AIf] using h)
          refine ⟨s', h1, fun K' hK => ?_⟩
          unfold dops
          simp only [hg, hq]
          simpa [AIf] using h2 K' hK
        | false =>
          obtain ⟨s', h1, h2⟩ := dops_ex r (i + 1) (by simpa [AIf] using h)
          refine ⟨s', h1, fun K' hK => ?_⟩
          unfold dops
          simp only [hg, hq]
          simpa [AIf] using h2 K' hK
/-- The end of a walk. -/
def AtQ (e : AEx) (s : ASt) (Q : AEx → ASt → Prop) : Prop := Q e s
/-- One end: whatever holds of it is what the walk comes to. -/
theorem awp_ex : ∀ (c : Code) {Q : AEx → ASt → Prop} {s : ASt}, awp P c Q s → ∃ e s', Q e s' ∧ ∀ Q' : AEx → ASt → Prop, Q' e s' → awp P c Q' s
  | .skip, Q, s, h => ⟨.normal, s, h, fun Q' hq => hq⟩
  | .region id ops draw, Q, s, h => by
    unfold awp at h
    split at h
    · rename_i hd
      obtain ⟨effs, frees, S, h1, h2⟩ := h
      obtain ⟨s', h3, h4⟩ := dops_ex _ _ h2
      refine ⟨.normal, s', h3, fun Q' hq => ?_⟩
      unfold awp
      rw [if_pos hd]
      exact ⟨effs, frees, S, h1, h4 _ hq⟩
    · rename_i hd
      obtain ⟨s', h3, h4⟩ := aops_ex _ h
      refine ⟨.normal, s', h3, fun Q' hq => ?_⟩
      unfold awp
      rw [if_neg hd]
      exact h4 _ hq
  | .seq x y, Q, s, h => by
    unfold awp at h
    obtain ⟨e, s1, h1, h2⟩ := awp_ex x h
    cases e with
    | normal =>
      obtain ⟨e2, s2, h3, h4⟩ := awp_ex y h1
      exact ⟨e2, s2, h3, fun Q' hq => h2 _ (h4 Q' hq)⟩
    | exit id => exact ⟨.exit id, s1, h1, fun Q' hq => h2 (thenQ (awp P y Q') Q') hq⟩
    | ret => exact ⟨.ret, s1, h1, fun Q' hq => h2 (thenQ (awp P y Q') Q') hq⟩
  | .cond c x y, Q, s, h => by
    unfold awp at h
    unfold ACond at h
    split at h
    · rename_i b hb
      cases b with
      | true =>
        obtain ⟨e, s', h1, h2⟩ := awp_ex x (show awp P x Q s by simpa [AIf] using h)
        refine ⟨e, s', h1, fun Q' hq => ?_⟩
        unfold awp ACond
        rw [hb]
        simpa [AIf] using h2 Q' hq
      | false =>
        obtain ⟨e, s', h1, h2⟩ := awp_ex y (show awp P y Q s by simpa [AIf] using h)
        refine ⟨e, s', h1, fun Q' hq => ?_⟩
        unfold awp ACond
        rw [hb]
        simpa [AIf] using h2 Q' hq
    · exact h.elim
  | .block id x, Q, s, h => by
    unfold awp at h
    obtain ⟨e, s1, h1, h2⟩ := awp_ex x h
    cases e with
    | normal => exact ⟨.normal, s1, h1, fun Q' hq => h2 (blockQ id Q') hq⟩
    | ret => exact ⟨.ret, s1, h1, fun Q' hq => h2 (blockQ id Q') hq⟩
    | exit i =>
      by_cases hi : i = id
      · refine ⟨.normal, s1, by simpa [blockQ, hi] using h1, fun Q' hq => h2 (blockQ id Q') (by simpa [blockQ, hi] using hq)⟩
      · refine ⟨.exit i, s1, by simpa [blockQ, hi] using h1, fun Q' hq => h2 (blockQ id Q') (by simpa [blockQ, hi] using hq)⟩
  | .loop x, Q, s, h => by
    unfold awp at h
    obtain ⟨R, n0, ⟨s0, hw0, hR0⟩, hbody⟩ := h
    -- one end from each state of R
    have key : ∀ (N n : Nat) (s1 : ASt), n ≤ N → R s1 n → ∃ e s', Q e s' ∧ ∀ Q' : AEx → ASt → Prop, Q' e s' → ∃ (R' : ASt → Nat → Prop) (m : Nat), R' s1 m ∧
        ∀ s2 n', R' s2 n' → awp P x (fun e s3 => match e with | .normal => ∃ m, m < n' ∧ ∃ s0, Weak s3 s0 ∧ R' s0 m | e => Q' e s3) s2 := by
      intro N
      induction N with
      | zero =>
        intro n s1 hn hR
        obtain ⟨e, s2, h1, h2⟩ := awp_ex x (hbody s1 n hR)
        cases e with
        | normal => obtain ⟨m, hm, _⟩ := h1; omega
        | exit id => exact ⟨.exit id, s2, h1, fun Q' hq => ⟨fun z k => z = s1, 0, rfl, fun z k hz => by subst hz; exact h2 (fun e s3 => match e with | .normal => _ | e => Q' e s3) hq⟩⟩
        | ret => exact ⟨.ret, s2, h1, fun Q' hq => ⟨fun z k => z = s1, 0, rfl, fun z k hz => by subst hz; exact h2 (fun e s3 => match e with | .normal => _ | e => Q' e s3) hq⟩⟩
      | succ N ih =>
        intro n s1 hn hR
        obtain ⟨e, s2, h1, h2⟩ := awp_ex x (hbody s1 n hR)
        cases e with
        | normal =>
          obtain ⟨m, hm, s3, hw, hR3⟩ := h1
          obtain ⟨e', s', g1, g2⟩ := ih m s3 (by omega) hR3
          refine ⟨e', s', g1, fun Q' hq => ?_⟩
          obtain ⟨R', k, r1, r2⟩ := g2 Q' hq
          refine ⟨fun z j => (z = s1 ∧ j = k + 1) ∨ (R' z j ∧ j ≤ k), k + 1, .inl ⟨rfl, rfl⟩, fun z j hz => ?_⟩
          rcases hz with ⟨rfl, rfl⟩ | ⟨hz, hj⟩
          · exact h2 (fun e s3 => match e with | .normal => _ | e => Q' e s3) ⟨k, Nat.lt_succ_self _, s3, hw, .inr ⟨r1, Nat.le_refl _⟩⟩
          · obtain ⟨e4, s4, w1, w2⟩ := awp_ex x (r2 z j hz)
            refine w2 (fun e s3 => match e with | .normal => _ | e => Q' e s3) ?_
            cases e4 with
            | normal => obtain ⟨m4, hm4, s5, hw5, hR5⟩ := w1; exact ⟨m4, hm4, s5, hw5, .inr ⟨hR5, by omega⟩⟩
            | exit id => exact w1
            | ret => exact w1
        | exit id => exact ⟨.exit id, s2, h1, fun Q' hq => ⟨fun z k => z = s1, 0, rfl, fun z k hz => by subst hz; exact h2 (fun e s3 => match e with | .normal => _ | e => Q' e s3) hq⟩⟩
        | ret => exact ⟨.ret, s2, h1, fun Q' hq => ⟨fun z k => z = s1, 0, rfl, fun z k hz => by subst hz; exact h2 (fun e s3 => match e with | .normal => _ | e => Q' e s3) hq⟩⟩
    obtain ⟨e, s', h1, h2⟩ := key n0 n0 s0 (Nat.le_refl _) hR0
    refine ⟨e, s', h1, fun Q' hq => ?_⟩
    obtain ⟨R', m, r1, r2⟩ := h2 Q' hq
    unfold awp
    exact ⟨R', m, ⟨s0, hw0, r1⟩, r2⟩
  | .exit id, Q, s, h => ⟨.exit id, s, h, fun Q' hq => hq⟩
  | .ret, Q, s, h => ⟨.ret, s, h, fun Q' hq => hq⟩
  | .label .., Q, s, h => by unfold awp at h; exact h.elim
  | .goto .., Q, s, h => by unfold awp at h; exact h.elim
  | .refuse .., Q, s, h => by unfold awp at h; exact h.elim
theorem awp_mono (c : Code) {Q Q' : AEx → ASt → Prop} {s : ASt} (h : awp P c Q s) (hq : ∀ e s', Q e s' → Q' e s') : awp P c Q' s := by
  obtain ⟨e, s', h1, h2⟩ := awp_ex c h
  exact h2 Q' (hq e s' h1)
/-- Cut: what is asked behind the first part is told. -/
theorem awp_cut {a b : Code} {Q : AEx → ASt → Prop} {s : ASt} (R : ASt → Prop) (h : awp P a (thenQ R Q) s) (h2 : ∀ s', R s' → awp P b Q s') : awp P (.seq a b) Q s := by
  unfold awp
  refine awp_mono a h fun e s' hq => ?_
  cases e with
  | normal => exact h2 s' hq
  | exit id => exact hq
  | ret => exact hq
/-- A BODY GIVES A CONTRACT with its one result. -/
theorem dcall_of_body (hm : P.follows .mixedOrders = true) {f : FuncId} {fn : Func} {c : Code} {n : Nat} {rs : List ResultVar} (hf : P.funcs[f]? = some fn) (hb : fn.body = some c) (hn : fn.ntmps = n) (hrs : fn.results = rs.toArray)
    (hname : (fn.name == "runtime.NumGoroutine") = false) {args : List AV} {H : AH} {nx : Nat} {Q : AV → AH → Nat → Prop}
    (h : awp P c (bodyQ P rs Q) ⟨args ++ List.replicate (n - args.length) (.tup []), H, nx⟩) : ACallD P f args H nx Q := by
  obtain ⟨e, s', h1, h2⟩ := awp_ex c h
  have fin : ∃ l, resA P s'.H s'.tmps rs = some l ∧ l.1 ∧ Q (packA l.2) s'.H s'.nx := by
    cases e with
    | exit id => exact h1.elim
    | normal =>
      simp only [bodyQ] at h1
      split at h1
      · rename_i l hl; exact ⟨l, hl, h1.1, h1.2⟩
      · exact h1.elim
    | ret =>
      simp only [bodyQ] at h1
      split at h1
      · rename_i l hl; exact ⟨l, hl, h1.1, h1.2⟩
      · exact h1.elim
  obtain ⟨l, hl, hp, hq⟩ := fin
  refine ⟨_, _, _, call_of_body hm hf hb hn hrs hname (r := packA l.2) (H' := s'.H) (nx' := s'.nx) (h2 _ ?_), hq⟩
  cases e with
  | exit id => exact h1.elim
  | normal => simp only [bodyQ, hl]; exact ⟨hp, trivial, trivial, trivial⟩
  | ret => simp only [bodyQ, hl]; exact ⟨hp, trivial, trivial, trivial⟩
theorem dcall_body (hm : P.follows .mixedOrders = true) {f : FuncId} {fn : Func} (hf : P.funcs[f]? = some fn) (c : Code) (hb : fn.body = some c) {n : Nat} (hn : fn.ntmps = n) {rs : List ResultVar} (hrs : fn.results = rs.toArray)
    (hname : (fn.name == "runtime.NumGoroutine") = false) {args : List AV} {H : AH} {nx : Nat} {Q : AV → AH → Nat → Prop} (hl : args.length ≤ n)
    (h : awp P c (bodyQ P rs Q) ⟨initT n args, H, nx⟩) : ACallD P f args H nx Q :=
  dcall_of_body hm hf hb hn hrs hname (by rw [initT_eq n args hl]; exact h)
theorem ECallB.law {g : FuncId} {args : List AV} {s : ASt} {Q K : AV → AH → Nat → Prop} {w : Box K} (h : ACallD P g args s.H s.nx Q) (k : ∀ r H' nx', Q r H' nx' → K r H' nx') : ECallB P (.fn g []) args s K w :=
  ⟨by simp only [List.append_nil]; exact h.mono k⟩
end
end Go.TH

/-
  TH, part 25: behind a call: new places are numbered anew, or only read from then on.
-/
set_option linter.unusedVariables false
set_option linter.unusedSimpArgs false
namespace Go.TH
open Go

/-- Where a place is kept. -/
def placeL : List (Nat × Nat) → Nat → Nat → Nat → Option Nat
  | [], _, _, _ => none
  | p :: r, k, id, ver => if p.1 = id ∧ p.2 = ver then some k else placeL r (k + 1) id ver
theorem placeL_some : ∀ {L : List (Nat × Nat)} {k id ver j : Nat}, placeL L k id ver = some j → ∃ i, j = k + i ∧ L[i]? = some (id, ver)
  | [], k, id, ver, j, h => by cases h
  | p :: r, k, id, ver, j, h => by
    unfold placeL at h
    split at h
    · rename_i hp
      cases h
      exact ⟨0, by omega, by simp [← hp.1, ← hp.2]⟩
    · obtain ⟨i, h1, h2⟩ := placeL_some h
      exact ⟨i + 1, by omega, by simpa using h2⟩
theorem placeL_none : ∀ {L : List (Nat × Nat)} {k id ver : Nat}, placeL L k id ver = none → (id, ver) ∉ L
  | [], k, id, ver, h => by simp
  | p :: r, k, id, ver, h => by
    unfold placeL at h
    split at h
    · cases h
    · rename_i hp
      have := placeL_none h
      intro hm
      rcases List.mem_cons.1 hm with e | hm
      · exact hp ⟨by rw [← e], by rw [← e]⟩
      · exact this hm
/-- What becomes of a place's name. 'd': how deep places that are not kept are pictured. -/
def keepR (nx : Nat) (L : List (Nat × Nat)) (H : AH) : Nat → AV → AV
  | 0, .ptr id ver off => if id < nx then .ptr id ver off else match placeL L nx id ver with
    | some k => .ptr k 0 off
    | none => .junk
  | 0, .msl id ver sz off n => if id < nx then .msl id ver sz off n else match placeL L nx id ver with
    | some k => .msl k 0 sz off n
    | none => .junk
  | d + 1, .ptr id ver off => if id < nx then .ptr id ver off else match placeL L nx id ver with
    | some k => .ptr k 0 off
    | none => derefA H (List.map (mapRef (keepR nx L H d))) (.ptr id ver off)
  | d + 1, .msl id ver sz off n => if id < nx then .msl id ver sz off n else match placeL L nx id ver with
    | some k => .msl k 0 sz off n
    | none => derefA H (List.map (mapRef (keepR nx L H d))) (.msl id ver sz off n)
  | _, a => a
def keepA (nx : Nat) (L : List (Nat × Nat)) (H : AH) (d : Nat) (a : AV) : AV := mapRef (keepR nx L H d) a

mutual
/-- Names of places below 'n' alone. -/
def refsLt (n : Nat) : AV → Prop
  | .sl _ _ cs => refsLtL n cs
  | .ro cs => refsLtL n cs
  | .agg cs => refsLtL n cs
  | .tup cs => refsLtL n cs
  | .fn _ cs => refsLtL n cs
  | .ptr id _ _ => id < n
  | .msl id _ _ _ _ => id < n
  | _ => True
def refsLtL (n : Nat) : List AV → Prop
  | [] => True
  | a :: l => refsLt n a ∧ refsLtL n l
end
theorem refsLtL_iff {n : Nat} : ∀ {l : List AV}, refsLtL n l ↔ ∀ a ∈ l, refsLt n a
  | [] => by simp [refsLtL]
  | a :: l => by simp [refsLtL, refsLtL_iff (l := l)]
theorem Rep.refs {W : World} {M : Nat → Option Ent} {F : Nat → Prop} {n : Nat} (hM : ∀ id, n ≤ id → M id = none) {v : Value} {a : AV} (r : Rep W M F v a) : refsLt n a := by
  have pt : ∀ {vs : List Value} {cells : List AV}, vs.length = cells.length → (∀ (j : Nat) (v : Value) (a : AV), vs[j]? = some v → cells[j]? = some a → refsLt n a) → refsLtL n cells := by
    intro vs cells hl h
    rw [refsLtL_iff]
    intro a ha
    obtain ⟨j, hj⟩ := List.mem_iff_getElem?.1 ha
    have hjl : j < vs.length := by rw [hl]; exact (List.getElem?_eq_some_iff.1 hj).1
    exact h j _ a (List.getElem?_eq_getElem hjl) hj
  have lt : ∀ {id : Nat} {e : Ent}, M id = some e → id < n := fun {id e} h => Nat.lt_of_not_le fun hn => by rw [hM id hn] at h; cases h
  induction r with
  | int k n => simp [refsLt]
  | bool b => simp [refsLt]
  | str s => simp [refsLt]
  | sl ad n c t cells vs hn ht hF hs hl hc hr ih => simp only [refsLt]; exact pt hl ih
  | sl0 A n c t hn ht => simp [refsLt, refsLtL]
  | ro ad cells vs hF hs hl hc hr ih => simp only [refsLt]; exact pt hl ih
  | ptr id ver off b hm => simp only [refsLt]; exact lt hm
  | ptrOld v id ver off e hm hv => simp only [refsLt]; exact lt hm
  | msl id ver sz off n c b cs T fz hm hn hb hcap => simp only [refsLt]; exact lt hm
  | mslNil A id ver sz off b hm => simp only [refsLt]; exact lt hm
  | mslOld v id ver sz off n e hm hv => simp only [refsLt]; exact lt hm
  | agg vs cells hl h1 hr ih => simp only [refsLt]; exact pt hl ih
  | tup vs as hl hr ih => simp only [refsLt]; exact pt hl ih
  | fn f vs as hl hr ih => simp only [refsLt]; exact pt hl ih
  | nilp => simp [refsLt]
  | junk v => simp [refsLt]
  | unk b => simp [refsLt]
theorem Rep.low {W : World} {M M' : Nat → Option Ent} {F F' : Nat → Prop} {n : Nat} (hM : ∀ id, id < n → M' id = M id) (hF : ∀ b, F b → F' b) {v : Value} {a : AV} (r : Rep W M F v a) : refsLt n a → Rep W M' F' v a := by
  have pt : ∀ {vs : List Value} {cells : List AV}, refsLtL n cells → (∀ (j : Nat) (v : Value) (a : AV), vs[j]? = some v → cells[j]? = some a → refsLt n a → Rep W M' F' v a) →
      ∀ (j : Nat) (v : Value) (a : AV), vs[j]? = some v → cells[j]? = some a → Rep W M' F' v a :=
    fun {vs cells} h ih j v a h1 h2 => ih j v a h1 h2 (refsLtL_iff.1 h a (List.mem_of_getElem? h2))
  induction r with
  | int k n => exact fun _ => .int k n
  | bool b => exact fun _ => .bool b
  | str s => exact fun _ => .str s
  | sl ad n c t cells vs hn ht hF' hs hl hc hr ih => exact fun h => .sl ad n c t cells vs hn ht (hF _ hF') hs hl hc (pt (by simpa [refsLt] using h) ih)
  | sl0 A n c t hn ht => exact fun _ => .sl0 A n c t hn ht
  | ro ad cells vs hF' hs hl hc hr ih => exact fun h => .ro ad cells vs (hF _ hF') hs hl hc (pt (by simpa [refsLt] using h) ih)
  | ptr id ver off b hm => exact fun h => .ptr id ver off b (by rw [hM id (by simpa [refsLt] using h)]; exact hm)
  | ptrOld v id ver off e hm hv => exact fun h => .ptrOld v id ver off e (by rw [hM id (by simpa [refsLt] using h)]; exact hm) hv
  | msl id ver sz off n c b cs T fz hm hn hb hcap => exact fun h => .msl id ver sz off n c b cs T fz (by rw [hM id (by simpa [refsLt] using h)]; exact hm) hn hb hcap
  | mslNil A id ver sz off b hm => exact fun h => .mslNil A id ver sz off b (by rw [hM id (by simpa [refsLt] using h)]; exact hm)
  | mslOld v id ver sz off n e hm hv => exact fun h => .mslOld v id ver sz off n e (by rw [hM id (by simpa [refsLt] using h)]; exact hm) hv
  | agg vs cells hl h1 hr ih => exact fun h => .agg vs cells hl h1 (pt (by simpa [refsLt] using h) ih)
  | tup vs as hl hr ih => exact fun h => .tup vs as hl (pt (by simpa [refsLt] using h) ih)
  | fn f vs as hl hr ih => exact fun h => .fn f vs as hl (pt (by simpa [refsLt] using h) ih)
  | nilp => exact fun _ => .nilp
  | junk v => exact fun _ => .junk v
  | unk b => exact fun _ => .unk b

/-- What is kept is alive, and each place once. -/
structure KeepOk (nx : Nat) (L : List (Nat × Nat)) (H' : AH) : Prop where
  live : ∀ p ∈ L, nx ≤ p.1 ∧ ∃ cells, H' p.1 = .live p.2 cells
  once : (L.map (·.1)).Nodup
/-- The heap behind it. -/
structure KeepH (nx : Nat) (L : List (Nat × Nat)) (d : Nat) (H H' H2 : AH) : Prop where
  old : ∀ i, i < nx → H2 i = .dead ∨ (H2 i = H' i ∧ (H' i = H i ∨ ∃ ver cells, H' i = .live ver cells ∧ pureL cells = true))
  new : ∀ k p, L[k]? = some p → H2 (nx + k) = .dead ∨ ∃ cells, H' p.1 = .live p.2 cells ∧ H2 (nx + k) = .live 0 (cells.map (keepA nx L H' d))
  out : ∀ i, nx + L.length ≤ i → H2 i = .dead ∨ H2 i = H i

section
variable {base nx nx' : Nat} {κ κ' : Cx} {H H' H2 : AH} {L : List (Nat × Nat)} {d : Nat}
def keepM (κ' : Cx) (nx : Nat) (L : List (Nat × Nat)) (i : Nat) : Option Ent :=
  if i < nx then κ'.M i else match L[i - nx]? with
    | some p => (κ'.M p.1).map fun e => ⟨0, e.blk⟩
    | none => none
def keepF (κ' : Cx) (nx : Nat) (L : List (Nat × Nat)) (H' : AH) (b : Nat) : Prop :=
  κ'.F b ∨ ∃ id ver cells e, nx ≤ id ∧ H' id = .live ver cells ∧ placeL L nx id ver = none ∧ κ'.M id = some e ∧ e.blk = some b
def keepC (κ' : Cx) (nx : Nat) (L : List (Nat × Nat)) (H' : AH) : Cx := ⟨κ'.W, keepM κ' nx L, keepF κ' nx L H'⟩
theorem keepM_lt {i : Nat} (h : i < nx) : keepM κ' nx L i = κ'.M i := by simp [keepM, h]
theorem keepM_at {i : Nat} {p : Nat × Nat} (h : L[i]? = some p) : keepM κ' nx L (nx + i) = (κ'.M p.1).map fun e => ⟨0, e.blk⟩ := by
  have : ¬ nx + i < nx := by omega
  simp only [keepM, if_neg this, Nat.add_sub_cancel_left, h]
theorem keep_ref (hi : Inv base κ' H' nx') (hk : KeepOk nx L H') : ∀ (d : Nat) (v : Value) (a : AV), Rep κ'.W κ'.M κ'.F v a → (∃ id ver off, a = .ptr id ver off) ∨ (∃ id ver sz off n, a = .msl id ver sz off n) →
    Rep κ'.W (keepM κ' nx L) (keepF κ' nx L H') v (keepR nx L H' d a) := by
  have kept : ∀ {id ver k : Nat}, placeL L nx id ver = some k → ∃ cells, H' id = .live ver cells ∧ ∀ e, κ'.M id = some e → keepM κ' nx L k = some ⟨0, e.blk⟩ := by
    intro id ver k h
    obtain ⟨i, rfl, h2⟩ := placeL_some h
    obtain ⟨_, cells, h3⟩ := hk.live _ (List.mem_of_getElem? h2)
    refine ⟨cells, h3, fun e he => ?_⟩
    rw [keepM_at h2, he]
    rfl
  have frz : ∀ {id ver : Nat} {cells : List AV} {b : Nat}, ¬ id < nx → placeL L nx id ver = none → H' id = .live ver cells → κ'.M id = some ⟨ver, some b⟩ → keepF κ' nx L H' b :=
    fun {id ver cells b} h1 h2 h3 h4 => .inr ⟨id, ver, cells, _, Nat.le_of_not_lt h1, h3, h2, h4, rfl⟩
  intro d
  induction d with
  | zero =>
    rintro v a hr (⟨id, ver, off, rfl⟩ | ⟨id, ver, sz, off, n, rfl⟩)
    · simp only [keepR]
      split
      · rename_i hlt
        exact hr.low (fun i hi => keepM_lt hi) (fun b hb => .inl hb) hlt
      · split
        · rename_i k hp
          obtain ⟨cells, hl, hm⟩ := kept hp
          obtain ⟨b, rfl, hb⟩ := hi.ptr_inv hl hr
          exact .ptr _ _ _ b (hm _ hb)
        · exact .junk v
    · simp only [keepR]
      split
      · rename_i hlt
        exact hr.low (fun i hi => keepM_lt hi) (fun b hb => .inl hb) hlt
      · split
        · rename_i k hp
          obtain ⟨cells, hl, hm⟩ := kept hp
          rcases hi.msl_inv hl hr with ⟨b, c, cs, T, fz, rfl, hb, hn, hh, hcap⟩ | ⟨A, b, rfl, hb, rfl⟩
          · exact .msl _ _ _ _ _ c b cs T fz (hm _ hb) hn hh hcap
          · exact .mslNil _ _ _ _ _ _ (hm _ hb)
        · exact .junk v
  | succ d ih =>
    have cells : ∀ {vs : List Value} {cs : List AV}, Reps κ' vs cs → Reps (keepC κ' nx L H') vs (cs.map (mapRef (keepR nx L H' d))) := by
      intro vs cs h
      refine ⟨by simp [h.1], fun j v a h1 h2 => ?_⟩
      rw [List.getElem?_map] at h2
      cases hc : cs[j]? with
      | none => rw [hc] at h2; cases h2
      | some x => rw [hc] at h2; cases h2; exact mapRef_rep (fun b hb => .inl hb) _ ih (h.2 j v x h1 hc)
    rintro v a hr (⟨id, ver, off, rfl⟩ | ⟨id, ver, sz, off, n, rfl⟩)
    · simp only [keepR]
      split
      · rename_i hlt
        exact hr.low (fun i hi => keepM_lt hi) (fun b hb => .inl hb) hlt
      · rename_i hlt
        split
        · rename_i k hp
          obtain ⟨cells, hl, hm⟩ := kept hp
          obtain ⟨b, rfl, hb⟩ := hi.ptr_inv hl hr
          exact .ptr _ _ _ b (hm _ hb)
        · rename_i hp
          cases hl : H' id with
          | dead => simp only [derefA, hl]; exact .junk v
          | live v' cs =>
            simp only [derefA, hl]
            split
            · rename_i hv
              subst hv
              obtain ⟨b, rfl, hm⟩ := hi.ptr_inv hl hr
              obtain ⟨_, _, vs, rest, T, hb, h1, hrs⟩ := hi.place hl hm
              have hca := (cellsAt_block (κ := κ') hb h1).drop off
              rw [add_lit, Nat.zero_add] at hca
              exact Rep.ro_mk (κ := keepC κ' nx L H') (frz hlt hp hl hm) hca (cells (hrs.drop off))
            · exact .junk v
    · simp only [keepR]
      split
      · rename_i hlt
        exact hr.low (fun i hi => keepM_lt hi) (fun b hb => .inl hb) hlt
      · rename_i hlt
        split
        · rename_i k hp
          obtain ⟨cells, hl, hm⟩ := kept hp
          rcases hi.msl_inv hl hr with ⟨b, c, cs, T, fz, rfl, hb, hn, hh, hcap⟩ | ⟨A, b, rfl, hb, rfl⟩
          · exact .msl _ _ _ _ _ c b cs T fz (hm _ hb) hn hh hcap
          · exact .mslNil _ _ _ _ _ _ (hm _ hb)
        · rename_i hp
          cases hl : H' id with
          | dead => simp only [derefA, hl]; exact .junk v
          | live v' cs =>
            simp only [derefA, hl]
            split
            · rename_i hv
              subst hv
              rcases hi.msl_inv hl hr with ⟨b, c, cs', T, fz, rfl, hm, hn, hb0, hcap⟩ | ⟨A, b0, rfl, hm, hn⟩
              · obtain ⟨_, _, vs, rest, T', hb, h1, hrs⟩ := hi.place hl hm
                have hca := ((cellsAt_block (κ := κ') hb h1).drop off).take (n * sz)
                rw [add_lit, Nat.zero_add] at hca
                exact Rep.sl_mk (κ := keepC κ' nx L H') hn (fun h => by cases h) (.inr ⟨_, _, rfl, frz hlt hp hl hm, hca, cells ((hrs.drop off).take (n * sz))⟩)
              · subst hn
                simp only [Nat.zero_mul, List.take_zero, List.map_nil]
                exact .sl0 A 0 0 false (Nat.le_refl _) (fun h => by cases h)
            · exact .junk v
theorem keep_rep (hi : Inv base κ' H' nx') (hk : KeepOk nx L H') (d : Nat) {v : Value} {a : AV} (h : Rep κ'.W κ'.M κ'.F v a) : Rep κ'.W (keepM κ' nx L) (keepF κ' nx L H') v (keepA nx L H' d a) :=
  mapRef_rep (fun b hb => .inl hb) _ (keep_ref hi hk d) h
theorem keep_reps (hi : Inv base κ' H' nx') (hk : KeepOk nx L H') (d : Nat) {vs : List Value} {cs : List AV} (h : Reps κ' vs cs) : Reps (keepC κ' nx L H') vs (cs.map (keepA nx L H' d)) := by
  refine ⟨by simp [h.1], fun j v a h1 h2 => ?_⟩
  rw [List.getElem?_map] at h2
  cases hc : cs[j]? with
  | none => rw [hc] at h2; cases h2
  | some x => rw [hc] at h2; cases h2; exact keep_rep hi hk d (h.2 j v x h1 hc)
theorem keep_new {b : Nat} (hi : Inv base κ' H' nx') (h : keepF κ' nx L H' b) : κ'.F b ∨ (base ≤ b ∧ b < κ'.W.heap.size) := by
  rcases h with h | ⟨id, ver, cells, e, h1, h2, h3, h4, h5⟩
  · exact .inl h
  · obtain ⟨e', he', _, hh⟩ := hi.live id ver cells h2
    rw [h4] at he'
    cases he'
    refine .inr ⟨?_, hh.lt h5⟩
    unfold Held at hh
    rw [h5] at hh
    exact hh.1
/-- The state behind it. -/
theorem keep_all (h0 : Inv base κ H nx) (hext : Ext base κ κ') (hi : Inv base κ' H' nx') (hk : KeepOk nx L H') (hh : KeepH nx L d H H' H2) :
    Ext base κ (keepC κ' nx L H') ∧ Inv base (keepC κ' nx L H') H2 (nx + L.length) := by
  have ev : Ev κ (keepC κ' nx L H') := by
    refine ⟨fun b hb => ⟨.inl (hext.ev.fr b hb).1, (hext.ev.fr b hb).2⟩, fun id e he => ?_, hext.ev.shp⟩
    have hlt : id < nx := Nat.lt_of_not_le fun h => by rw [h0.hM id h] at he; cases he
    obtain ⟨e', h1, h2⟩ := hext.ev.pl id e he
    exact ⟨e', (keepM_lt (κ' := κ') (L := L) hlt).trans h1, h2⟩
  -- a block that is held stays so
  have held : ∀ {id ver : Nat} {cells cells2 : List AV} {e : Ent}, H' id = .live ver cells → κ'.M id = some e → Held base κ' e cells → (id < nx ∨ ∃ v, placeL L nx id ver = some v) →
      (∀ vs, Reps κ' vs cells → Reps (keepC κ' nx L H') vs cells2) → (cells = [] → cells2 = []) → ∀ w, Held base (keepC κ' nx L H') ⟨w, e.blk⟩ cells2 := by
    intro id ver cells cells2 e hl hm hd hid hrs hnil w
    unfold Held at *
    cases hb : e.blk with
    | none => rw [hb] at hd; exact hnil hd
    | some b =>
      rw [hb] at hd
      obtain ⟨g1, g2, vs, rest, T, g3, g4, g5⟩ := hd
      refine ⟨g1, ?_, vs, rest, T, g3, g4, hrs vs g5⟩
      rintro (hF | ⟨id2, ver2, cells2, e2, k1, k2, k3, k4, k5⟩)
      · exact g2 hF
      · by_cases he : id2 = id
        · subst he
          rw [hl] at k2
          cases k2
          rcases hid with hid | ⟨v, hv⟩
          · omega
          · rw [hv] at k3; cases k3
        · rcases hi.inj id2 id e2 e b he k4 hm k5 hb with h | h
          · rw [h] at k2; cases k2
          · rw [h] at hl; cases hl
  refine ⟨⟨ev, hext.os, hext.tape, hext.output, hext.size, hext.below, fun b hb => ?_⟩, ⟨fun b hb => ?_, hi.hbase, fun id hid => ?_, fun id ver cells hl => ?_, fun i j ei ej b hij h1 h2 h3 h4 => ?_⟩⟩
  · rcases keep_new hi hb with h | h
    · exact hext.newF b h
    · exact .inr h.1
  · rcases keep_new hi hb with h | h
    · exact hi.hF b h
    · exact h.2
  · have : ¬ id < nx := by omega
    have h2 : L[id - nx]? = none := List.getElem?_eq_none (by omega)
    simp [keepC, keepM, this, h2]
  · by_cases hlt : id < nx
    · rcases hh.old id hlt with h | ⟨h, h'⟩
      · rw [h] at hl; cases hl
      · rw [h] at hl
        obtain ⟨e, he, hv, hd⟩ := hi.live id ver cells hl
        refine ⟨e, (keepM_lt hlt).trans he, hv, ?_⟩
        have key : ∀ vs, Reps κ' vs cells → Reps (keepC κ' nx L H') vs cells := by
          intro vs hvs
          rcases h' with h' | ⟨ver2, cells2, h2, hp⟩
          · rw [h'] at hl
            obtain ⟨e0, he0, hv0, hd0⟩ := h0.live id ver cells hl
            have hrefs : refsLtL nx cells := by
              unfold Held at hd0
              cases hb : e0.blk with
              | none => rw [hb] at hd0; subst hd0; simp [refsLtL]
              | some b =>
                rw [hb] at hd0
                obtain ⟨_, _, vs0, _, _, _, _, hr0⟩ := hd0
                rw [refsLtL_iff]
                intro a ha
                obtain ⟨j, hj⟩ := List.mem_iff_getElem?.1 ha
                have hjl : j < vs0.length := by rw [hr0.1]; exact (List.getElem?_eq_some_iff.1 hj).1
                exact (hr0.2 j _ a (List.getElem?_eq_getElem hjl) hj).refs h0.hM
            exact ⟨hvs.1, fun j v a h1 h2 => (hvs.2 j v a h1 h2).low (fun i hi => keepM_lt hi) (fun b hb => .inl hb) (refsLtL_iff.1 hrefs a (List.mem_of_getElem? h2))⟩
          · rw [h2] at hl
            cases hl
            have hp' : ∀ a ∈ cells, pureA a = true := fun a ha => by
              obtain ⟨j, hj⟩ := List.mem_iff_getElem?.1 ha
              exact pureL_get hp hj
            exact ⟨hvs.1, fun j v a h1 h2 => (((hvs.2 j v a h1 h2).pure (M' := keepM κ' nx L) (hp' a (List.mem_of_getElem? h2)))).low (n := 0) (fun i hi => by omega) (fun b hb => .inl hb)
              ((((hvs.2 j v a h1 h2).pure (M' := fun _ => none) (hp' a (List.mem_of_getElem? h2)))).refs (fun _ _ => rfl))⟩
        have := held hl he hd (.inl hlt) key (fun h => h) e.ver
        exact this
    · obtain ⟨k, rfl⟩ : ∃ k, id = nx + k := ⟨id - nx, by omega⟩
      by_cases hkl : k < L.length
      · have hp : L[k]? = some L[k] := List.getElem?_eq_getElem hkl
        rcases hh.new k _ hp with h | ⟨cells0, h1, h2⟩
        · rw [h] at hl; cases hl
        · rw [h2] at hl
          cases hl
          obtain ⟨e, he, hv, hd⟩ := hi.live _ _ _ h1
          refine ⟨⟨0, e.blk⟩, by show keepM κ' nx L (nx + k) = _; rw [keepM_at hp, he]; rfl, rfl, ?_⟩
          refine held h1 he hd (.inr ?_) (fun vs h => keep_reps hi hk d h) (fun h => by rw [h]; rfl) 0
          cases hpl : placeL L nx L[k].1 L[k].2 with
          | some v => exact ⟨v, rfl⟩
          | none => exact absurd (List.getElem_mem hkl) (placeL_none hpl)
      · rcases hh.out _ (show nx + L.length ≤ nx + k by omega) with h | h
        · rw [h] at hl; cases hl
        · rw [h] at hl
          have := h0.live_lt hl
          omega
  · -- one block, one place
    have src : ∀ {i : Nat} {ei : Ent}, keepM κ' nx L i = some ei → ei.blk = some b → (i < nx ∧ κ'.M i = some ei) ∨ ∃ k p e, i = nx + k ∧ L[k]? = some p ∧ κ'.M p.1 = some e ∧ e.blk = some b := by
      intro i ei hm hb
      unfold keepM at hm
      split at hm
      · rename_i hlt; exact .inl ⟨hlt, hm⟩
      · rename_i hlt
        split at hm
        · rename_i p hp
          cases hq : κ'.M p.1 with
          | none => rw [hq] at hm; cases hm
          | some e =>
            rw [hq] at hm
            cases hm
            exact .inr ⟨i - nx, p, e, by omega, hp, hq, hb⟩
        · cases hm
    rcases src h1 h3 with ⟨i1, i2⟩ | ⟨k, p, e, rfl, p1, p2, p3⟩
    · rcases src h2 h4 with ⟨j1, j2⟩ | ⟨k, p, e, rfl, p1, p2, p3⟩
      · rcases hi.inj i j ei ej b hij i2 j2 h3 h4 with h | h
        · rcases hh.old i i1 with g | ⟨g, _⟩
          · exact .inl g
          · exact .inl (g.trans h)
        · rcases hh.old j j1 with g | ⟨g, _⟩
          · exact .inr g
          · exact .inr (g.trans h)
      · obtain ⟨q1, cells, q2⟩ := hk.live p (List.mem_of_getElem? p1)
        rcases hi.inj i p.1 ei e b (by omega) i2 p2 h3 p3 with h | h
        · rcases hh.old i i1 with g | ⟨g, _⟩
          · exact .inl g
          · exact .inl (g.trans h)
        · rw [h] at q2; cases q2
    · obtain ⟨q1, cells, q2⟩ := hk.live p (List.mem_of_getElem? p1)
      rcases src h2 h4 with ⟨j1, j2⟩ | ⟨k', p', e', rfl, p1', p2', p3'⟩
      · rcases hi.inj j p.1 ej e b (by omega) j2 p2 h4 p3 with h | h
        · rcases hh.old j j1 with g | ⟨g, _⟩
          · exact .inr g
          · exact .inr (g.trans h)
        · rw [h] at q2; cases q2
      · obtain ⟨q1', cells', q2'⟩ := hk.live p' (List.mem_of_getElem? p1')
        have hne : p.1 ≠ p'.1 := by
          intro he
          have hkk : k ≠ k' := fun h => hij (by rw [h])
          have hk1 : k < L.length := (List.getElem?_eq_some_iff.1 p1).1
          have hk2 : k' < L.length := (List.getElem?_eq_some_iff.1 p1').1
          have hnd := hk.once
          unfold List.Nodup at hnd
          rw [List.pairwise_iff_getElem] at hnd
          obtain ⟨_, e1⟩ := List.getElem?_eq_some_iff.1 p1
          obtain ⟨_, e2⟩ := List.getElem?_eq_some_iff.1 p1'
          rcases Nat.lt_or_gt_of_ne hkk with h | h
          · refine hnd k k' (by simpa using hk1) (by simpa using hk2) h ?_
            simp [e1, e2, he]
          · refine hnd k' k (by simpa using hk2) (by simpa using hk1) h ?_
            simp [e1, e2, he]
        rcases hi.inj p.1 p'.1 e e' b hne p2 p2' p3 p3' with h | h
        · rw [h] at q2; cases q2
        · rw [h] at q2'; cases q2'
end
/-- BEHIND A CALL. -/
theorem CallC.keep {P : Program} {f : FuncId} {args : List AV} {H : AH} {nx : Nat} {r : AV} {H' : AH} {nx' : Nat} (h : CallC P f args H nx r H' nx') {L : List (Nat × Nat)} {d : Nat} {H2 : AH}
    (hk : KeepOk nx L H') (hh : KeepH nx L d H H' H2) : CallC P f args H nx (keepA nx L H' d r) H2 (nx + L.length) := by
  refine ⟨h.1, fun base κ vs hi hr => (h.2 base κ vs hi hr).mono ?_⟩
  rintro e W' ⟨v, κ', rfl, rfl, hrep, hext, hinv⟩
  obtain ⟨h1, h2⟩ := keep_all hi hext hinv hk hh
  exact ⟨v, keepC κ' nx L H', rfl, rfl, keep_rep hinv hk d hrep, h1, h2⟩
theorem ACallD.keep {P : Program} {f : FuncId} {args : List AV} {H : AH} {nx : Nat} {Q Q2 : AV → AH → Nat → Prop} (h : ACallD P f args H nx Q)
    (hk : ∀ r H' nx', Q r H' nx' → ∃ L d H2, KeepOk nx L H' ∧ KeepH nx L d H H' H2 ∧ Q2 (keepA nx L H' d r) H2 (nx + L.length)) : ACallD P f args H nx Q2 := by
  obtain ⟨r, H', nx', h1, h2⟩ := h
  obtain ⟨L, d, H2, k1, k2, k3⟩ := hk r H' nx' h2
  exact ⟨_, _, _, h1.keep k1 k2, k3⟩
end Go.TH

/-
  TH, part 26: loops over what stands in the frame; empty slices that get a place; what a callee keeps.
-/
set_option linter.unusedVariables false
set_option linter.unusedSimpArgs false
namespace Go.TH
open Go

/-- Some slots of a frame, kept or put anew; the others are forgotten. Told by gaps. -/
def kT : List AV → List (Nat × Option AV) → List AV
  | [], _ => []
  | _ :: T, [] => .junk :: kT T []
  | a :: T, (0, o) :: l => o.getD a :: kT T l
  | _ :: T, (n + 1, o) :: l => .junk :: kT T ((n, o) :: l)
theorem kT_nil {l : List (Nat × Option AV)} : kT [] l = [] := by cases l <;> rfl
theorem kT_end {a : AV} {T : List AV} : kT (a :: T) [] = .junk :: kT T [] := rfl
theorem kT_keep {a : AV} {T : List AV} {l : List (Nat × Option AV)} : kT (a :: T) ((0, none) :: l) = a :: kT T l := rfl
theorem kT_put {a b : AV} {T : List AV} {l : List (Nat × Option AV)} : kT (a :: T) ((0, some b) :: l) = b :: kT T l := rfl
theorem kT_gap {a : AV} {T : List AV} {n : Nat} {o : Option AV} {l : List (Nat × Option AV)} : kT (a :: T) ((n + 1, o) :: l) = .junk :: kT T ((n, o) :: l) := rfl
section
variable {body : (AEx → ASt → Prop) → ASt → Prop} {Q : AEx → ASt → Prop} {w : Box body} {w2 : Box Q} {T : List AV} {H : AH} {nx : Nat}
theorem LoopB.vary {ι : Type} (up : ι → List (Nat × Option AV)) (Hf : ι → AH) (nf : ι → Nat) (μ : ι → Nat) (G : ι → Prop) (i : ι) (h0 : Weak ⟨T, H, nx⟩ ⟨kT T (up i), Hf i, nf i⟩) (hG : G i)
    (step : ∀ i, G i → body (LQ (fun i => ⟨kT T (up i), Hf i, nf i⟩) μ G i Q) ⟨kT T (up i), Hf i, nf i⟩) : LoopB body Q ⟨T, H, nx⟩ w w2 :=
  LoopB.intro _ μ G i h0 hG step
theorem LoopB.weak {s0 s : ASt} (hw : Weak s s0) (h : LoopB body Q s0 .mk .mk) : LoopB body Q s w w2 := by
  obtain ⟨R, n, ⟨s1, h1, h2⟩, h3⟩ := h
  exact ⟨R, n, ⟨s1, hw.trans h1, h2⟩, h3⟩
theorem Weak.go {T T0 : List AV} {H H0 : AH} {nx nx0 : Nat} (h : wkL T T0) (hh : ∀ id, H0 id = H id ∨ H0 id = .dead) (hn : nx ≤ nx0) : Weak ⟨T, H, nx⟩ ⟨T0, H0, nx0⟩ := Weak0.toW ⟨h, hh, hn⟩
theorem Weak.eq {T T0 : List AV} {H H0 : AH} {nx nx0 : Nat} (h : wkL T T0) (hh : H0 = H) (hn : nx ≤ nx0) : Weak ⟨T, H, nx⟩ ⟨T0, H0, nx0⟩ := Weak0.toW ⟨h, fun id => .inl (by rw [hh]), hn⟩
/-- An empty slice gets a place of its own. -/
theorem Weak.nilV (k sz w : Nat) (h : T[k]? = some (.sl 0 true [])) : Weak ⟨T, H, nx⟩ ⟨T.set k (.msl nx w sz 0 0), upd H nx (.live w []), nx + 1⟩ := by
  intro base κ a hs
  let κ' : Cx := ⟨κ.W, fun i => if i = nx then some ⟨w, none⟩ else κ.M i, κ.F⟩
  have hne : ∀ id e, κ.M id = some e → id ≠ nx := fun id e he h => by subst h; rw [hs.inv.hM _ (Nat.le_refl _)] at he; cases he
  have ev : Ev κ κ' := ⟨fun b hb => ⟨hb, rfl⟩, fun id e he => ⟨e, by simp [κ', hne id e he, he], .inr rfl⟩, fun b cs T fz hb => ⟨cs, fz, hb, rfl⟩⟩
  refine ⟨κ', rfl, ⟨⟨hs.inv.hF, hs.inv.hbase, fun id hid => ?_, fun id ver cells hl => ?_, fun i j ei ej b hij h1 h2 h3 h4 => ?_⟩, ?_, hs.defers⟩, ⟨ev, rfl, rfl, rfl, Nat.le_refl _, fun _ _ => rfl, fun _ h => .inl h⟩⟩
  · have : id ≠ nx := by simp only at hid; omega
    simp only [κ', if_neg this]
    exact hs.inv.hM id (by simp only at hid ⊢; omega)
  · by_cases hi : id = nx
    · subst hi
      simp only [upd_same] at hl
      cases hl
      exact ⟨⟨w, none⟩, by simp [κ'], rfl, rfl⟩
    · simp only [upd_ne _ _ hi] at hl
      obtain ⟨e, he, hv, hh⟩ := hs.inv.live id ver cells hl
      exact ⟨e, by simp [κ', hi, he], hv, hh.ev ev (fun _ _ _ h => h) (fun _ _ => rfl)⟩
  · simp only [κ'] at h1 h2
    split at h1
    · cases h1; cases h3
    · split at h2
      · cases h2; cases h4
      · rename_i hi hj
        have := hs.inv.inj i j ei ej b hij h1 h2 h3 h4
        simpa [upd_ne _ _ hi, upd_ne _ _ hj] using this
  · have hr := hs.tmps.ev ev
    refine ⟨by simp [hr.1], fun j v x h1 h2 => ?_⟩
    simp only [List.getElem?_set] at h2
    split at h2
    · rename_i hkj
      subst hkj
      split at h2
      · cases h2
        have h3 := hr.2 k v _ h1 h
        obtain ⟨A, c, rfl, hc, ht, _⟩ := h3.sl_inv
        obtain rfl := ht rfl
        exact .mslNil A nx w sz 0 none (by simp [κ'])
      · cases h2
    · exact hr.2 j v x h1 h2
theorem Weak.nil (k sz : Nat) (h : T[k]? = some (.sl 0 true [])) : Weak ⟨T, H, nx⟩ ⟨T.set k (.msl nx 0 sz 0 0), upd H nx (.live 0 []), nx + 1⟩ := Weak.nilV k sz 0 h
end

/-! ### What is kept behind a call, reckoned -/
section
variable {nx d : Nat} {L : List (Nat × Nat)} {H : AH}
theorem keepA_mapRef (d : Nat) : ∀ a, keepA nx L H d a = mapRef (keepR nx L H d) a := fun _ => rfl
theorem mapRefL_keep (cs : List AV) : mapRefL (keepR nx L H d) cs = cs.map (keepA nx L H d) := by rw [mapRefL_map]; rfl
@[go_sem] theorem keepA_int {k : IntKind} {n : Int} : keepA nx L H d (.int k n) = .int k n := rfl
@[go_sem] theorem keepA_bool {b : Bool} : keepA nx L H d (.bool b) = .bool b := rfl
@[go_sem] theorem keepA_str {b : ByteArray} : keepA nx L H d (.str b) = .str b := rfl
@[go_sem] theorem keepA_nilp : keepA nx L H d .nilp = .nilp := rfl
@[go_sem] theorem keepA_tup {cs : List AV} : keepA nx L H d (.tup cs) = .tup (cs.map (keepA nx L H d)) := by simp only [keepA, mapRef]; rw [mapRefL_keep]
@[go_sem] theorem keepA_agg {cs : List AV} : keepA nx L H d (.agg cs) = .agg (cs.map (keepA nx L H d)) := by simp only [keepA, mapRef]; rw [mapRefL_keep]
@[go_sem] theorem keepA_sl {n : Nat} {t : Bool} {cs : List AV} : keepA nx L H d (.sl n t cs) = .sl n t (cs.map (keepA nx L H d)) := by simp only [keepA, mapRef]; rw [mapRefL_keep]
@[go_sem] theorem keepA_ro {cs : List AV} : keepA nx L H d (.ro cs) = .ro (cs.map (keepA nx L H d)) := by simp only [keepA, mapRef]; rw [mapRefL_keep]
@[go_sem] theorem placeL_nil {k id ver : Nat} : placeL [] k id ver = none := rfl
@[go_sem] theorem placeL_cons {p : Nat × Nat} {r : List (Nat × Nat)} {k id ver : Nat} : placeL (p :: r) k id ver = if p.1 = id ∧ p.2 = ver then some k else placeL r (k + 1) id ver := rfl
def keepM1 (o : Option Nat) (b : ABlk) (nx : Nat) (L : List (Nat × Nat)) (H : AH) (d : Nat) (id ver sz off n : Nat) : AV :=
  if id < nx then .msl id ver sz off n else match o with
    | some k => .msl k 0 sz off n
    | none => match b with
      | .live v cells => if v = ver then .sl n false (((cells.drop off).take (n * sz)).map (keepA nx L H d)) else .junk
      | .dead => .junk
@[go_sem] theorem keepA_msl {id ver sz off n : Nat} : keepA nx L H (d + 1) (.msl id ver sz off n) = keepM1 (placeL L nx id ver) (H id) nx L H d id ver sz off n := by
  simp only [keepA, mapRef, keepR, derefA, keepM1]; try rfl
@[go_sem] theorem keepM1_some {k : Nat} {b : ABlk} {id ver sz off n : Nat} (h : ¬ id < nx) : keepM1 (some k) b nx L H d id ver sz off n = .msl k 0 sz off n := by simp [keepM1, h]
@[go_sem] theorem keepM1_none {v : Nat} {cells : List AV} {id ver sz off n : Nat} (h : ¬ id < nx) : keepM1 none (.live v cells) nx L H d id ver sz off n = if v = ver then .sl n false (((cells.drop off).take (n * sz)).map (keepA nx L H d)) else .junk := by
  simp [keepM1, h]
theorem keepA_pure {a : AV} (h : pureA a = true) : keepA nx L H d a = a := mapRef_id _ a h
theorem map_keep : ∀ {l : List AV}, pureL l = true → l.map (keepA nx L H d) = l
  | [], _ => rfl
  | a :: l, h => by
    simp only [pureL, Bool.and_eq_true] at h
    rw [List.map_cons, keepA_pure h.1, map_keep h.2]
end
/-- The old places, but for one. -/
def OldW (nx rid : Nat) (H' H : AH) : Prop := ∀ i, i < nx → i ≠ rid → H' i = H i
def OldR (nx rid : Nat) (H' H : AH) (X : ABlk) : Prop := ∀ i, i < nx → H' i = if i = rid then X else H i
section
variable {nx rid j : Nat} {H' H : AH} {X b : ABlk}
theorem OldW.refl : OldW nx rid H H := fun _ _ _ => rfl
theorem OldW.new (hj : nx ≤ j) (h : OldW nx rid H' H) : OldW nx rid (upd H' j b) H := fun i hi hr => by rw [upd_ne _ _ (by omega)]; exact h i hi hr
theorem OldW.rd (h : OldW nx rid H' H) : OldW nx rid (upd H' rid b) H := fun i hi hr => by rw [upd_ne _ _ hr]; exact h i hi hr
theorem OldR.base (h : H rid = X) : OldR nx rid H H X := fun i _ => by split <;> simp_all
theorem OldR.set (h : OldW nx rid H' H) : OldR nx rid (upd H' rid X) H X := fun i hi => by
  simp only [upd]
  split
  · rfl
  · rename_i hr; exact h i hi hr
theorem OldR.new (hj : nx ≤ j) (h : OldR nx rid H' H X) : OldR nx rid (upd H' j b) H X := fun i hi => by rw [upd_ne _ _ (by omega)]; exact h i hi
end
/-- No old place is written. -/
def OldN (nx : Nat) (H' H : AH) : Prop := ∀ i, i < nx → H' i = H i
theorem OldN.refl {nx : Nat} {H : AH} : OldN nx H H := fun _ _ => rfl
theorem OldN.new {nx j : Nat} {H' H : AH} {b : ABlk} (hj : nx ≤ j) (h : OldN nx H' H) : OldN nx (upd H' j b) H := fun i hi => by rw [upd_ne _ _ (by omega)]; exact h i hi
section
variable {P : Program} {f : FuncId} {args : List AV} {H : AH} {nx : Nat} {Q : AV → AH → Nat → Prop}
/-- All that is new is only read from then on. -/
theorem ACallD.fin0 (d : Nat) (h : ACallD P f args H nx fun r H' nx' => OldN nx H' H ∧ Q (keepA nx [] H' d r) H nx) : ACallD P f args H nx Q :=
  h.keep fun r H' nx' ⟨h1, h4⟩ => ⟨[], d, H, ⟨fun p hp => by simp at hp, by simp⟩, ⟨fun i hi => .inr ⟨(h1 i hi).symm, .inl (h1 i hi)⟩, fun k p hp => by simp at hp, fun i hi => .inr rfl⟩, by simpa using h4⟩
/-- .. but for one place, which is kept. -/
theorem ACallD.fin1 (d : Nat) (h : ACallD P f args H nx fun r H' nx' => ∃ id ver cs, OldN nx H' H ∧ nx ≤ id ∧ H' id = .live ver cs ∧
      Q (keepA nx [(id, ver)] H' d r) (upd H nx (.live 0 (cs.map (keepA nx [(id, ver)] H' d)))) (nx + 1)) : ACallD P f args H nx Q :=
  h.keep fun r H' nx' ⟨id, ver, cs, h1, h2, h3, h4⟩ => ⟨[(id, ver)], d, upd H nx (.live 0 (cs.map (keepA nx [(id, ver)] H' d))), ⟨fun p hp => by simp at hp; subst hp; exact ⟨h2, cs, h3⟩, by simp⟩,
    ⟨fun i hi => .inr ⟨by rw [upd_ne _ _ (by omega)]; exact (h1 i hi).symm, .inl (h1 i hi)⟩, fun k p hp => by
      cases k with
      | zero => simp at hp; subst hp; exact .inr ⟨cs, h3, by simp [upd]⟩
      | succ k => simp at hp, fun i hi => .inr (upd_ne _ _ (by simp at hi; omega))⟩, by simpa using h4⟩
/-- The same, where one old place is written. -/
theorem ACallD.finR (d rid : Nat) (hrid : rid < nx) (h : ACallD P f args H nx fun r H' nx' => ∃ ver cells, OldR nx rid H' H (.live ver cells) ∧ pureL cells = true ∧ Q (keepA nx [] H' d r) (upd H rid (.live ver cells)) nx) : ACallD P f args H nx Q :=
  h.keep fun r H' nx' ⟨ver, cells, h1, h2, h4⟩ => ⟨[], d, upd H rid (.live ver cells), ⟨fun p hp => by simp at hp, by simp⟩, ⟨fun i hi => .inr ⟨(h1 i hi).symm, by
      rw [h1 i hi]
      split
      · exact .inr ⟨_, _, rfl, h2⟩
      · exact .inl rfl⟩, fun k p hp => by simp at hp, fun i hi => .inr (upd_ne _ _ (by simp at hi; omega))⟩, by simpa using h4⟩
theorem ACallD.finR1 (d rid : Nat) (hrid : rid < nx) (h : ACallD P f args H nx fun r H' nx' => ∃ w cells id ver cs, OldR nx rid H' H (.live w cells) ∧ pureL cells = true ∧ nx ≤ id ∧ H' id = .live ver cs ∧
      Q (keepA nx [(id, ver)] H' d r) (upd (upd H rid (.live w cells)) nx (.live 0 (cs.map (keepA nx [(id, ver)] H' d)))) (nx + 1)) : ACallD P f args H nx Q :=
  h.keep fun r H' nx' ⟨w, cells, id, ver, cs, h1, h2, g1, g2, h4⟩ => ⟨[(id, ver)], d, upd (upd H rid (.live w cells)) nx (.live 0 (cs.map (keepA nx [(id, ver)] H' d))), ⟨fun p hp => by simp at hp; subst hp; exact ⟨g1, cs, g2⟩, by simp⟩,
    ⟨fun i hi => .inr ⟨by rw [upd_ne _ _ (by omega)]; exact (h1 i hi).symm, by
      rw [h1 i hi]
      split
      · exact .inr ⟨_, _, rfl, h2⟩
      · exact .inl rfl⟩, fun k p hp => by
      cases k with
      | zero => simp at hp; subst hp; exact .inr ⟨cs, g2, by simp [upd]⟩
      | succ k => simp at hp, fun i hi => .inr (by rw [upd_ne _ _ (by simp at hi; omega), upd_ne _ _ (by simp at hi; omega)])⟩, by simpa using h4⟩
end
end Go.TH

/-
  TH, part 27: what turns is read off the state; cuts.
-/
set_option linter.unusedVariables false
set_option linter.unusedSimpArgs false
namespace Go.TH
open Go

/-! ### Reading -/
def intOf : AV → Int
  | .int _ n => n
  | _ => 0
def boolOf : AV → Bool
  | .bool b => b
  | _ => false
def strOf : AV → ByteArray
  | .str s => s
  | _ => ⟨#[]⟩
def mlenOf : AV → Nat
  | .msl _ _ _ _ n => n
  | .sl n _ _ => n
  | _ => 0
def cellsOf : ABlk → List AV
  | .live _ cs => cs
  | .dead => []
def verOf : ABlk → Nat
  | .live v _ => v
  | .dead => 0
def slotOf (s : ASt) (k : Nat) : AV := nthA s.tmps k
def blkOf (s : ASt) (i : Nat) : ABlk := s.H i
@[go_sem] theorem intOf_int {k : IntKind} {n : Int} : intOf (.int k n) = n := rfl
@[go_sem] theorem boolOf_bool {b : Bool} : boolOf (.bool b) = b := rfl
@[go_sem] theorem strOf_str {b : ByteArray} : strOf (.str b) = b := rfl
@[go_sem] theorem mlenOf_msl {id ver sz off n : Nat} : mlenOf (.msl id ver sz off n) = n := rfl
@[go_sem] theorem mlenOf_sl {n : Nat} {t : Bool} {cs : List AV} : mlenOf (.sl n t cs) = n := rfl
@[go_sem] theorem cellsOf_live {v : Nat} {cs : List AV} : cellsOf (.live v cs) = cs := rfl
@[go_sem] theorem verOf_live {v : Nat} {cs : List AV} : verOf (.live v cs) = v := rfl
@[go_sem] theorem slotOf_mk {T : List AV} {H : AH} {nx k : Nat} : slotOf ⟨T, H, nx⟩ k = nthA T k := rfl
@[go_sem] theorem blkOf_mk {T : List AV} {H : AH} {nx k : Nat} : blkOf ⟨T, H, nx⟩ k = H k := rfl

def keepP1 (o : Option Nat) (b : ABlk) (nx : Nat) (L : List (Nat × Nat)) (H : AH) (d : Nat) (id ver off : Nat) : AV :=
  if id < nx then .ptr id ver off else match o with
    | some k => .ptr k 0 off
    | none => match b with
      | .live v cells => if v = ver then .ro ((cells.drop off).map (keepA nx L H d)) else .junk
      | .dead => .junk
section
variable {nx d : Nat} {L : List (Nat × Nat)} {H : AH}
@[go_sem] theorem keepA_ptr {id ver off : Nat} : keepA nx L H (d + 1) (.ptr id ver off) = keepP1 (placeL L nx id ver) (H id) nx L H d id ver off := by
  simp only [keepA, mapRef, keepR, derefA, keepP1]; try rfl
@[go_sem] theorem keepP1_some {k : Nat} {b : ABlk} {id ver off : Nat} (h : ¬ id < nx) : keepP1 (some k) b nx L H d id ver off = .ptr k 0 off := by simp [keepP1, h]
end
section
variable {P : Program} {ι : Type}
structure CutQ (f : ASt → ι) (st : ι → ASt) (G : ι → Prop) (s : ASt) : Prop where
  good : G (f s)
  weak : Weak s (st (f s))
@[go_sem] theorem CutQ_eq {f : ASt → ι} {st : ι → ASt} {G : ι → Prop} {s : ASt} : CutQ f st G s = (G (f s) ∧ Weak s (st (f s))) := propext ⟨fun h => ⟨h.1, h.2⟩, fun h => ⟨h.1, h.2⟩⟩
def LF (f : ASt → ι) (st : ι → ASt) (μ : ι → Nat) (G : ι → Prop) (x : ι) (Q : AEx → ASt → Prop) : AEx → ASt → Prop
  | .normal, s2 => G (f s2) ∧ μ (f s2) < μ x ∧ Weak s2 (st (f s2))
  | e, s2 => Q e s2
section
variable {f : ASt → ι} {st : ι → ASt} {μ : ι → Nat} {G : ι → Prop} {x : ι} {Q : AEx → ASt → Prop} {s2 s3 : ASt}
@[go_sem] theorem LF_normal : LF f st μ G x Q .normal s2 = (G (f s2) ∧ μ (f s2) < μ x ∧ Weak s2 (st (f s2))) := rfl
@[go_sem] theorem LF_exit {k : Nat} : LF f st μ G x Q (.exit k) s2 = Q (.exit k) s2 := rfl
@[go_sem] theorem LF_ret : LF f st μ G x Q .ret s2 = Q .ret s2 := rfl
@[congr] theorem LF_congr {e : AEx} (h : s2 = s3) : LF f st μ G x Q e s2 = LF f st μ G x Q e s3 := by rw [h]
end
theorem LoopB.auto {b : Code} {Q : AEx → ASt → Prop} {w : Box (awp P b)} {w2 : Box Q} {T : List AV} {H : AH} {nx : Nat} (f : ASt → ι) (up : ι → List (Nat × Option AV)) (Hf : ι → AH) (nf : ι → Nat) (μ : ι → Nat) (G : ι → Prop)
    (h0 : CutQ f (fun x => ⟨kT T (up x), Hf x, nf x⟩) G ⟨T, H, nx⟩)
    (step : ∀ x, G x → awp P b (LF f (fun x => ⟨kT T (up x), Hf x, nf x⟩) μ G x Q) ⟨kT T (up x), Hf x, nf x⟩) : LoopB (awp P b) Q ⟨T, H, nx⟩ w w2 := by
  refine LoopB.intro (fun x => ⟨kT T (up x), Hf x, nf x⟩) μ G (f ⟨T, H, nx⟩) h0.weak h0.good fun x hx => awp_mono b (step x hx) fun e s2 h => ?_
  cases e with
  | normal => obtain ⟨h1, h2, h3⟩ := h; exact ⟨_, h1, h2, h3⟩
  | exit k => exact h
  | ret => exact h

/-! ### Cuts -/
/-- Code, walked part by part: between the parts less may be said. -/
inductive AW (P : Program) : Code → (AEx → ASt → Prop) → ASt → Prop
  | of {c : Code} {Q : AEx → ASt → Prop} {s : ASt} (h : awp P c Q s) : AW P c Q s
  | seq {a b : Code} {Q : AEx → ASt → Prop} {s : ASt} (R : ASt → Prop) (h : awp P a (thenQ R Q) s) (h2 : ∀ s', R s' → AW P b Q s') : AW P (.seq a b) Q s
  | weak {c : Code} {Q : AEx → ASt → Prop} {s s0 : ASt} (hw : Weak s s0) (h : AW P c Q s0) : AW P c Q s
theorem AW.exact {c : Code} {Q : AEx → ASt → Prop} {s : ASt} (h : AW P c Q s) : ∃ e s', Q e s' ∧ ∀ Q' : AEx → ASt → Prop, Q' e s' → AW P c Q' s := by
  induction h with
  | of h =>
    obtain ⟨e, s', h1, h2⟩ := awp_ex _ h
    exact ⟨e, s', h1, fun Q' hq => .of (h2 Q' hq)⟩
  | seq R h h2 ih =>
    obtain ⟨e, s1, h1, h3⟩ := awp_ex _ h
    cases e with
    | normal =>
      obtain ⟨e2, s2, g1, g2⟩ := ih s1 h1
      exact ⟨e2, s2, g1, fun Q' hq => .seq (fun s' => s' = s1) (h3 (thenQ (fun s' => s' = s1) Q') rfl) fun s' e => e ▸ g2 Q' hq⟩
    | exit id => exact ⟨.exit id, s1, h1, fun Q' hq => .seq (fun _ => False) (h3 (thenQ (fun _ => False) Q') hq) fun s' e => e.elim⟩
    | ret => exact ⟨.ret, s1, h1, fun Q' hq => .seq (fun _ => False) (h3 (thenQ (fun _ => False) Q') hq) fun s' e => e.elim⟩
  | weak hw h ih =>
    obtain ⟨e, s', h1, h2⟩ := ih
    exact ⟨e, s', h1, fun Q' hq => .weak hw (h2 Q' hq)⟩
theorem AW.sound (hm : P.follows .mixedOrders = true) {c : Code} {Q : AEx → ASt → Prop} {s : ASt} (h : AW P c Q s) : ∀ {base : Nat} {κ : Cx} {a : Act}, St base κ a s →
    ∀ {QQ : Exit → Act → World → Prop}, (∀ e s' κ' a', Q e s' → St base κ' a' s' → Ext base κ κ' → QQ (AEx.ex e) a' κ'.W) → c.wp P QQ a κ.W := by
  induction h with
  | of h => exact awp_sound hm _ h
  | seq R h h2 ih =>
    intro base κ a hs QQ hQ
    refine wp_seq (awp_sound hm _ h hs (fun e s' κ' a' hq hs' hext => ?_))
    cases e with
    | normal => exact ih s' hq hs' (fun e2 s2 κ2 a2 hq2 hs2 hext2 => hQ e2 s2 κ2 a2 hq2 hs2 (hext.trans hext2))
    | exit id => exact hQ (.exit id) s' κ' a' hq hs' hext
    | ret => exact hQ .ret s' κ' a' hq hs' hext
  | weak hw h ih =>
    intro base κ a hs QQ hQ
    obtain ⟨κ1, h1, h2, h3⟩ := hw base κ a hs
    rw [← h1]
    exact ih h2 fun e s' κ' a' hq hs' hext => hQ e s' κ' a' hq hs' (h3.trans hext)
@[congr] theorem AW_congr {c : Code} {Q : AEx → ASt → Prop} {s s' : ASt} (h : s = s') : AW P c Q s = AW P c Q s' := by rw [h]
theorem AW.step {a b : Code} {Q : AEx → ASt → Prop} {s : ASt} (h : awp P a (thenQ (AW P b Q) Q) s) : AW P (.seq a b) Q s := .seq _ h fun _ h => h
theorem AW.cut {a b : Code} {Q : AEx → ASt → Prop} {T : List AV} {H : AH} {nx : Nat} (f : ASt → ι) (up : ι → List (Nat × Option AV)) (Hf : ι → AH) (nf : ι → Nat) (G : ι → Prop)
    (h : awp P a (thenQ (CutQ f (fun x => ⟨kT T (up x), Hf x, nf x⟩) G) Q) ⟨T, H, nx⟩) (h2 : ∀ x, G x → AW P b Q ⟨kT T (up x), Hf x, nf x⟩) : AW P (.seq a b) Q ⟨T, H, nx⟩ :=
  .seq _ h fun s' hs => .weak hs.weak (h2 _ hs.good)
/-- Some answer, of which so much is known, in every heap. -/
theorem qex_of {f : FuncId} {args : List AV} {Q : AV → Prop} (hp : pureL args = true) (d : Nat) (h : ACallD P f args noH 0 fun r H' _ => Q (snapA d H' r)) : ∃ R, Q R ∧ QCall P f args R := by
  obtain ⟨r, H', nx', h1, h2⟩ := h
  exact ⟨_, h2, qcall_of hp h1 d⟩
theorem call_of_W (hm : P.follows .mixedOrders = true) {f : FuncId} {fn : Func} {c : Code} {n : Nat} {rs : List ResultVar} (hf : P.funcs[f]? = some fn) (hb : fn.body = some c) (hn : fn.ntmps = n) (hrs : fn.results = rs.toArray)
    (hname : (fn.name == "runtime.NumGoroutine") = false) {args : List AV} {H : AH} {nx : Nat} {Q : AV → AH → Nat → Prop}
    (h : AW P c (bodyQ P rs Q) ⟨args ++ List.replicate (n - args.length) (.tup []), H, nx⟩) : ACallD P f args H nx Q := by
  obtain ⟨e, s', h1, h2⟩ := h.exact
  have fin : ∃ l, resA P s'.H s'.tmps rs = some l ∧ l.1 ∧ Q (packA l.2) s'.H s'.nx := by
    cases e with
    | exit id => exact h1.elim
    | normal =>
      simp only [bodyQ] at h1
      split at h1
      · rename_i l hl; exact ⟨l, hl, h1.1, h1.2⟩
      · exact h1.elim
    | ret =>
      simp only [bodyQ] at h1
      split at h1
      · rename_i l hl; exact ⟨l, hl, h1.1, h1.2⟩
      · exact h1.elim
  obtain ⟨l, hl, hp, hq⟩ := fin
  have hw : AW P c (bodyQ P rs fun r1 H1 nx1 => r1 = packA l.2 ∧ H1 = s'.H ∧ nx1 = s'.nx) ⟨args ++ List.replicate (n - args.length) (.tup []), H, nx⟩ := by
    refine h2 _ ?_
    cases e with
    | exit id => exact h1.elim
    | normal => simp only [bodyQ, hl]; exact ⟨hp, trivial, trivial, trivial⟩
    | ret => simp only [bodyQ, hl]; exact ⟨hp, trivial, trivial, trivial⟩
  have hc := callQ_of_walk hf hb hn hrs hname (fun {base κ a} hs {QQ} hQ => hw.sound hm hs hQ)
  refine ⟨_, _, _, ⟨hc.1, fun base κ vs hi hr => (hc.2 base κ vs hi hr).mono ?_⟩, hq⟩
  rintro e W' ⟨r1, H1, nx1, ⟨rfl, rfl, rfl⟩, h3⟩
  exact h3
theorem wcall_body (hm : P.follows .mixedOrders = true) {f : FuncId} {fn : Func} (hf : P.funcs[f]? = some fn) (c : Code) (hb : fn.body = some c) {n : Nat} (hn : fn.ntmps = n) {rs : List ResultVar} (hrs : fn.results = rs.toArray)
    (hname : (fn.name == "runtime.NumGoroutine") = false) {args : List AV} {H : AH} {nx : Nat} {Q : AV → AH → Nat → Prop} (hl : args.length ≤ n)
    (h : AW P c (bodyQ P rs Q) ⟨initT n args, H, nx⟩) : ACallD P f args H nx Q :=
  call_of_W hm hf hb hn hrs hname (by rw [initT_eq n args hl]; exact h)
end
theorem takeAll {α : Type} {l : List α} {n : Nat} (h : l.length ≤ n) : l.take n = l := List.take_of_length_le h
theorem tdivE {a b : Int} (h : 0 ≤ a) : a.tdiv b = a / b := Int.tdiv_eq_ediv_of_nonneg h
theorem tmodE {a b : Int} (h : 0 ≤ a) : a.tmod b = a % b := Int.tmod_eq_emod_of_nonneg h
@[go_sem] theorem isU8_u8 {n : Int} : isU8 (.int .u8 n) = true := rfl
@[go_sem] theorem bytesA_size {l : List AV} : (bytesA l).size = l.length := by simp [bytesA, ByteArray.size]
@[go_sem] theorem size_mk {a : Array UInt8} : (ByteArray.mk a).size = a.size := rfl
@[go_sem] theorem toNat_succ {k : Nat} : ((k : Int) + 1).toNat = k + 1 := by omega
@[go_sem] theorem getD_drop {l : List AV} {n : Nat} {d : AV} : (l.drop n).getD 0 d = l.getD n d := by simp [List.getD]
attribute [go_sem] List.length_drop
attribute [go_sem] ByteArray.size_append List.size_toArray
attribute [go_sem] List.all_cons List.all_nil
attribute [go_sem] kT_nil kT_end kT_keep kT_put kT_gap
end Go.TH

/-
  TH: the data of the laws, in plain Lean.
-/
set_option linter.unusedVariables false
set_option linter.unusedSimpArgs false
namespace Go.TH
open Go

/-! ### Rows of equal parts -/
def flat {α : Type} (c : α → List AV) (l : List α) : List AV := (l.map c).flatten
section
variable {α : Type} {c : α → List AV} {sz : Nat}
theorem flat_nil : flat c [] = [] := rfl
theorem flat_cons {a : α} {l : List α} : flat c (a :: l) = c a ++ flat c l := by simp [flat]
theorem flat_flatMap (l : List α) : l.flatMap c = flat c l := by simp [flat, List.flatMap]
theorem flat_len (hc : ∀ a, (c a).length = sz) : ∀ l : List α, (flat c l).length = l.length * sz
  | [] => by simp [flat]
  | a :: l => by rw [flat_cons, List.length_append, hc, flat_len hc l, List.length_cons, Nat.add_mul]; omega
theorem flat_drop (hc : ∀ a, (c a).length = sz) : ∀ (l : List α) (i : Nat), (flat c l).drop (i * sz) = flat c (l.drop i)
  | l, 0 => by simp
  | [], i + 1 => by simp [flat]
  | a :: l, i + 1 => by
    rw [flat_cons, show (i + 1) * sz = (c a).length + i * sz from by rw [hc, Nat.add_mul]; omega, List.drop_length_add_append, List.drop_succ_cons]
    exact flat_drop hc l i
theorem flat_at (hc : ∀ a, (c a).length = sz) {l : List α} {i : Nat} (h : i < l.length) : (flat c l).drop (i * sz) = c l[i] ++ flat c (l.drop (i + 1)) := by
  rw [flat_drop hc, List.drop_eq_getElem_cons h, flat_cons]
theorem flat_pure (hc : ∀ a, pureL (c a) = true) : ∀ l : List α, pureL (flat c l) = true
  | [] => rfl
  | a :: l => by rw [flat_cons, pureL_append, hc, flat_pure hc l]; rfl
theorem map_snap : ∀ {l : List AV} (d : Nat) (H : AH), pureL l = true → l.map (snapA d H) = l
  | [], d, H, _ => rfl
  | a :: l, d, H, h => by
    simp only [pureL, Bool.and_eq_true] at h
    rw [List.map_cons, snapA_id d H a h.1, map_snap d H h.2]
end
theorem pureL_take : ∀ {l : List AV} (n : Nat), pureL l = true → pureL (l.take n) = true
  | _, 0, _ => by simp [pureL]
  | [], n + 1, _ => by simp [pureL]
  | a :: l, n + 1, h => by simp only [pureL, Bool.and_eq_true] at h; simp [pureL, h.1, pureL_take n h.2]
/-- One part is written anew. -/
theorem flatten_set {sz : Nat} : ∀ {xs : List (List AV)} {i : Nat} {y : List AV}, (∀ x ∈ xs, x.length = sz) → y.length = sz → i < xs.length →
    xs.flatten.take (i * sz) ++ y ++ xs.flatten.drop (i * sz + sz) = (xs.set i y).flatten
  | x :: xs, 0, y, h, hy, hi => by
    have hx := h x List.mem_cons_self
    simp [List.drop_append, hx]
  | x :: xs, i + 1, y, h, hy, hi => by
    have hx := h x List.mem_cons_self
    have ih := flatten_set (xs := xs) (i := i) (y := y) (fun z hz => h z (List.mem_cons_of_mem _ hz)) hy (by simpa using hi)
    rw [List.set_cons_succ, List.flatten_cons, List.flatten_cons, ← ih, show (i + 1) * sz = x.length + i * sz from by rw [hx, Nat.add_mul]; omega, List.take_length_add_append,
      show x.length + i * sz + sz = x.length + (i * sz + sz) from by omega, List.drop_length_add_append]
    simp
theorem set_fill {α : Type} (c : α → List AV) (z : List AV) (l : List α) {i : Nat} (h : i < l.length) :
    (((l.take i).map c) ++ List.replicate (l.length - i) z).set i (c l[i]) = ((l.take (i + 1)).map c) ++ List.replicate (l.length - (i + 1)) z := by
  have hl : ((l.take i).map c).length = i := by simp; omega
  rw [List.set_append_right _ _ (by omega), hl, Nat.sub_self, show l.length - i = (l.length - (i + 1)) + 1 from by omega, List.replicate_succ, List.set_cons_zero, List.take_succ_eq_append_getElem h, List.map_append, List.append_assoc]
  rfl

/-- Parts that are written one by one: 'i' of them are. -/
def fillL {α : Type} (c : α → List AV) (z : List AV) (l : List α) (i : Nat) : List AV := (((l.take i).map c) ++ List.replicate (l.length - i) z).flatten
section
variable {α : Type} {c : α → List AV} {z : List AV} {sz : Nat}
theorem fillL_sizes (hc : ∀ a, (c a).length = sz) (hz : z.length = sz) (l : List α) (i : Nat) : ∀ x ∈ ((l.take i).map c) ++ List.replicate (l.length - i) z, x.length = sz := by
  intro x hx
  rcases List.mem_append.1 hx with h | h
  · obtain ⟨a, _, rfl⟩ := List.mem_map.1 h; exact hc a
  · rw [List.eq_of_mem_replicate h]; exact hz
theorem flatten_size {sz : Nat} : ∀ {xs : List (List AV)}, (∀ x ∈ xs, x.length = sz) → xs.flatten.length = xs.length * sz
  | [], _ => by simp
  | x :: xs, h => by rw [List.flatten_cons, List.length_append, h x List.mem_cons_self, flatten_size (fun y hy => h y (List.mem_cons_of_mem _ hy)), List.length_cons, Nat.add_mul]; omega
theorem fillL_len (hc : ∀ a, (c a).length = sz) (hz : z.length = sz) {l : List α} {i : Nat} (hi : i ≤ l.length) : (fillL c z l i).length = l.length * sz := by
  unfold fillL
  rw [flatten_size (fillL_sizes hc hz l i)]
  congr 1
  simp
  omega
theorem fillL_zero (l : List α) : (List.replicate l.length z).flatten = fillL c z l 0 := by simp [fillL]
theorem fillL_all (l : List α) : fillL c z l l.length = flat c l := by simp [fillL, flat]
theorem fillL_set (hc : ∀ a, (c a).length = sz) (hz : z.length = sz) {l : List α} {i : Nat} (h : i < l.length) :
    (fillL c z l i).take (i * sz) ++ c l[i] ++ (fillL c z l i).drop (i * sz + sz) = fillL c z l (i + 1) := by
  unfold fillL
  rw [flatten_set (fillL_sizes hc hz l i) (hc _) (by simp; omega), set_fill c z l h]
end

/-! ### Values, versions -/
structure GVal where
  (k n : Int)
  s : ByteArray
  deriving DecidableEq
def GVal.c (v : GVal) : List AV := [.int .i64 v.k, .int .i64 v.n, .str v.s]
@[simp] theorem GVal.len (v : GVal) : (GVal.c v).length = 3 := rfl
@[simp] theorem GVal.pure (v : GVal) : pureL (GVal.c v) = true := rfl
@[go_sem] theorem GVal.flen (l : List GVal) : (flat GVal.c l).length = l.length * 3 := flat_len GVal.len l
@[go_sem] theorem GVal.fat {l : List GVal} {i : Nat} (h : i < l.length) : (flat GVal.c l).drop (i * 3) = .int .i64 l[i].k :: .int .i64 l[i].n :: .str l[i].s :: flat GVal.c (l.drop (i + 1)) := flat_at GVal.len h
abbrev GRow := List GVal
def rowA (l : GRow) : AV := .sl l.length false (flat GVal.c l)
@[go_sem] theorem rowA_len {P : Program} {H : AH} {t : TypeId} {l : GRow} : lenT P H t (rowA l) = if (tySl P t).isSome then some (True, .int .i64 l.length) else none := rfl
@[go_sem] theorem rowA_cells {H : AH} {l : GRow} : cellsA H (rowA l) = some [rowA l] := rfl
@[go_sem] theorem rowA_snap {d : Nat} {H : AH} {l : GRow} : snapA d H (rowA l) = rowA l := snapA_id d H _ (by simp [rowA, pureA, flat_pure GVal.pure])
@[simp] theorem rowA_pure (l : GRow) : pureA (rowA l) = true := by simp [rowA, pureA, flat_pure GVal.pure]
structure GVer where
  (key born died : Int)
  row : GRow
  deriving DecidableEq
def GVer.c (v : GVer) : List AV := [.int .i64 v.key, .int .i64 v.born, .int .i64 v.died, rowA v.row]
@[simp] theorem GVer.len (v : GVer) : (GVer.c v).length = 4 := rfl
@[simp] theorem GVer.pure (v : GVer) : pureL (GVer.c v) = true := by simp [GVer.c, pureL, pureA]
@[go_sem] theorem GVer.flen (l : List GVer) : (flat GVer.c l).length = l.length * 4 := flat_len GVer.len l
@[go_sem] theorem GVer.fat {l : List GVer} {i : Nat} (h : i < l.length) : (flat GVer.c l).drop (i * 4) = .int .i64 l[i].key :: .int .i64 l[i].born :: .int .i64 l[i].died :: rowA l[i].row :: flat GVer.c (l.drop (i + 1)) := flat_at GVer.len h
def versA (l : List GVer) : AV := .sl l.length false (flat GVer.c l)
@[go_sem] theorem versA_len {P : Program} {H : AH} {t : TypeId} {l : List GVer} : lenT P H t (versA l) = if (tySl P t).isSome then some (True, .int .i64 l.length) else none := rfl
@[go_sem] theorem versA_cells {H : AH} {l : List GVer} : cellsA H (versA l) = some [versA l] := rfl
@[go_sem] theorem versA_snap {d : Nat} {H : AH} {l : List GVer} : snapA d H (versA l) = versA l := snapA_id d H _ (by simp [versA, pureA, flat_pure GVer.pure])
@[simp] theorem versA_pure (l : List GVer) : pureA (versA l) = true := by simp [versA, pureA, flat_pure GVer.pure]

abbrev zVal : List AV := [.int .i64 0, .int .i64 0, .str ⟨#[]⟩]
@[go_sem] theorem fillV_len {l : List GVal} {i : Nat} (hi : i ≤ l.length) : (fillL GVal.c zVal l i).length = l.length * 3 := fillL_len GVal.len rfl hi
@[go_sem] theorem fillV_set {l : List GVal} {i : Nat} (h : i < l.length) : (fillL GVal.c zVal l i).take (i * 3) ++ [.int .i64 l[i].k, .int .i64 l[i].n, .str l[i].s] ++ (fillL GVal.c zVal l i).drop (i * 3 + 3) = fillL GVal.c zVal l (i + 1) := fillL_set GVal.len rfl h
def inR (n low high : Int) : Prop := low ≤ n ∧ n ≤ high
instance (n low high : Int) : Decidable (inR n low high) := inferInstanceAs (Decidable (_ ∧ _))
/-- A text's bytes. -/
def bAt (s : ByteArray) (i : Nat) : Nat := (s.data.toList.getD i 0).toNat
theorem bAt_lt {s : ByteArray} {i : Nat} : bAt s i < 256 := (s.data.toList.getD i 0).toNat_lt
@[go_sem] theorem bAt_eq {s : ByteArray} {i : Nat} : (s.data.toList.getD i 0).toNat = bAt s i := rfl
def lettersP (s : ByteArray) : Prop := ∀ i, i < s.size → 97 ≤ bAt s i ∧ bAt s i ≤ 122
instance (s : ByteArray) : Decidable (lettersP s) := by unfold lettersP; infer_instance
@[go_sem] theorem bytesCells_len (s : ByteArray) : (bytesCells s).length = s.size := by simp [bytesCells]
@[go_sem] theorem bytesCells_at {s : ByteArray} {i : Nat} (h : i < s.size) : (bytesCells s).drop i = .int .u8 (bAt s i) :: (bytesCells s).drop (i + 1) := by
  rw [List.drop_eq_getElem_cons (by rw [bytesCells_len]; exact h)]
  congr 1
  have h1 : i < s.data.size := h
  simp [bytesCells, bAt, Array.getElem?_eq_getElem h1]
theorem bytesCells_pure (s : ByteArray) : pureL (bytesCells s) = true := by
  unfold bytesCells
  induction s.data.toList with
  | nil => rfl
  | cons a l ih => simp [pureL, pureA, ih]
def GVal.Ok (v : GVal) : Prop :=
  (v.k = 0 ∧ v.n = 0 ∧ v.s.size = 0) ∨ (v.k = 1 ∧ inR v.n (-9999) 9999 ∧ v.s.size = 0) ∨ (v.k = 2 ∧ v.n = 0 ∧ v.s.size ≤ 6 ∧ lettersP v.s) ∨ (v.k = 3 ∧ inR v.n 0 1 ∧ v.s.size = 0)
instance (v : GVal) : Decidable v.Ok := by unfold GVal.Ok; infer_instance
def rowOk (l : GRow) : Prop := l.length ≤ 4 ∧ ∀ v ∈ l, v.Ok
instance (l : GRow) : Decidable (rowOk l) := by unfold rowOk; infer_instance
@[simp] theorem size_nil : (⟨#[]⟩ : ByteArray).size = 0 := rfl
theorem size_zero {s : ByteArray} : s = ⟨#[]⟩ ↔ s.size = 0 := by
  constructor
  · rintro rfl; rfl
  · intro h
    obtain ⟨d⟩ := s
    have : d.size = 0 := h
    simp at this
    rw [this]
def szVal (v : GVal) (left : Int) : Int := if left - v.s.size < 0 then -1 else left - v.s.size
def szVals : GRow → Int → Int
  | [], left => left
  | v :: r, left => if left - v.s.size < 0 then -1 else szVals r (left - v.s.size)
def szRow (l : GRow) (left : Int) : Int := if left - l.length < 0 then -1 else szVals l (left - l.length)
theorem szVals_lo : ∀ (l : GRow) {left : Int}, 0 ≤ left → -1 ≤ szVals l left ∧ szVals l left ≤ left ∧ (szVals l left < 0 → szVals l left = -1)
  | [], left, h => by simp only [szVals]; omega
  | v :: r, left, h => by
    simp only [szVals]
    split
    · omega
    · have := szVals_lo r (left := left - v.s.size) (by omega)
      omega
theorem szRow_lo (l : GRow) {left : Int} (h : 0 ≤ left) : -1 ≤ szRow l left ∧ szRow l left ≤ left ∧ (szRow l left < 0 → szRow l left = -1) ∧ (0 ≤ szRow l left → l.length ≤ left) := by
  unfold szRow
  split
  · omega
  · have := szVals_lo l (left := left - l.length) (by omega)
    omega
def szVerL : List GVer → Int → Int
  | [], left => left
  | v :: r, left => if szRow v.row left < 0 then -1 else szVerL r (szRow v.row left)
def szVers (l : List GVer) (left : Int) : Int := if left - l.length < 0 then -1 else szVerL l (left - l.length)
abbrev zVer : List AV := [.int .i64 0, .int .i64 0, .int .i64 0, .sl 0 true []]
@[go_sem] theorem fillVer_len {l : List GVer} {i : Nat} (hi : i ≤ l.length) : (fillL GVer.c zVer l i).length = l.length * 4 := fillL_len GVer.len rfl hi
@[go_sem] theorem fillVer_set {l : List GVer} {i : Nat} (h : i < l.length) : (fillL GVer.c zVer l i).take (i * 4) ++ [.int .i64 l[i].key, .int .i64 l[i].born, .int .i64 l[i].died, rowA l[i].row] ++ (fillL GVer.c zVer l i).drop (i * 4 + 4) = fillL GVer.c zVer l (i + 1) := fillL_set GVer.len rfl h
/-- The first place where a test holds, or -1. -/
def idxF {α : Type} (p : α → Bool) (l : List α) : Int := match l.findIdx? p with | some i => i | none => -1
theorem idxF_ge {α : Type} {p : α → Bool} {l : List α} : (0 ≤ idxF p l) ↔ l.any p = true := by
  unfold idxF
  cases h : l.findIdx? p with
  | none => simp only [List.findIdx?_eq_none_iff] at h; simp; exact fun x hx => by simpa using h x hx
  | some i =>
    simp only
    have := (List.findIdx?_eq_some_iff_getElem.1 h)
    obtain ⟨h1, h2, _⟩ := this
    simp only [Int.natCast_nonneg, true_iff, List.any_eq_true]
    exact ⟨_, List.getElem_mem h1, h2⟩
theorem idxF_at {α : Type} {p : α → Bool} {l : List α} {i : Nat} (h : i < l.length) (hp : p l[i] = true) (hn : ∀ j (hj : j < l.length), j < i → p l[j] = false) : idxF p l = i := by
  unfold idxF
  rw [List.findIdx?_eq_some_iff_getElem.2 ⟨h, hp, fun j hj => by simpa using hn j (by omega) hj⟩]
theorem idxF_none {α : Type} {p : α → Bool} {l : List α} (hn : ∀ j (hj : j < l.length), p l[j] = false) : idxF p l = -1 := by
  unfold idxF
  rw [List.findIdx?_eq_none_iff.2 fun x hx => by
    obtain ⟨j, hj, rfl⟩ := List.getElem_of_mem hx
    exact hn j hj]
theorem rowOk_iff (l : GRow) : decide (rowOk l) = (decide (l.length ≤ 4) && !(l.any fun v => !decide v.Ok)) := by
  rw [Bool.eq_iff_iff, decide_eq_true_iff]
  simp [rowOk]
def GVer.Ok (v : GVer) : Prop := inR v.key 0 4 ∧ inR v.born 1 40 ∧ (v.died = 0 ∨ inR v.died (v.born + 1) 40) ∧ rowOk v.row
instance (v : GVer) : Decidable v.Ok := by unfold GVer.Ok; infer_instance
def ordP (w v : GVer) : Prop := w.key < v.key ∨ (w.key = v.key ∧ w.died ≠ 0 ∧ w.died ≤ v.born)
def versOk (l : List GVer) : Prop := (∀ j (h : j < l.length), l[j].Ok) ∧ (∀ j (h : j + 1 < l.length), ordP l[j] l[j + 1]) ∧ l.length ≤ 60
noncomputable instance (l : List GVer) : Decidable (versOk l) := Classical.propDecidable _
/-! ### Orders -/
def cI (n : Int) : List AV := [.int .i64 n]
@[go_sem] theorem cI_flen (l : List Int) : (flat cI l).length = l.length := by rw [flat_len (c := cI) (sz := 1) (fun _ => rfl)]; omega
@[go_sem] theorem cI_fat {l : List Int} {i : Nat} (h : i < l.length) : (flat cI l).drop i = .int .i64 l[i] :: flat cI (l.drop (i + 1)) := by
  have := flat_at (c := cI) (sz := 1) (fun _ => rfl) h
  rwa [Nat.mul_one] at this
theorem cI_pure (l : List Int) : pureL (flat cI l) = true := flat_pure (fun _ => rfl) l
def cmpI (a b : Int) : Int := if a < b then -1 else if b < a then 1 else 0
def cmpS (a b : ByteArray) : Int := if Op.bytesLess a.data.toList b.data.toList then -1 else if a = b then 0 else 1
/-- The first that is not 0. -/
def orF : List Int → Int
  | [] => 0
  | a :: l => if a = 0 then orF l else a
def GVal.ord (v w : GVal) : Int := orF [cmpI v.k w.k, cmpI v.n w.n, cmpS v.s w.s]
def cmpL (g : GVal → GVal → Int) : GRow → GRow → Int
  | [], [] => 0
  | [], _ :: _ => -1
  | _ :: _, [] => 1
  | v :: l, w :: m => if g v w = 0 then cmpL g l m else g v w
/-- In pairs, then by length. -/
def zipL (g : GVal → GVal → Int) : GRow → GRow → Int
  | v :: l, w :: m => if g v w = 0 then zipL g l m else g v w
  | _, _ => 0
theorem cmpL_or (g : GVal → GVal → Int) : ∀ l m : GRow, orF [cmpL g l m, cmpI l.length m.length] = cmpL g l m
  | [], [] => by simp [cmpL, orF, cmpI]
  | [], _ :: _ => by simp [cmpL, orF]
  | _ :: _, [] => by simp [cmpL, orF]
  | v :: l, w :: m => by
    have := cmpL_or g l m
    simp only [cmpL]
    split
    · rw [← this]
      simp only [List.length_cons, orF, cmpI]
      have e1 : (((l.length + 1 : Nat) : Int) < ((m.length + 1 : Nat) : Int)) ↔ ((l.length : Int) < m.length) := by omega
      have e2 : (((m.length + 1 : Nat) : Int) < ((l.length + 1 : Nat) : Int)) ↔ ((m.length : Int) < l.length) := by omega
      simp only [e1, e2]
      split <;> simp_all
    · rename_i h; simp [orF, h]
def rowOrd (l m : GRow) : Int := cmpL GVal.ord l m
def valOrd (v w : GVal) : Int := if v.Ok ∧ w.Ok then v.ord w else 0
def rowOrdOk (l m : GRow) : Int := if rowOk l ∧ rowOk m then rowOrd l m else 0
theorem cmpL_congr {g g' : GVal → GVal → Int} : ∀ {l m : GRow}, (∀ v ∈ l, ∀ w ∈ m, g v w = g' v w) → cmpL g l m = cmpL g' l m
  | [], [], _ => rfl
  | [], _ :: _, _ => rfl
  | _ :: _, [], _ => rfl
  | v :: l, w :: m, h => by
    simp only [cmpL, h v List.mem_cons_self w List.mem_cons_self]
    rw [cmpL_congr (fun x hx y hy => h x (List.mem_cons_of_mem _ hx) y (List.mem_cons_of_mem _ hy))]
theorem cmpL_end {g : GVal → GVal → Int} {l m : GRow} {k : Nat} (h1 : k ≤ l.length) (h2 : k ≤ m.length) (h : l.length ≤ k ∨ m.length ≤ k) : cmpL g (l.drop k) (m.drop k) = cmpI l.length m.length := by
  have e1 : (l.drop k).length = l.length - k := List.length_drop
  have e2 : (m.drop k).length = m.length - k := List.length_drop
  unfold cmpI
  cases hl : l.drop k with
  | nil =>
    rw [hl] at e1
    cases hm : m.drop k with
    | nil =>
      rw [hm] at e2
      simp only [List.length_nil] at e1 e2
      rw [cmpL, if_neg (by omega), if_neg (by omega)]
    | cons x r =>
      rw [hm] at e2
      simp only [List.length_nil, List.length_cons] at e1 e2
      rw [cmpL, if_pos (by omega)]
  | cons x r =>
    rw [hl] at e1
    cases hm : m.drop k with
    | nil =>
      rw [hm] at e2
      simp only [List.length_nil, List.length_cons] at e1 e2
      rw [cmpL, if_neg (by omega), if_pos (by omega)]
    | cons y s =>
      rw [hm] at e2
      simp only [List.length_cons] at e1 e2
      omega
end Go.TH

/-
  TH, part 28: rows of equal parts of which just so much is known.
-/
set_option linter.unusedVariables false
set_option linter.unusedSimpArgs false
namespace Go.TH
open Go
theorem flat_append {α : Type} (c : α → List AV) (a b : List α) : flat c (a ++ b) = flat c a ++ flat c b := by simp [flat]
def Flat {α : Type} (c : α → List AV) (P : α → Prop) (cells : List AV) (n : Nat) : Prop := ∃ l : List α, cells = flat c l ∧ n = l.length ∧ ∀ a ∈ l, P a
section
variable {α : Type} {c : α → List AV} {P : α → Prop} {cells cells' : List AV} {n m : Nat}
theorem Flat.nil : Flat c P [] 0 := ⟨[], rfl, rfl, fun a h => by simp at h⟩
theorem Flat.snoc (h : Flat c P cells n) (a : α) (ha : P a) : Flat c P (cells ++ c a) (n + 1) := by
  obtain ⟨l, rfl, rfl, hl⟩ := h
  refine ⟨l ++ [a], by rw [flat_append, flat_cons, flat_nil, List.append_nil], by simp, fun b hb => ?_⟩
  rcases List.mem_append.1 hb with hb | hb
  · exact hl b hb
  · simp at hb; subst hb; exact ha
theorem Flat.cat (h : Flat c P cells n) (k : Flat c P cells' m) : Flat c P (cells ++ cells') (n + m) := by
  obtain ⟨l, rfl, rfl, hl⟩ := h
  obtain ⟨l', rfl, rfl, hl'⟩ := k
  exact ⟨l ++ l', by rw [flat_append], by simp, fun b hb => (List.mem_append.1 hb).elim (hl b) (hl' b)⟩
theorem Flat.len {sz : Nat} (hc : ∀ a, (c a).length = sz) (h : Flat c P cells n) : cells.length = n * sz := by
  obtain ⟨l, rfl, rfl, _⟩ := h
  exact flat_len hc l
theorem Flat.pure (hc : ∀ a, pureL (c a) = true) (h : Flat c P cells n) : pureL cells = true := by
  obtain ⟨l, rfl, rfl, _⟩ := h
  exact flat_pure hc l
theorem Flat.mono {Q : α → Prop} (h : Flat c P cells n) (hq : ∀ a, P a → Q a) : Flat c Q cells n := by
  obtain ⟨l, h1, h2, h3⟩ := h
  exact ⟨l, h1, h2, fun a ha => hq a (h3 a ha)⟩
/-- One part is put anew. -/
theorem Flat.put {sz : Nat} (hc : ∀ a, (c a).length = sz) (h : Flat c P cells n) {i : Nat} (hi : i < n) (a : α) (ha : P a) : Flat c P (cells.take (i * sz) ++ c a ++ cells.drop (i * sz + sz)) n := by
  obtain ⟨l, rfl, rfl, hl⟩ := h
  refine ⟨l.set i a, ?_, by simp, fun b hb => ?_⟩
  · unfold flat
    rw [List.map_set]
    refine flatten_set (sz := sz) (fun x hx => ?_) (hc a) (by simpa using hi)
    obtain ⟨b, _, rfl⟩ := List.mem_map.1 hx
    exact hc b
  · rcases List.mem_or_eq_of_mem_set hb with hb | rfl
    · exact hl b hb
    · exact ha
/-- The part at a place. -/
theorem Flat.at {sz : Nat} (hc : ∀ a, (c a).length = sz) (h : Flat c P cells n) {i : Nat} (hi : i < n) : ∃ a, P a ∧ cells.drop (i * sz) = c a ++ cells.drop ((i + 1) * sz) := by
  obtain ⟨l, rfl, rfl, hl⟩ := h
  refine ⟨l[i], hl _ (List.getElem_mem _), ?_⟩
  rw [flat_at hc hi, ← flat_drop hc l (i + 1)]
theorem Flat.take {sz : Nat} (hc : ∀ a, (c a).length = sz) (h : Flat c P cells n) {i : Nat} (hi : i ≤ n) : Flat c P (cells.take (i * sz)) i := by
  obtain ⟨l, rfl, rfl, hl⟩ := h
  refine ⟨l.take i, ?_, by simp; omega, fun b hb => hl b (List.mem_of_mem_take hb)⟩
  have e : flat c l = flat c (l.take i) ++ flat c (l.drop i) := by rw [← flat_append, List.take_append_drop]
  have hl2 : (flat c (l.take i)).length = i * sz := by rw [flat_len hc]; congr 1; simp; omega
  rw [e, ← hl2, List.take_left]
end
/-- A slice that is only read, of which just so much is known. -/
def SlP {α : Type} (c : α → List AV) (P : α → Prop) (n : Nat) (a : AV) : Prop := ∃ l : List α, a = .sl l.length false (flat c l) ∧ n = l.length ∧ ∀ x ∈ l, P x

/-! ### Columns -/
structure GCol where
  k : Int
  e : Bool
  deriving DecidableEq
def GCol.c (v : GCol) : List AV := [.int .i64 v.k, .bool v.e]
@[simp] theorem GCol.len (v : GCol) : (GCol.c v).length = 2 := rfl
@[simp] theorem GCol.pure (v : GCol) : pureL (GCol.c v) = true := rfl
@[go_sem] theorem GCol.flen (l : List GCol) : (flat GCol.c l).length = l.length * 2 := flat_len GCol.len l
@[go_sem] theorem GCol.fat {l : List GCol} {i : Nat} (h : i < l.length) : (flat GCol.c l).drop (i * 2) = .int .i64 l[i].k :: .bool l[i].e :: flat GCol.c (l.drop (i + 1)) := flat_at GCol.len h
def colsA (l : List GCol) : AV := .sl l.length false (flat GCol.c l)
@[go_sem] theorem colsA_len {P : Program} {H : AH} {t : TypeId} {l : List GCol} : lenT P H t (colsA l) = if (tySl P t).isSome then some (True, .int .i64 l.length) else none := rfl
@[go_sem] theorem colsA_cells {H : AH} {l : List GCol} : cellsA H (colsA l) = some [colsA l] := rfl
@[simp] theorem colsA_pure (l : List GCol) : pureA (colsA l) = true := by simp [colsA, pureA, flat_pure GCol.pure]
@[go_sem] theorem colsA_snap {d : Nat} {H : AH} {l : List GCol} : snapA d H (colsA l) = colsA l := snapA_id d H _ (colsA_pure l)
@[go_sem] theorem colsA_keep {nx d : Nat} {L : List (Nat × Nat)} {H : AH} {l : List GCol} : keepA nx L H d (colsA l) = colsA l := keepA_pure (colsA_pure l)
@[go_sem] theorem rowA_keep {nx d : Nat} {L : List (Nat × Nat)} {H : AH} {l : GRow} : keepA nx L H d (rowA l) = rowA l := keepA_pure (rowA_pure l)
theorem Flat.snocC {P : GCol → Prop} {cells : List AV} {n : Nat} (h : Flat GCol.c P cells n) {k : Int} {e : Bool} (ha : P ⟨k, e⟩) : Flat GCol.c P (cells ++ [.int .i64 k, .bool e]) (n + 1) := h.snoc ⟨k, e⟩ ha
theorem Flat.snocV {P : GVal → Prop} {cells : List AV} {n : Nat} (h : Flat GVal.c P cells n) {k m : Int} {s : ByteArray} (ha : P ⟨k, m, s⟩) : Flat GVal.c P (cells ++ [.int .i64 k, .int .i64 m, .str s]) (n + 1) := h.snoc ⟨k, m, s⟩ ha
theorem Flat.snoc3C {P : GCol → Prop} {cells : List AV} {n : Nat} (h : Flat GCol.c P cells n) {k k' k2 : Int} {e e' e2 : Bool} (ha : P ⟨k, e⟩) (hb : P ⟨k', e'⟩) (hc : P ⟨k2, e2⟩) :
    Flat GCol.c P (cells ++ [.int .i64 k, .bool e, .int .i64 k', .bool e', .int .i64 k2, .bool e2]) (n + 3) := by
  have := ((h.snocC ha).snocC hb).snocC hc
  simpa using this
theorem Flat.snoc3V {P : GVal → Prop} {cells : List AV} {n : Nat} (h : Flat GVal.c P cells n) {a b c : GVal} (ha : P a) (hb : P b) (hc : P c) :
    Flat GVal.c P (cells ++ [.int .i64 a.k, .int .i64 a.n, .str a.s, .int .i64 b.k, .int .i64 b.n, .str b.s, .int .i64 c.k, .int .i64 c.n, .str c.s]) (n + 3) := by
  have := ((h.snoc a ha).snoc b hb).snoc c hc
  simpa [GVal.c] using this
@[go_sem] theorem GCol.keepL {nx d : Nat} {L : List (Nat × Nat)} {H : AH} {l : List GCol} : (flat GCol.c l).map (keepA nx L H d) = flat GCol.c l := map_keep (flat_pure GCol.pure l)
@[go_sem] theorem GVal.keepL {nx d : Nat} {L : List (Nat × Nat)} {H : AH} {l : List GVal} : (flat GVal.c l).map (keepA nx L H d) = flat GVal.c l := map_keep (flat_pure GVal.pure l)
theorem getD_strs (l : List ByteArray) (x : Nat) (h : x < l.length) : ∃ m ∈ l, (l.map AV.str).getD x .junk = .str m :=
  ⟨l[x], List.getElem_mem h, by simp [List.getD, h]⟩
theorem allTake {α : Type} {P : α → Prop} {l : List α} {k : Nat} (h : k < l.length) (ha : ∀ c ∈ l.take k, P c) (hp : P l[k]) : ∀ c ∈ l.take (k + 1), P c := by
  intro c hc
  rw [List.take_succ_eq_append_getElem h] at hc
  rcases List.mem_append.1 hc with hc | hc
  · exact ha c hc
  · simp at hc; subst hc; exact hp
theorem allTake0 {α : Type} {P : α → Prop} {l : List α} : ∀ c ∈ l.take 0, P c := fun c h => by simp at h
theorem allEnd {α : Type} {P : α → Prop} {l : List α} {k : Nat} (h : l.length ≤ k) (ha : ∀ c ∈ l.take k, P c) : ∀ c ∈ l, P c := by rwa [List.take_of_length_le h] at ha
def colsOk (l : List GCol) : Prop := l.length ≤ 4 ∧ ∀ c ∈ l, inR c.k 1 3
def fitP (v : GVal) (c : GCol) : Prop := v.k = c.k ∨ (v.k = 0 ∧ c.e = true)
def rowFits (cols : List GCol) (row : GRow) : Prop := colsOk cols ∧ rowOk row ∧ row.length = cols.length ∧ ∀ i (h : i < row.length) (h' : i < cols.length), fitP row[i] cols[i]
def rowsOk (cols : List GCol) (rows : List GRow) : Prop := colsOk cols ∧ ∀ r ∈ rows, rowFits cols r
instance (l : List GCol) : Decidable (colsOk l) := by unfold colsOk; infer_instance
noncomputable instance (c : List GCol) (r : GRow) : Decidable (rowFits c r) := Classical.propDecidable _
noncomputable instance (c : List GCol) (r : List GRow) : Decidable (rowsOk c r) := Classical.propDecidable _
/-! ### Rows of rows -/
def cR (r : GRow) : List AV := [rowA r]
@[simp] theorem cR_len (r : GRow) : (cR r).length = 1 := rfl
@[simp] theorem cR_pure (r : GRow) : pureL (cR r) = true := by simp [cR, pureL]
@[go_sem] theorem cR_flen (l : List GRow) : (flat cR l).length = l.length := by rw [flat_len cR_len]; omega
@[go_sem] theorem cR_fat {l : List GRow} {i : Nat} (h : i < l.length) : (flat cR l).drop i = rowA l[i] :: flat cR (l.drop (i + 1)) := by
  have := flat_at cR_len h
  rwa [Nat.mul_one] at this
@[go_sem] theorem cR_keepL {nx d : Nat} {L : List (Nat × Nat)} {H : AH} {l : List GRow} : (flat cR l).map (keepA nx L H d) = flat cR l := map_keep (flat_pure cR_pure l)
def rowsA (l : List GRow) : AV := .sl l.length false (flat cR l)
@[go_sem] theorem rowsA_len {P : Program} {H : AH} {t : TypeId} {l : List GRow} : lenT P H t (rowsA l) = if (tySl P t).isSome then some (True, .int .i64 l.length) else none := rfl
@[go_sem] theorem rowsA_cells {H : AH} {l : List GRow} : cellsA H (rowsA l) = some [rowsA l] := rfl
@[simp] theorem rowsA_pure (l : List GRow) : pureA (rowsA l) = true := by simp [rowsA, pureA, flat_pure cR_pure]
@[go_sem] theorem rowsA_snap {d : Nat} {H : AH} {l : List GRow} : snapA d H (rowsA l) = rowsA l := snapA_id d H _ (rowsA_pure l)
@[go_sem] theorem rowsA_keep {nx d : Nat} {L : List (Nat × Nat)} {H : AH} {l : List GRow} : keepA nx L H d (rowsA l) = rowsA l := keepA_pure (rowsA_pure l)
@[go_sem] theorem cR_snapL {d : Nat} {H : AH} {l : List GRow} : (flat cR l).map (snapA d H) = flat cR l := map_snap d H (flat_pure cR_pure l)
@[go_sem] theorem GCol.snapL {d : Nat} {H : AH} {l : List GCol} : (flat GCol.c l).map (snapA d H) = flat GCol.c l := map_snap d H (flat_pure GCol.pure l)
@[go_sem] theorem GVal.snapL {d : Nat} {H : AH} {l : List GVal} : (flat GVal.c l).map (snapA d H) = flat GVal.c l := map_snap d H (flat_pure GVal.pure l)
theorem Flat.snocR {P : GRow → Prop} {cells : List AV} {n : Nat} (h : Flat cR P cells n) {r : GRow} (ha : P r) : Flat cR P (cells ++ [rowA r]) (n + 1) := h.snoc r ha
@[go_sem] theorem GCol.takeL {l : List GCol} : (flat GCol.c l).take (l.length * 2) = flat GCol.c l := takeAll (by rw [flat_len GCol.len]; omega)
@[go_sem] theorem GVal.takeL {l : List GVal} : (flat GVal.c l).take (l.length * 3) = flat GVal.c l := takeAll (by rw [flat_len GVal.len]; omega)
@[go_sem] theorem GVer.takeL {l : List GVer} : (flat GVer.c l).take (l.length * 4) = flat GVer.c l := takeAll (by rw [flat_len GVer.len]; omega)
@[go_sem] theorem cR_takeL {l : List GRow} : (flat cR l).take l.length = flat cR l := takeAll (by rw [flat_len cR_len]; omega)
@[go_sem] theorem cR_getD {l : List GRow} {i : Nat} (h : i < l.length) : (flat cR l).getD i .junk = rowA l[i] := by
  have := cR_fat h
  rw [← getD_drop, this]
  rfl
end Go.TH
