/- The framework of this proof, part 2: abstract values and what they stand for in a world. -/
import Derived.Test.YtipoefabimcbdaaTf1
import Derived.Attr
import Derived.ChangeArms
import Derived.Below
/-
  TH, part 15: every order comes to the canonical walk's state.
-/
set_option linter.unusedVariables false
set_option linter.unusedSimpArgs false
namespace Go.TH
open Go

def cntT (f : Nat → Bool) : Nat → Nat
  | 0 => 0
  | n + 1 => cntT f n + if f n = true then 1 else 0
theorem cntT_le (f : Nat → Bool) : ∀ n, cntT f n ≤ n
  | 0 => Nat.le_refl _
  | n + 1 => by have := cntT_le f n; unfold cntT; split <;> omega
theorem cntT_all (f : Nat → Bool) : ∀ n, cntT f n = n → ∀ i, i < n → f i = true
  | 0, _, i, hi => absurd hi (Nat.not_lt_zero _)
  | n + 1, h, i, hi => by
    have h1 := cntT_le f n
    unfold cntT at h
    split at h
    · rename_i hf
      rcases Nat.lt_succ_iff_lt_or_eq.1 hi with h' | rfl
      · exact cntT_all f n (by omega) i h'
      · exact hf
    · omega
theorem cntT_set (f g : Nat → Bool) (j : Nat) (hf : f j = false) (hg : g j = true) (h : ∀ i, i ≠ j → g i = f i) : ∀ n, cntT g n = cntT f n + if j < n then 1 else 0
  | 0 => by simp [cntT]
  | n + 1 => by
    have ih := cntT_set f g j hf hg h n
    unfold cntT
    by_cases hj : j = n
    · subst hj
      rw [ih, hf, hg]
      simp
    · rw [ih, h n (Ne.symm hj)]
      by_cases h1 : j < n
      · simp [h1, show j < n + 1 by omega]; omega
      · simp [h1, show ¬ j < n + 1 by omega]

/-- One slot of the frame stands for one abstract slot. -/
def AgreeAt (κ : Cx) (a : Act) (T : List AV) (t : Nat) : Prop := (a.tmps[t]? = none ∧ T[t]? = none) ∨ ∃ v x, a.tmps[t]? = some v ∧ T[t]? = some x ∧ Rep κ.W κ.M κ.F v x
theorem AgreeAt.ev {κ κ' : Cx} {a : Act} {T : List AV} {t : Nat} (h : AgreeAt κ a T t) (he : Ev κ κ') : AgreeAt κ' a T t := by
  rcases h with h | ⟨v, x, h1, h2, h3⟩
  · exact .inl h
  · exact .inr ⟨v, x, h1, h2, h3.ev he⟩
theorem AgreeAt.eval {κ : Cx} {a : Act} {T : List AV} {t : Nat} (h : AgreeAt κ a T t) : Rep κ.W κ.M κ.F (a.eval (.tmp t)) (evA T (.tmp t)) := by
  unfold Act.eval evA
  rcases h with ⟨h1, h2⟩ | ⟨v, x, h1, h2, h3⟩
  · simp only [List.getD, h2, Option.getD_none]; exact .junk _
  · simp only [Array.getD_eq_getD_getElem?, h1, List.getD, h2, Option.getD_some]; exact h3
theorem guardA_at {ops : List Oper} {κ : Cx} {a : Act} {T : List AV} {j : Nat} {want b : Bool} (h : guardA ops T j want = some b) {o : Oper} (hg : o.guard = some (j, want))
    (hs : ∀ d, (ops[j]?).bind (·.dst) = some d → AgreeAt κ a T d) : Region.wanted o (yielded ops.toArray a.tmps) = b := by
  unfold guardA at h
  simp only [Region.wanted, hg, yielded, List.getElem?_toArray]
  cases hd : (ops[j]?).bind (·.dst) with
  | none =>
    rw [hd] at h
    simp at h
    subst h
    simp [hd]
  | some d =>
    rw [hd] at h
    simp only [Option.bind_some] at h
    rcases hs d hd with ⟨h1, h2⟩ | ⟨v, x, h1, h2, h3⟩
    · rw [h2] at h
      simp at h
      subst h
      simp [h1]
    · rw [h2] at h
      cases x <;> simp at h
      · obtain rfl := h3.bool_inv
        subst h
        simp [h1]
      · obtain ⟨vs, rfl, _⟩ := h3.tup_inv
        subst h
        simp [h1]

section
variable {P : Program} {ops : List Oper} {effs frees : List Nat} {S : Nat → Bool} {s0 : ASt} {st : Nat → ASt}

theorem Trace.next (tr : Trace P ops effs frees S s0 st) {i : Nat} {o : Oper} (ho : ops[i]? = some o) : ∃ r H' nx', st (i + 1) = ⟨putA (st i).tmps o.dst r, H', nx'⟩ ∧ maskH (SF frees S i) H' = maskH (SF frees S i) (st i).H ∧ (effs.contains i = false → H' = (st i).H ∧ nx' = (st i).nx) := by
  rcases tr.step i o ho with ⟨_, _, _, _, h⟩ | ⟨_, r, H', nx', h, hc⟩
  · exact ⟨_, _, _, h, rfl, fun _ => ⟨rfl, rfl⟩⟩
  · refine ⟨r, H', nx', h, ?_, fun he => ?_⟩
    · split at hc
      · exact hc.2
      · rw [hc.1]
    · rw [he] at hc
      simp only [Bool.false_eq_true, if_false] at hc
      exact ⟨hc.1, hc.2.1⟩
/-- What every such walk keeps. -/
structure Nx (ops : List Oper) (effs frees : List Nat) (S : Nat → Bool) (s0 : ASt) (st : Nat → ASt) : Prop where
  zero : st 0 = s0
  next : ∀ {i : Nat} {o : Oper}, ops[i]? = some o → ∃ r H' nx', st (i + 1) = ⟨putA (st i).tmps o.dst r, H', nx'⟩ ∧ maskH (SF frees S i) H' = maskH (SF frees S i) (st i).H ∧ (effs.contains i = false → H' = (st i).H ∧ nx' = (st i).nx)
theorem Trace.nxs (tr : Trace P ops effs frees S s0 st) : Nx ops effs frees S s0 st := ⟨tr.zero, fun ho => tr.next ho⟩
theorem putA_length (T : List AV) (d : Option Tmp) (r : AV) : (putA T d r).length = T.length := by cases d <;> simp [putA]
theorem putA_ne (T : List AV) (d : Option Tmp) (r : AV) (t : Nat) (h : d ≠ some t) : (putA T d r)[t]? = T[t]? := by
  cases d with
  | none => rfl
  | some x =>
    simp only [putA]
    rw [List.getElem?_set_ne]
    intro e
    exact h (by rw [e])
theorem Nx.len (tr : Nx ops effs frees S s0 st) : ∀ i, i ≤ ops.length → (st i).tmps.length = s0.tmps.length
  | 0, _ => by rw [tr.zero]
  | i + 1, hi => by
    obtain ⟨r, H', nx', h, _⟩ := tr.next (List.getElem?_eq_getElem (show i < ops.length by omega))
    rw [h]
    simp only [putA_length]
    exact tr.len i (by omega)
theorem Nx.mask (tr : Nx ops effs frees S s0 st) : ∀ (k i : Nat), i + k ≤ ops.length → (∀ q, i ≤ q → q < i + k → frees.contains q = false ∨ effs.contains q = false) → maskH S (st (i + k)).H = maskH S (st i).H
  | 0, _, _, _ => rfl
  | k + 1, i, hi, hf => by
    obtain ⟨r, H', nx', h, hm, hq⟩ := tr.next (List.getElem?_eq_getElem (show i + k < ops.length by omega))
    rw [show i + (k + 1) = (i + k) + 1 by omega, h]
    have ih := tr.mask k i (by omega) fun q h1 h2 => hf q h1 (by omega)
    rcases hf (i + k) (by omega) (by omega) with hs | hs
    · have hs : SF frees S (i + k) = S := by unfold SF; rw [hs]; rfl
      rw [hs] at hm
      exact hm.trans ih
    · simp only [(hq hs).1]
      exact ih
theorem Nx.mask' (tr : Nx ops effs frees S s0 st) {i j : Nat} (hi : i ≤ ops.length) (hj : j ≤ ops.length) (hw : ∀ q, q < ops.length → frees.contains q = true → effs.contains q = true → ¬ (i ≤ q ∧ q < j) ∧ ¬ (j ≤ q ∧ q < i)) : maskH S (st i).H = maskH S (st j).H := by
  have key : ∀ q, q < ops.length → (¬ (frees.contains q = true ∧ effs.contains q = true) → frees.contains q = false ∨ effs.contains q = false) := fun q _ h => by cases h1 : frees.contains q <;> cases h2 : effs.contains q <;> simp_all
  rcases Nat.le_total i j with h | h
  · have := tr.mask (j - i) i (by omega) (fun q h1 h2 => key q (by omega) fun h3 => (hw q (by omega) h3.1 h3.2).1 ⟨h1, by omega⟩)
    rw [show i + (j - i) = j by omega] at this
    exact this.symm
  · have := tr.mask (i - j) j (by omega) (fun q h1 h2 => key q (by omega) fun h3 => (hw q (by omega) h3.1 h3.2).2 ⟨h1, by omega⟩)
    rw [show j + (i - j) = i by omega] at this
    exact this
theorem Nx.stable (tr : Nx ops effs frees S s0 st) (t : Nat) : ∀ (k i : Nat), i + k ≤ ops.length → (∀ (q : Nat) (o : Oper), i ≤ q → q < i + k → ops[q]? = some o → o.dst ≠ some t) → (st (i + k)).tmps[t]? = (st i).tmps[t]?
  | 0, i, _, _ => rfl
  | k + 1, i, hi, hw => by
    have ho := List.getElem?_eq_getElem (show i + k < ops.length by omega)
    obtain ⟨r, H', nx', h, _⟩ := tr.next ho
    rw [show i + (k + 1) = (i + k) + 1 by omega, h]
    simp only
    rw [putA_ne _ _ _ _ (hw (i + k) _ (by omega) (by omega) ho)]
    exact tr.stable t k i (by omega) (fun q o h1 h2 h3 => hw q o h1 (by omega) h3)
theorem Nx.heap (tr : Nx ops effs frees S s0 st) : ∀ (k i : Nat), i + k ≤ ops.length → (∀ q, i ≤ q → q < i + k → effs.contains q = false) → (st (i + k)).H = (st i).H ∧ (st (i + k)).nx = (st i).nx
  | 0, i, _, _ => ⟨rfl, rfl⟩
  | k + 1, i, hi, hw => by
    have ho := List.getElem?_eq_getElem (show i + k < ops.length by omega)
    obtain ⟨r, H', nx', h, _, hn⟩ := tr.next ho
    rw [show i + (k + 1) = (i + k) + 1 by omega, h]
    have := hn (hw (i + k) (by omega) (by omega))
    have ih := tr.heap k i (by omega) (fun q h1 h2 => hw q h1 (by omega))
    exact ⟨this.1.trans ih.1, this.2.trans ih.2⟩
/-- Between two places without a writer. -/
theorem Nx.stable' (tr : Nx ops effs frees S s0 st) {t i j : Nat} (hi : i ≤ ops.length) (hj : j ≤ ops.length) (hw : ∀ (q : Nat) (o : Oper), ops[q]? = some o → o.dst = some t → ¬ (i ≤ q ∧ q < j) ∧ ¬ (j ≤ q ∧ q < i)) : (st i).tmps[t]? = (st j).tmps[t]? := by
  rcases Nat.le_total i j with h | h
  · have := tr.stable t (j - i) i (by omega) (fun q o h1 h2 h3 h4 => (hw q o h3 h4).1 ⟨h1, by omega⟩)
    rw [show i + (j - i) = j by omega] at this
    exact this.symm
  · have := tr.stable t (i - j) j (by omega) (fun q o h1 h2 h3 h4 => (hw q o h3 h4).2 ⟨h1, by omega⟩)
    rw [show j + (i - j) = i by omega] at this
    exact this
theorem Nx.heap' (tr : Nx ops effs frees S s0 st) {i j : Nat} (hi : i ≤ ops.length) (hj : j ≤ ops.length) (hw : ∀ q, q < ops.length → effs.contains q = true → ¬ (i ≤ q ∧ q < j) ∧ ¬ (j ≤ q ∧ q < i)) : (st i).H = (st j).H ∧ (st i).nx = (st j).nx := by
  have key : ∀ q, q < ops.length → (effs.contains q = false) ∨ effs.contains q = true := fun q _ => by cases effs.contains q <;> simp
  rcases Nat.le_total i j with h | h
  · have := tr.heap (j - i) i (by omega) (fun q h1 h2 => by
      rcases key q (by omega) with h3 | h3
      · exact h3
      · exact absurd ⟨h1, by omega⟩ (hw q (by omega) h3).1)
    rw [show i + (j - i) = j by omega] at this
    exact ⟨this.1.symm, this.2.symm⟩
  · have := tr.heap (i - j) j (by omega) (fun q h1 h2 => by
      rcases key q (by omega) with h3 | h3
      · exact h3
      · exact absurd ⟨h1, by omega⟩ (hw q (by omega) h3).2)
    rw [show j + (i - j) = i by omega] at this
    exact this

theorem zipIdx_mem {ops : List Oper} {i : Nat} {o : Oper} (h : ops[i]? = some o) : (o, i) ∈ ops.zipIdx := by
  rw [List.mem_iff_getElem?]
  exact ⟨i, by simp [List.getElem?_zipIdx, h]⟩
theorem drawOk_spec (h : drawOk ops effs frees = true) : (∀ (i : Nat) (o : Oper), ops[i]? = some o → ∀ e ∈ o.after.toList, Region.binds .any e = true → e.on < i) ∧
    (∀ (i j : Nat) (x y : Oper), i < j → ops[i]? = some x → ops[j]? = some y → (conflict ops.toArray x y = true ∨ (effs.contains i = true ∧ effs.contains j = true) ∨ (frees.contains i = true ∧ effs.contains i = true ∧ frees.contains j = false) ∨ (frees.contains j = true ∧ effs.contains j = true ∧ frees.contains i = false)) → Anc ops i j) := by
  unfold drawOk at h
  simp only [Bool.and_eq_true] at h
  obtain ⟨⟨hb, _⟩, hp⟩ := h
  refine ⟨?_, ?_⟩
  · intro i o ho e he hbind
    unfold backward at hb
    have := (List.all_eq_true.1 hb) (o, i) (zipIdx_mem ho)
    have := (List.all_eq_true.1 this) e he
    simp only [hbind, Bool.not_true, Bool.false_or, decide_eq_true_eq] at this
    exact this
  · intro i j x y hij hx hy hc
    have h1 := (List.all_eq_true.1 hp) (x, i) (zipIdx_mem hx)
    have h2 := (List.all_eq_true.1 h1) (y, j) (zipIdx_mem hy)
    simp only [hij, decide_true, Bool.not_true, Bool.false_or, Bool.or_eq_true, Bool.and_eq_true, Bool.not_eq_true'] at h2
    rcases h2 with h2 | ⟨⟨⟨h2, h3⟩, h4⟩, h5⟩
    · exact ancL_get ops ops [] (by simp) (fun i j h => by simp at h) i j h2
    · rcases hc with hc | hc
      · rw [hc] at h2; cases h2
      · rcases hc with hc | hc | hc
        · simp only [hc.1, hc.2, Bool.true_and, Bool.and_self] at h3; cases h3
        · simp only [hc.1, hc.2.1, hc.2.2, Bool.not_false, Bool.and_self] at h4; cases h4
        · simp only [hc.1, hc.2.1, hc.2.2, Bool.not_false, Bool.and_self] at h5; cases h5
end
end Go.TH

/-
  TH, part 16: regions that draw their order, sound (the simulation).
-/
set_option linter.unusedVariables false
set_option linter.unusedSimpArgs false
namespace Go.TH
open Go

/-- What holds when just the operations in 'listed' have been carried out, the heap apart. -/
structure Sim0 (ops : List Oper) (st : Nat → ASt) (s0 : ASt) (listed : Array Bool) (κ : Cx) (a : Act) : Prop where
  size : listed.size = ops.length
  closed : Closed ops listed
  len : a.tmps.size = s0.tmps.length
  tmps : ∀ t, t < s0.tmps.length → ∃ k, k ≤ ops.length ∧ (∀ (i : Nat) (o : Oper), ops[i]? = some o → o.dst = some t → (listed.getD i false = true ↔ i < k)) ∧ AgreeAt κ a (st k).tmps t
  defers : a.defers = []
structure Sim (ops : List Oper) (effs : List Nat) (st : Nat → ASt) (s0 : ASt) (base : Nat) (listed : Array Bool) (κ : Cx) (a : Act) : Prop extends Sim0 ops st s0 listed κ a where
  heap : ∃ m, m ≤ ops.length ∧ (∀ i, i < ops.length → effs.contains i = true → (listed.getD i false = true ↔ i < m)) ∧ Inv base κ (st m).H (st m).nx

theorem getD_set (listed : Array Bool) (j i : Nat) (hj : j < listed.size) : (listed.setIfInBounds j true).getD i false = if i = j then true else listed.getD i false := by
  by_cases h : i = j
  · subst h; simp [hj]
  · simp only [h, if_false]
    exact getD_set_ne false (Ne.symm h)

section
variable {P : Program} {ops : List Oper} {effs frees : List Nat} {S : Nat → Bool} {s0 : ASt} {st : Nat → ASt}

/-- Which of the related ones have been carried out, when 'j' comes up. -/
theorem order_at (hok : drawOk ops effs frees = true) {listed : Array Bool} (hc : Closed ops listed) {j : Nat} {oj : Oper} (hoj : ops[j]? = some oj) (hr : j ∈ Region.ready .any ops.toArray listed) {i : Nat} {oi : Oper} (hoi : ops[i]? = some oi) (hij : i ≠ j)
    (h : conflict ops.toArray oi oj = true ∨ conflict ops.toArray oj oi = true ∨ (effs.contains i = true ∧ effs.contains j = true) ∨ (frees.contains i = true ∧ effs.contains i = true ∧ frees.contains j = false) ∨ (frees.contains j = true ∧ effs.contains j = true ∧ frees.contains i = false)) : listed.getD i false = true ↔ i < j := by
  have hjf : listed.getD j false = true → False := by
    intro h1
    have h2 := (mem_ready.1 hr).1
    rcases Nat.lt_or_ge j listed.size with h' | h'
    · simp [h'] at h1 h2; rw [h1] at h2; cases h2
    · simp [Array.getElem?_eq_none h'] at h1
  have sym : ∀ x y, conflict ops.toArray x y = true → conflict ops.toArray y x = true ∨ True := fun _ _ _ => .inr trivial
  rcases Nat.lt_or_gt_of_ne hij with hlt | hgt
  · refine ⟨fun _ => hlt, fun _ => ?_⟩
    have hc' : conflict ops.toArray oi oj = true ∨ (effs.contains i = true ∧ effs.contains j = true) ∨ (frees.contains i = true ∧ effs.contains i = true ∧ frees.contains j = false) ∨ (frees.contains j = true ∧ effs.contains j = true ∧ frees.contains i = false) := by
      rcases h with h | h | h
      · exact .inl h
      · left
        unfold conflict at h ⊢
        cases hx : oj.dst with
        | none =>
          cases hy : oi.dst with
          | none => rw [hx, hy] at h; simp at h
          | some d => rw [hx, hy] at h; simp at h ⊢; exact h
        | some d =>
          cases hy : oi.dst with
          | none => rw [hx, hy] at h; simp at h ⊢; exact h
          | some d' =>
            rw [hx, hy] at h
            simp at h ⊢
            rcases h with (h | h) | h
            · exact .inr h
            · exact .inl (.inr h.symm)
            · exact .inl (.inl h)
      · exact .inr h
    exact ((drawOk_spec hok).2 i j oi oj hlt hoi hoj hc').ready hc hr
  · refine ⟨fun hi => ?_, fun h' => absurd h' (by omega)⟩
    exfalso
    have hc' : conflict ops.toArray oj oi = true ∨ (effs.contains j = true ∧ effs.contains i = true) ∨ (frees.contains j = true ∧ effs.contains j = true ∧ frees.contains i = false) ∨ (frees.contains i = true ∧ effs.contains i = true ∧ frees.contains j = false) := by
      rcases h with h | h | h
      · left
        unfold conflict at h ⊢
        cases hx : oi.dst with
        | none =>
          cases hy : oj.dst with
          | none => rw [hx, hy] at h; simp at h
          | some d => rw [hx, hy] at h; simp at h ⊢; exact h
        | some d =>
          cases hy : oj.dst with
          | none => rw [hx, hy] at h; simp at h ⊢; exact h
          | some d' =>
            rw [hx, hy] at h
            simp at h ⊢
            rcases h with (h | h) | h
            · exact .inr h
            · exact .inl (.inr h.symm)
            · exact .inl (.inl h)
      · exact .inl h
      · exact .inr (h.elim (fun h => .inl ⟨h.2, h.1⟩) fun h => .inr h.symm)
    exact hjf (((drawOk_spec hok).2 j i oj oi hgt hoj hoi hc').listed hc hi)

/-- What is looked at stands as in the canonical walk. -/
theorem Sim0.looks (tr : Nx ops effs frees S s0 st) (hok : drawOk ops effs frees = true) {listed : Array Bool} {κ : Cx} {a : Act} (h : Sim0 ops st s0 listed κ a) {j : Nat} {oj : Oper} (hoj : ops[j]? = some oj)
    (hr : j ∈ Region.ready .any ops.toArray listed) {t : Nat} (ht : t ∈ oj.looksAt ops.toArray) : AgreeAt κ a (st j).tmps t := by
  have hjn : j < ops.length := (List.getElem?_eq_some_iff.1 hoj).1
  have hjun : listed.getD j false = true → False := by
    intro h1
    have h2 := (mem_ready.1 hr).1
    rcases Nat.lt_or_ge j listed.size with h' | h'
    · simp [h'] at h1 h2; rw [h1] at h2; cases h2
    · simp [Array.getElem?_eq_none h'] at h1
  by_cases htl : t < s0.tmps.length
  · obtain ⟨k, hk, hw, hag⟩ := h.tmps t htl
    have heq : (st k).tmps[t]? = (st j).tmps[t]? := by
      refine tr.stable' hk (by omega) (fun q o hq hd => ?_)
      by_cases hqj : q = j
      · subst hqj
        have := (hw q o hq hd)
        have hn : ¬ q < k := fun h' => hjun (this.2 h')
        omega
      · have hcf : conflict ops.toArray o oj = true := by
          unfold conflict
          rw [hd]
          simp only [List.contains_eq_mem, Bool.or_eq_true, decide_eq_true_eq]
          exact .inl (.inl ht)
        have h1 := order_at hok h.closed hoj hr hq hqj (.inl hcf)
        have h2 := hw q o hq hd
        have : q < k ↔ q < j := h2.symm.trans h1
        omega
    unfold AgreeAt at *
    rw [← heq]
    exact hag
  · left
    refine ⟨Array.getElem?_eq_none (by rw [h.len]; omega), List.getElem?_eq_none (by rw [tr.len j (by omega)]; omega)⟩

/-- 'j' is carried out. -/
theorem Sim0.step (tr : Nx ops effs frees S s0 st) (hok : drawOk ops effs frees = true) {base : Nat} {listed : Array Bool} {κ : Cx} {a : Act} (h : Sim0 ops st s0 listed κ a) {j : Nat} {oj : Oper} (hoj : ops[j]? = some oj)
    (hr : j ∈ Region.ready .any ops.toArray listed) {κ' : Cx} {v : Value} {r : AV} {H' : AH} {nx' : Nat} (hst : st (j + 1) = ⟨putA (st j).tmps oj.dst r, H', nx'⟩) (hrep : Rep κ'.W κ'.M κ'.F v r) (hext : Ext base κ κ') :
    Sim0 ops st s0 (listed.setIfInBounds j true) κ' (a.put oj.dst v) := by
  have hjn : j < ops.length := (List.getElem?_eq_some_iff.1 hoj).1
  have hjs : j < listed.size := by rw [h.size]; exact hjn
  have hg := fun i => getD_set listed j i hjs
  obtain ⟨_, oj', hoj', hdeps⟩ := mem_ready.1 hr
  have : oj' = oj := by
    have h1 : ops[j]? = some oj' := by simpa using hoj'
    rw [hoj] at h1
    exact (Option.some.inj h1).symm
  subst this
  refine ⟨by simp [h.size], fun k o ho hk e he hb => ?_, ?_, fun t ht => ?_, by rw [put_defers]; exact h.defers⟩
  · rw [hg] at hk ⊢
    split at hk
    · rename_i hkj
      subst hkj
      rw [hoj] at ho
      cases ho
      split
      · rfl
      · exact hdeps e (by simpa using he) hb
    · split
      · rfl
      · exact h.closed k o ho hk e he hb
  · cases hd : oj'.dst <;> simp [Act.put, h.len]
  · by_cases hd : oj'.dst = some t
    · refine ⟨j + 1, by omega, fun i o ho hdo => ?_, ?_⟩
      · rw [hg]
        split
        · rename_i hij; subst hij; simp
        · rename_i hij
          have hcf : conflict ops.toArray o oj' = true := by
            unfold conflict
            rw [hdo, hd]
            simp
          rw [order_at hok h.closed hoj hr ho hij (.inl hcf)]
          omega
      · right
        refine ⟨v, r, ?_, ?_, hrep⟩
        · rw [hd]
          simp only [Act.put]
          rw [Array.getElem?_setIfInBounds]
          simp [h.len, ht]
        · rw [hst]
          simp only [hd, putA]
          rw [List.getElem?_set]
          have := tr.len j (by omega)
          simp [this, ht]
    · obtain ⟨k, hk, hw, hag⟩ := h.tmps t ht
      refine ⟨k, hk, fun i o ho hdo => ?_, ?_⟩
      · rw [hg]
        split
        · rename_i hij
          subst hij
          rw [hoj] at ho
          cases ho
          exact absurd hdo hd
        · exact hw i o ho hdo
      · have := hag.ev hext.ev
        unfold AgreeAt at *
        have e : (a.put oj'.dst v).tmps[t]? = a.tmps[t]? := by
          cases hq : oj'.dst with
          | none => rfl
          | some d =>
            simp only [Act.put]
            rw [Array.getElem?_setIfInBounds_ne]
            intro e
            exact hd (by rw [hq, e])
        rw [e]
        exact this


/-- With the heap. -/
theorem Sim.step (tr : Nx ops effs frees S s0 st) (hok : drawOk ops effs frees = true) {base : Nat} {listed : Array Bool} {κ : Cx} {a : Act} (h : Sim ops effs st s0 base listed κ a) {j : Nat} {oj : Oper} (hoj : ops[j]? = some oj)
    (hr : j ∈ Region.ready .any ops.toArray listed) {κ' : Cx} {v : Value} {r : AV} {H' : AH} {nx' : Nat} (hst : st (j + 1) = ⟨putA (st j).tmps oj.dst r, H', nx'⟩) (hrep : Rep κ'.W κ'.M κ'.F v r) (hext : Ext base κ κ')
    (hheap : (effs.contains j = true ∧ Inv base κ' H' nx') ∨ (effs.contains j = false ∧ ∃ m, m ≤ ops.length ∧ (∀ i, i < ops.length → effs.contains i = true → (listed.getD i false = true ↔ i < m)) ∧ Inv base κ' (st m).H (st m).nx)) :
    Sim ops effs st s0 base (listed.setIfInBounds j true) κ' (a.put oj.dst v) := by
  have hjn : j < ops.length := (List.getElem?_eq_some_iff.1 hoj).1
  have hjs : j < listed.size := by rw [h.size]; exact hjn
  have hg := fun i => getD_set listed j i hjs
  refine ⟨h.toSim0.step tr hok hoj hr hst hrep hext, ?_⟩
  · rcases hheap with ⟨he, hi'⟩ | ⟨he, m, hm, hw, hi'⟩
    · refine ⟨j + 1, by omega, fun i hi hei => ?_, by rw [hst]; exact hi'⟩
      rw [hg]
      split
      · rename_i hij; subst hij; simp
      · rename_i hij
        rw [order_at hok h.closed hoj hr (List.getElem?_eq_getElem hi) hij (.inr (.inr (.inl ⟨hei, he⟩)))]
        omega
    · refine ⟨m, hm, fun i hi hei => ?_, hi'⟩
      rw [hg]
      split
      · rename_i hij; subst hij; rw [hei] at he; cases he
      · exact hw i hi hei

/-- All have been carried out. -/
theorem Sim0.all (tr : Nx ops effs frees S s0 st) {listed : Array Bool} {κ : Cx} {a : Act} (h : Sim0 ops st s0 listed κ a) (hall : ∀ i, i < ops.length → listed.getD i false = true) : Reps κ a.tmps.toList (st ops.length).tmps := by
  refine ⟨by rw [tr.len _ (Nat.le_refl _)]; simpa using h.len, fun t v x h1 h2 => ?_⟩
  have ht : t < s0.tmps.length := by
    have := (List.getElem?_eq_some_iff.1 h2).1
    rw [tr.len _ (Nat.le_refl _)] at this
    exact this
  obtain ⟨k, hk, hw, hag⟩ := h.tmps t ht
  have heq : (st k).tmps[t]? = (st ops.length).tmps[t]? := tr.stable' hk (Nat.le_refl _) (fun q o hq hd => by
    have hqn := (List.getElem?_eq_some_iff.1 hq).1
    have := (hw q o hq hd).1 (hall q hqn)
    omega)
  have h1' : a.tmps[t]? = some v := by simpa using h1
  rcases hag with ⟨h3, _⟩ | ⟨v', x', h3, h4, h5⟩
  · rw [h1'] at h3; cases h3
  · rw [h1'] at h3
    cases h3
    rw [heq, h2] at h4
    cases h4
    exact h5
theorem Sim.all (tr : Nx ops effs frees S s0 st) {base : Nat} {listed : Array Bool} {κ : Cx} {a : Act} (h : Sim ops effs st s0 base listed κ a) (hall : ∀ i, i < ops.length → listed.getD i false = true) : St base κ a (st ops.length) := by
  refine ⟨?_, h.toSim0.all tr hall, h.defers⟩
  obtain ⟨m, hm, hw, hinv⟩ := h.heap
  have := tr.heap' hm (Nat.le_refl _) (fun q hq he => by
    have := (hw q hq he).1 (hall q hq)
    omega)
  rw [← this.1, ← this.2]
  exact hinv
/-- Nothing is ready: all has been carried out. -/
theorem all_of_ready (hok : drawOk ops effs frees = true) {listed : Array Bool} (hs : listed.size = ops.length) (h : Region.ready .any ops.toArray listed = []) : ∀ i, i < ops.length → listed.getD i false = true := by
  intro i
  induction i using Nat.strongRecOn with
  | _ i ih =>
    intro hi
    cases hl : listed.getD i false with
    | true => rfl
    | false =>
      exfalso
      have hmem : i ∈ Region.ready .any ops.toArray listed := by
        refine mem_ready.2 ⟨?_, ops[i], by simp [hi], fun e he hb => ?_⟩
        · simpa [hs, hi] using hl
        · have := (drawOk_spec hok).1 i _ (List.getElem?_eq_getElem hi) e (by simpa using he) hb
          exact ih e.on this (by omega)
      rw [h] at hmem
      cases hmem

theorem sim_any (tr : Trace P ops effs frees S s0 st) (hok : drawOk ops effs frees = true) {base : Nat} {Q : Exit → Act → World → Prop} {κ0 : Cx}
    (hQ : ∀ κ a, St base κ a (st ops.length) → Ext base κ0 κ → Q .normal a κ.W) : ∀ (fuel : Nat) (listed : Array Bool) (κ : Cx) (a : Act), cntT (fun i => listed.getD i false) ops.length + fuel = ops.length →
      Ext base κ0 κ → Sim ops effs st s0 base listed κ a → wpAny P .any ops.toArray Q fuel listed a κ.W := by
  have fin : ∀ (listed : Array Bool) (κ : Cx) (a : Act), Ext base κ0 κ → Sim ops effs st s0 base listed κ a → Region.ready .any ops.toArray listed = [] → Q .normal a κ.W :=
    fun listed κ a he h hr => hQ κ a (h.all tr.nxs (all_of_ready hok h.size hr)) he
  intro fuel
  induction fuel with
  | zero =>
    intro listed κ a hc he h
    have hall := cntT_all _ _ (by simpa using hc)
    have hr : Region.ready .any ops.toArray listed = [] := by
      cases hq : Region.ready .any ops.toArray listed with
      | nil => rfl
      | cons j l =>
        exfalso
        have hj : j ∈ Region.ready .any ops.toArray listed := by rw [hq]; simp
        obtain ⟨h1, o, ho, _⟩ := mem_ready.1 hj
        have hjn : j < ops.length := by
          have : ops[j]? = some o := by simpa using ho
          exact (List.getElem?_eq_some_iff.1 this).1
        have := hall j hjn
        have hjs : j < listed.size := by rw [h.size]; exact hjn
        simp [hjs] at h1 this
        rw [this] at h1
        cases h1
    exact ⟨hr, fin listed κ a he h hr⟩
  | succ fuel ih =>
    intro listed κ a hc he h
    refine ⟨fin listed κ a he h, fun j hj => ?_⟩
    obtain ⟨hun, oj, hoj0, _⟩ := mem_ready.1 hj
    have hoj : ops[j]? = some oj := by simpa using hoj0
    have hjn : j < ops.length := (List.getElem?_eq_some_iff.1 hoj).1
    have hjs : j < listed.size := by rw [h.size]; exact hjn
    have hcount : cntT (fun i => (listed.setIfInBounds j true).getD i false) ops.length + fuel = ops.length := by
      have := cntT_set (fun i => listed.getD i false) (fun i => (listed.setIfInBounds j true).getD i false) j (by simpa [hjs] using hun) (by simp [hjs]) (fun i hi => getD_set_ne false (Ne.symm hi)) ops.length
      rw [this, if_pos hjn]
      omega
    have looks := fun t ht => h.toSim0.looks tr.nxs hok hoj hj (t := t) ht
    unfold wpOp
    rw [hoj0]
    simp only
    have guardLooks : ∀ j' want, oj.guard = some (j', want) → ∀ d, (ops[j']?).bind (·.dst) = some d → AgreeAt κ a (st j).tmps d := by
      intro j' want hg d hd
      apply looks
      unfold Oper.looksAt
      rw [List.mem_append]
      right
      rw [hg]
      simp only [List.getElem?_toArray, hd]
      simp
    rcases tr.step j oj hoj with ⟨j', want, hg, hga, hst⟩ | ⟨hg, r, H', nx', hst, hcase⟩
    · have hw := guardA_at hga hg (guardLooks j' want hg)
      rw [hw]
      simp only [Bool.false_eq_true, if_false]
      -- it is not wanted
      have hsim : Sim ops effs st s0 base (listed.setIfInBounds j true) κ (a.put oj.dst undef) := by
        refine h.step tr.nxs hok hoj hj hst (.tup [] [] rfl (fun j v a h => by simp at h)) (.refl _ _) ?_
        cases hq : effs.contains j with
        | false => exact .inr ⟨rfl, h.heap⟩
        | true =>
          left
          refine ⟨rfl, ?_⟩
          -- the heap is the canonical one there
          obtain ⟨m, hm, hwm, hinv⟩ := h.heap
          have hjf : ¬ listed.getD j false = true := by
            simp [hjs] at hun ⊢
            exact hun
          have := tr.nxs.heap' hm (show j ≤ ops.length by omega) (fun q hqn heq => by
            have h1 := hwm q hqn heq
            by_cases hqj : q = j
            · subst hqj
              have : ¬ q < m := fun h' => hjf (h1.2 h')
              omega
            · have h2 := order_at hok h.closed hoj hj (List.getElem?_eq_getElem hqn) hqj (.inr (.inr (.inl ⟨heq, hq⟩)))
              have : q < m ↔ q < j := h1.symm.trans h2
              omega)
          rw [← this.1, ← this.2]
          exact hinv
      exact ih _ κ _ hcount he hsim
    · have hw : Region.wanted oj (yielded ops.toArray a.tmps) = true := by
        rcases hg with hg | ⟨j', want, hg, hga⟩
        · simp [Region.wanted, hg]
        · exact guardA_at hga hg (guardLooks j' want hg)
      rw [hw]
      simp only [if_true]
      left
      have hρ : ∀ x ∈ oj.op.operands.toList, Rep κ.W κ.M κ.F (a.eval x) (evA (st j).tmps x) := by
        intro x hx
        cases x with
        | tmp t =>
          apply AgreeAt.eval
          apply looks
          unfold Oper.looksAt
          rw [List.mem_append]
          left
          rw [List.mem_filterMap]
          exact ⟨.tmp t, hx, rfl⟩
        | const v => exact cstA_rep κ v
        | func f => exact .fn f [] [] rfl (fun j v a h => by simp at h)
        | global g => exact .junk _
      obtain ⟨m, hm, hwm, hinv⟩ := h.heap
      cases hq : effs.contains j with
      | false =>
        rw [hq] at hcase
        simp only [Bool.false_eq_true, if_false] at hcase
        obtain ⟨rfl, rfl, hos⟩ := hcase
        have hjf : ¬ listed.getD j false = true := by
          simp [hjs] at hun ⊢
          exact hun
        have hmask : maskH (SF frees S j) (st m).H = maskH (SF frees S j) (st j).H := by
          unfold SF
          split
          · rfl
          · rename_i hfj
            have hfj : frees.contains j = false := by cases hx : frees.contains j <;> simp_all
            exact tr.nxs.mask' hm (show j ≤ ops.length by omega) (fun q hqn hfq heq => by
              have h1 := hwm q hqn heq
              by_cases hqj : q = j
              · subst hqj
                rw [heq] at hq; cases hq
              · have h2 := order_at hok h.closed hoj hj (List.getElem?_eq_getElem hqn) hqj (.inr (.inr (.inr (.inl ⟨hfq, heq, hfj⟩))))
                have : q < m ↔ q < j := h1.symm.trans h2
                omega)
        refine hos _ _ hmask hinv hρ (fun v κ' hr hext hinv' => ?_)
        refine ih _ κ' _ hcount (he.trans hext) ?_
        exact h.step tr.nxs hok hoj hj hst hr hext (.inr ⟨hq, m, hm, hwm, hinv'⟩)
      | true =>
        rw [hq] at hcase
        simp only [if_true] at hcase
        have hjf : ¬ listed.getD j false = true := by
          simp [hjs] at hun ⊢
          exact hun
        have heq := tr.nxs.heap' hm (show j ≤ ops.length by omega) (fun q hqn heq => by
          have h1 := hwm q hqn heq
          by_cases hqj : q = j
          · subst hqj
            have : ¬ q < m := fun h' => hjf (h1.2 h')
            omega
          · have h2 := order_at hok h.closed hoj hj (List.getElem?_eq_getElem hqn) hqj (.inr (.inr (.inl ⟨heq, hq⟩)))
            have : q < m ↔ q < j := h1.symm.trans h2
            omega)
        rw [heq.1, heq.2] at hinv
        refine hcase.1 hinv hρ (fun v κ' hr hext hinv' => ?_)
        exact ih _ κ' _ hcount (he.trans hext) (h.step tr.nxs hok hoj hj hst hr hext (.inl ⟨hq, hinv'⟩))

/-- A REGION THAT DRAWS ITS ORDER. -/
theorem draw_sound0 (hm : P.follows .mixedOrders = true) {K : ASt → Prop} {s : ASt} {id : Nat} (h : ADraw0 P ops K s) {base : Nat} {κ : Cx} {a : Act} (hs : St base κ a s) {Q : Exit → Act → World → Prop}
    (hQ : ∀ a' W', Post base κ K a' W' → Q .normal a' W') : (Code.region id ops.toArray true).wp P Q a κ.W := by
  obtain ⟨effs, frees, S, hok, hd⟩ := h
  obtain ⟨st, h0, hK, hstep⟩ := trace_of ops 0 s hd (by simp)
  have tr : Trace P ops effs frees S s st := ⟨h0, fun i o ho => hstep i o (Nat.zero_le _) ho⟩
  simp only [Nat.zero_add] at hK
  refine wp_region_any hm ?_
  have hd' : ({ κ.W with drawn := κ.W.drawn + 1 } : World) = κ.drew.W := rfl
  rw [hd']
  have hsz : ops.toArray.size = ops.length := by simp
  rw [hsz]
  refine sim_any (κ0 := κ) tr hok (fun κ' a' hst hext => hQ a' κ'.W ⟨st ops.length, κ', rfl, hst, hext, hK⟩) ops.length _ κ.drew a ?_ (.drew base κ) ?_
  · have : cntT (fun i => (Array.replicate ops.length false).getD i false) ops.length = 0 := by
      have key : ∀ n, cntT (fun i => (Array.replicate ops.length false).getD i false) n = 0 := by
        intro n
        induction n with
        | zero => rfl
        | succ n ih =>
          unfold cntT
          rw [ih]
          by_cases hn : n < ops.length <;> simp [hn]
      exact key _
    rw [this]
    simp
  · have hf : ∀ i, (Array.replicate ops.length false).getD i false = true → False := by
      intro i h
      by_cases hn : i < ops.length <;> simp [hn] at h
    refine ⟨⟨by simp, fun j o ho hj => absurd hj (hf j), ?_, fun t ht => ?_, hs.defers⟩, 0, Nat.zero_le _, fun i hi he => ⟨fun h => absurd h (hf i), fun h => absurd h (Nat.not_lt_zero _)⟩, by rw [h0]; exact hs.inv.drew⟩
    · have := hs.tmps.1; simpa using this
    · refine ⟨0, Nat.zero_le _, fun i o ho hd => ⟨fun h => absurd h (hf i), fun h => absurd h (Nat.not_lt_zero _)⟩, ?_⟩
      rw [h0]
      obtain ⟨v, hv, hr⟩ := hs.tmps.at (List.getElem?_eq_getElem ht)
      exact .inr ⟨v, s.tmps[t], by simpa using hv, List.getElem?_eq_getElem ht, hr.ev (.drew κ)⟩
end
end Go.TH

/-
  TH, part 161: regions that draw their order, with one variable that is made beside all of it and set at the end.
-/
set_option linter.unusedVariables false
set_option linter.unusedSimpArgs false
namespace Go.TH
open Go
theorem upd_comm (H : AH) {i j : Nat} (x y : ABlk) (h : i ≠ j) : upd (upd H i x) j y = upd (upd H j y) i x := by
  funext q
  simp only [upd]
  split
  · split
    · omega
    · rfl
  · rfl
section ext
variable {P : Program} {H : AH} {a : Nat} {B : ABlk}
theorem cellsA_ext {x : AV} {cs : List AV} (h : cellsA H x = some cs) (ha : H a = .dead) : cellsA (upd H a B) x = some cs := by
  cases x with
  | ptr id ver off =>
    have : id ≠ a := by rintro rfl; simp [cellsA, ha] at h
    simpa [cellsA, upd_ne _ _ this] using h
  | msl id ver sz off n =>
    have : id ≠ a := by rintro rfl; simp [cellsA, ha] at h
    simpa [cellsA, upd_ne _ _ this] using h
  | _ => exact h
theorem rdSl_ext {x : AV} {q : Nat × List AV} (h : rdSl H x = some q) (ha : H a = .dead) : rdSl (upd H a B) x = some q := by
  cases x with
  | msl id ver sz off n =>
    have : id ≠ a := by rintro rfl; simp [rdSl, ha] at h
    simpa [rdSl, upd_ne _ _ this] using h
  | _ => exact h
theorem srcA_ext {tx : TypeId} {sz : Nat} {x : AV} {q : Nat × List AV} (h : srcA P H tx sz x = some q) (ha : H a = .dead) : srcA P (upd H a B) tx sz x = some q := by
  unfold srcA at h ⊢
  split at h
  · exact h
  · split at h
    · rename_i hs
      rw [if_pos hs]
      exact rdSl_ext h ha
    · cases h
theorem appA_ext {nx : Nat} {t tx : TypeId} {s x : AV} {p : Prop} {r : AV} {H' : AH} {nx' : Nat} (h : appA P H nx t tx s x = some (p, r, H', nx')) (ha : H a = .dead) (hn : a < nx) :
    appA P (upd H a B) nx t tx s x = some (p, r, upd H' a B, nx') ∧ H' a = .dead ∧ a < nx' := by
  unfold appA at h ⊢
  cases h1 : tySl P t with
  | none => rw [h1] at h; cases h
  | some q =>
    obtain ⟨e, sz, by'⟩ := q
    simp only [h1] at h ⊢
    cases h2 : tyZ P e with
    | none => simp only [h2] at h; cases h
    | some z =>
      cases h3 : srcA P H tx sz x with
      | none => simp only [h2, h3] at h; cases h
      | some q =>
        obtain ⟨m, xs⟩ := q
        have h3' := srcA_ext (B := B) h3 ha
        simp only [h2, h3] at h
        simp only [h2, h3']
        split at h
        · rename_i hz
          rw [if_pos hz]
          cases s with
          | msl id ver sz' off n =>
            simp only at h ⊢
            cases h4 : H id with
            | dead => rw [h4] at h; cases h
            | live v cells =>
              have hne : id ≠ a := by rintro rfl; rw [ha] at h4; cases h4
              rw [h4] at h
              rw [upd_ne _ _ hne, h4]
              cases h
              exact ⟨by rw [upd_comm _ _ _ hne], by rw [upd_ne _ _ (Ne.symm hne), ha], hn⟩
          | sl n t' cells =>
            cases t' with
            | true =>
              simp only at h ⊢
              split at h
              · rename_i hm
                rw [if_pos hm]
                cases h
                exact ⟨rfl, ha, hn⟩
              · rename_i hm
                rw [if_neg hm]
                cases h
                exact ⟨by rw [upd_comm _ _ _ (by omega)], by rw [upd_ne _ _ (by omega), ha], by omega⟩
            | false => cases h
          | _ => cases h
        · cases h
theorem fillA_ext {places : List (Nat × Nat)} (ha : H a = .dead) : ∀ (parts : List (Nat × AV)) (cells : List AV) {cs : List AV}, fillA H places cells parts = some cs → fillA (upd H a B) places cells parts = some cs
  | [], cells, cs, h => h
  | (i, x) :: rest, cells, cs, h => by
    unfold fillA at h ⊢
    cases h1 : places[i]? with
    | none => simp only [h1] at h; cases h
    | some q =>
      obtain ⟨off, size⟩ := q
      cases h2 : cellsA H x with
      | none => simp only [h1, h2] at h; cases h
      | some c =>
        simp only [h1, h2] at h
        simp only [cellsA_ext (B := B) h2 ha]
        split at h
        · rename_i hc
          rw [if_pos hc]
          exact fillA_ext ha rest _ h
        · cases h
end ext
def isApp : Op → Bool
  | .call c => (match c.callee, c.argTypes.toList, c.args.toList with
      | .builtin .append, [_, _], [_, _] => true
      | _, _, _ => false)
  | _ => false
def allocZ (P : Program) : Op → Option (List AV)
  | .alloc t => tyZ P t
  | _ => none
def isBld : Op → Bool
  | .build _ _ => true
  | _ => false
/-- A main effect: append, a struct put together, or a call that is the same whatever stands at 'a'. -/
def zB (z : List AV) (b : Bool) : ABlk := if b = true then .live 1 z else .live 0 []
def dopF (P : Program) (a : Nat) (z : List AV) (dst : Option Tmp) (op : Op) (s : ASt) (K : ASt → Prop) : Prop :=
  match callV op with
  | some (f, args) => (match evA s.tmps f with
      | .fn g cap => ∃ r H' nx', H' a = .dead ∧ a < nx' ∧ (∀ b, CallC P g (args.map (evA s.tmps) ++ cap) (upd s.H a (zB z b)) s.nx r (upd H' a (zB z b)) nx') ∧ K ⟨putA s.tmps dst r, H', nx'⟩
      | _ => False)
  | none => (isApp op || isBld op) = true ∧ aop P dst op s K
/-- The canonical walk: 'j' makes the variable, 'f' sets it. -/
def dopsF (P : Program) (effs frees : List Nat) (f j a : Nat) (z : List AV) (S : Nat → Bool) (K : ASt → Prop) : Nat → List Oper → ASt → Prop
  | _, [], s => K s
  | i, o :: r, s => o.guard = none ∧
    if i = j then (allocZ P o.op = some z ∧ dopsF P effs frees f j a z S K (i + 1) r ⟨putA s.tmps o.dst (.ptr a 1 0), s.H, s.nx⟩)
    else if i = f then aopD P o.dst o.op ⟨s.tmps, upd s.H a (.live 1 z), s.nx⟩ (dopsF P effs frees f j a z S K (i + 1) r)
    else if effs.contains i = true then dopF P a z o.dst o.op s (fun s' => maskH S s'.H = maskH S s.H ∧ dopsF P effs frees f j a z S K (i + 1) r s')
    else dop P false (SF frees S i) o.dst o.op s (dopsF P effs frees f j a z S K (i + 1) r)
/-- What is free: the last effect, all behind it, and steps that see nothing. -/
def freesOk (effs frees : List Nat) (f j n : Nat) : Bool := frees.contains f && !(frees.contains j) && (List.range n).all fun i => (!(decide (f < i)) || (frees.contains i && !(effs.contains i))) && (!(effs.contains i) || decide (i = f) || !(frees.contains i))
structure FreesOk (effs frees : List Nat) (f j n : Nat) : Prop where
  ff : frees.contains f = true
  jf : frees.contains j = false
  beh : ∀ i, f < i → i < n → frees.contains i = true ∧ effs.contains i = false
  eff : ∀ i, i < n → effs.contains i = true → i ≠ f → frees.contains i = false
theorem freesOk_spec {effs frees : List Nat} {f j n : Nat} (h : freesOk effs frees f j n = true) : FreesOk effs frees f j n := by
  unfold freesOk at h
  simp only [Bool.and_eq_true, Bool.not_eq_true', List.all_eq_true, List.mem_range, Bool.or_eq_true, decide_eq_true_eq, decide_eq_false_iff_not] at h
  obtain ⟨⟨h1, h2⟩, h3⟩ := h
  refine ⟨h1, h2, fun i hi hn => ?_, fun i hn he hne => ?_⟩
  · rcases (h3 i hn).1 with h | h
    · exact absurd hi h
    · exact h
  · rcases (h3 i hn).2 with (h | h) | h
    · rw [he] at h; cases h
    · exact absurd h hne
    · exact h
def ADrawF (P : Program) (ops : List Oper) (K : ASt → Prop) (s : ASt) : Prop :=
  ∃ (effs frees : List Nat) (f j : Nat) (z : List AV) (S : Nat → Bool), drawOk ops effs frees = true ∧ effs.contains f = true ∧ effs.contains j = false ∧ j < f ∧ f < ops.length ∧ FreesOk effs frees f j ops.length ∧ S s.nx = true ∧
    dopsF P effs frees f j s.nx z S K 0 ops ⟨s.tmps, s.H, s.nx + 1⟩
def ADraw (P : Program) (ops : List Oper) (K : ASt → Prop) (s : ASt) : Prop := ADraw0 P ops K s ∨ ADrawF P ops K s

/-! ### Soundness -/
section
variable {P : Program}
theorem app_ostep {o : Oper} {a : Nat} {s : ASt} {K : ASt → Prop} (hc : callV o.op = none) (hi : isApp o.op = true) (h : aop P o.dst o.op s K) (ha : s.H a = .dead) (hn : a < s.nx) :
    ∃ r H' nx', H' a = .dead ∧ a < nx' ∧ (∀ B, OStep P o (evA s.tmps) (upd s.H a B) s.nx r (upd H' a B) nx') ∧ K ⟨putA s.tmps o.dst r, H', nx'⟩ := by
  unfold aop at h
  rw [hc] at h
  simp only at h
  unfold bindP at h
  split at h
  · rename_i p x hst
    obtain ⟨r, H', nx'⟩ := x
    obtain ⟨hp, hK⟩ := h
    unfold isApp at hi
    split at hi
    · rename_i c hop
      split at hi
      · rename_i t tx x1 x2 e1 e2 e3
        have hh : ∀ H nx, astep P (evA s.tmps) H nx o.op = appA P H nx t tx (evA s.tmps x1) (evA s.tmps x2) := by
          intro H nx
          unfold astep
          rw [hop]
          simp only [qstep, hstep, e1, e2, e3, List.map_cons, List.map_nil, builtA]
        have hh2 : ∀ H nx, hstep P (evA s.tmps) H nx o.op = appA P H nx t tx (evA s.tmps x1) (evA s.tmps x2) := by
          intro H nx
          rw [hop]
          simp only [hstep, e1, e2, e3, List.map_cons, List.map_nil]
        rw [hh] at hst
        refine ⟨r, H', nx', (appA_ext (B := .dead) hst ha hn).2.1, (appA_ext (B := .dead) hst ha hn).2.2, fun B => ?_, hK⟩
        exact OStep.of_h (hstep_sound (by rw [hh2]; exact (appA_ext (B := B) hst ha hn).1)) hp
      · cases hi
    · cases hi
  · exact h.elim
theorem bld_ostep {o : Oper} {a : Nat} {s : ASt} {K : ASt → Prop} (hc : callV o.op = none) (hi : isBld o.op = true) (h : aop P o.dst o.op s K) (ha : s.H a = .dead) (hn : a < s.nx) :
    ∃ r H' nx', H' a = .dead ∧ a < nx' ∧ (∀ B, OStep P o (evA s.tmps) (upd s.H a B) s.nx r (upd H' a B) nx') ∧ K ⟨putA s.tmps o.dst r, H', nx'⟩ := by
  unfold aop at h
  rw [hc] at h
  simp only at h
  unfold bindP at h
  split at h
  · rename_i p x hst
    obtain ⟨r, H', nx'⟩ := x
    obtain ⟨hp, hK⟩ := h
    unfold isBld at hi
    split at hi
    · rename_i t parts hop
      unfold astep at hst
      cases hq : qstep P (evA s.tmps) s.H o.op with
      | none =>
        rw [hq] at hst
        rw [hop] at hst
        simp [hstep] at hst
      | some q =>
        rw [hq] at hst
        cases hst
        refine ⟨q.2, s.H, s.nx, ha, hn, fun B => ?_, hK⟩
        have hq2 : qstep P (evA s.tmps) (upd s.H a B) o.op = some (q.1, q.2) := by
          rw [hop] at hq ⊢
          simp only [qstep] at hq ⊢
          cases h1 : tyZ P t with
          | none => simp only [h1] at hq; cases hq
          | some z =>
            cases h2 : tyFs P t with
            | none => simp only [h1, h2] at hq; cases hq
            | some places =>
              simp only [h1, h2] at hq ⊢
              cases h3 : fillA s.H places z (parts.toList.map fun x => (x.1, evA s.tmps x.2)) with
              | none => rw [h3] at hq; cases hq
              | some cs =>
                rw [h3] at hq
                rw [fillA_ext (B := B) ha _ _ h3]
                exact hq
        have hok : HOk P o (evA s.tmps) (upd s.H a B) s.nx q.1 q.2 (upd s.H a B) s.nx := HOk.of_quiet (qstep_sound hq2)
        intro base κ ac K' Q' h1 h2 h3
        exact OStep.of_h hok hp h1 h2 h3
    · cases hi
  · exact h.elim
theorem dopF_ostep {o : Oper} {a : Nat} {z : List AV} {s : ASt} {K : ASt → Prop} (h : dopF P a z o.dst o.op s K) (ha : s.H a = .dead) (hn : a < s.nx) :
    ∃ r H' nx', H' a = .dead ∧ a < nx' ∧ (∀ b, OStep P o (evA s.tmps) (upd s.H a (zB z b)) s.nx r (upd H' a (zB z b)) nx') ∧ K ⟨putA s.tmps o.dst r, H', nx'⟩ := by
  unfold dopF at h
  split at h
  · rename_i f args hc
    split at h
    · rename_i g cap hf
      obtain ⟨r, H', nx', h1, h2, h3, h4⟩ := h
      exact ⟨r, H', nx', h1, h2, fun b => OStep.of_call hc hf (h3 b), h4⟩
    · exact h.elim
  · rename_i hc
    obtain ⟨h1, h2⟩ := h
    rw [Bool.or_eq_true] at h1
    rcases h1 with h1 | h1
    · obtain ⟨r, H', nx', q1, q2, q3, q4⟩ := app_ostep hc h1 h2 ha hn
      exact ⟨r, H', nx', q1, q2, fun b => q3 _, q4⟩
    · obtain ⟨r, H', nx', q1, q2, q3, q4⟩ := bld_ostep hc h1 h2 ha hn
      exact ⟨r, H', nx', q1, q2, fun b => q3 _, q4⟩
theorem alloc_float {o : Oper} {t : TypeId} {z : List AV} {a : Nat} (ho : o.op = .alloc t) (hz : tyZ P t = some z) {base : Nat} {κ : Cx} {H : AH} {nx : Nat} {ρ : Operand → Value} (hi : Inv base κ (upd H a (.live 0 [])) nx) :
    ∃ κ' v, (execOp ρ o).run P κ.W = .ok (.value v) κ'.W ∧ Rep κ'.W κ'.M κ'.F v (.ptr a 1 0) ∧ Ext base κ κ' ∧ Inv base κ' (upd H a (.live 1 z)) nx := by
  obtain ⟨i, zv, hinf, hzero, hsz, h1, rfl⟩ := tyZ_spec hz
  let κ1 : Cx := ⟨κ.W.alloc (.cells zv.cells t), κ.M, κ.F⟩
  have ev1 : Ev κ κ1 := ⟨fun b hb => ⟨hb, heap_alloc_lt _ _ (hi.hF b hb)⟩, fun id e he => ⟨e, he, .inr rfl⟩, fun b cs T fz hb => ⟨cs, fz, (heap_alloc_lt _ _ (heap_some_lt hb)).trans hb, rfl⟩⟩
  have ext1 : Ext base κ κ1 := ⟨ev1, rfl, rfl, rfl, by simp [κ1], fun b hb => heap_alloc_lt _ _ (Nat.lt_of_lt_of_le hb hi.hbase), fun _ h => .inl h⟩
  have inv1 : Inv base κ1 (upd H a (.live 0 [])) nx := by
    refine ⟨fun b hb => Nat.lt_of_lt_of_le (hi.hF b hb) (by simp [κ1]), Nat.le_trans hi.hbase (by simp [κ1]), hi.hM, fun id ver cells hl => ?_, hi.inj⟩
    obtain ⟨e, he, hv, hh⟩ := hi.live id ver cells hl
    exact ⟨e, he, hv, hh.ev ev1 (fun _ _ _ h => h) (fun b hb => heap_alloc_lt _ _ (hh.lt hb))⟩
  obtain ⟨e, he, hv, _⟩ := hi.live a 0 [] (upd_same ..)
  have hm : κ1.M a = some ⟨0, e.blk⟩ := by
    show κ.M a = _
    rw [he, ← hv]
  have hb1 : (κ.W.alloc (.cells zv.cells t)).heap[κ.W.heap.size]? = some (.cells zv.cells t) := heap_alloc_at _ _
  have hh' : Held base (κ1.move a 0 (some κ.W.heap.size)) ⟨0 + 1, some κ.W.heap.size⟩ (zv.cells.toList.map cst1) := by
    refine ⟨hi.hbase, fun h => absurd (hi.hF _ h) (Nat.lt_irrefl _), zv.cells.toList, [], t, ?_, h1, cst_reps _ _⟩
    rw [List.append_nil, Array.toArray_toList]
    exact hb1
  have inv2 := inv1.move (upd_same ..) hm hh' (fun j ej x hj h2 h3 h4 => by
    cases h4
    cases hd : (upd H a (.live 0 [])) j with
    | dead => rfl
    | live ver cells =>
      obtain ⟨e', he', _, hh⟩ := hi.live j ver cells hd
      have h2' : κ.M j = some ej := h2
      rw [h2'] at he'
      cases he'
      have := hh.lt h3
      omega)
  rw [upd_upd] at inv2
  refine ⟨κ1.move a 0 (some κ.W.heap.size), .pointer (some ⟨κ.W.heap.size, 0, none⟩), ?_, .ptr _ _ _ _ (by simp [Cx.move]), ext1.trans (move_ext hm), inv2⟩
  simp [execOp, ho, Instr.alloc, zeroValue, typeInfo, hinf, hzero, newVar, newRow, Cx.move, κ1]

variable {ops : List Oper} {effs frees : List Nat} {S : Nat → Bool} {st : Nat → ASt} {s1 : ASt} {f j a : Nat} {z : List AV}
/-- One step of the canonical walk. -/
def StepF (P : Program) (effs frees : List Nat) (f j a : Nat) (z : List AV) (S : Nat → Bool) (i : Nat) (o : Oper) (s s' : ASt) : Prop :=
  o.guard = none ∧
    if i = j then (allocZ P o.op = some z ∧ s' = ⟨putA s.tmps o.dst (.ptr a 1 0), s.H, s.nx⟩)
    else if i = f then (∃ r H' nx', s' = ⟨putA s.tmps o.dst r, H', nx'⟩ ∧ OStep P o (evA s.tmps) (upd s.H a (.live 1 z)) s.nx r H' nx')
    else if effs.contains i = true then (∃ r H' nx', s' = ⟨putA s.tmps o.dst r, H', nx'⟩ ∧ maskH S H' = maskH S s.H ∧ ∀ b, OStep P o (evA s.tmps) (upd s.H a (zB z b)) s.nx r (upd H' a (zB z b)) nx')
    else ∃ r, s' = ⟨putA s.tmps o.dst r, s.H, s.nx⟩ ∧ ∀ H nx, maskH (SF frees S i) H = maskH (SF frees S i) s.H → OStep P o (evA s.tmps) H nx r H nx
theorem traceF_of {K : ASt → Prop} : ∀ (l : List Oper) (i : Nat) (s : ASt), dopsF P effs frees f j a z S K i l s → (∀ k, l[k]? = ops[i + k]?) → (i ≤ f → s.H a = .dead ∧ a < s.nx) → FreesOk effs frees f j ops.length →
    ∃ st : Nat → ASt, st i = s ∧ K (st (i + l.length)) ∧ ∀ (q : Nat) (o : Oper), i ≤ q → ops[q]? = some o → StepF P effs frees f j a z S q o (st q) (st (q + 1))
  | [], i, s, h, hl, _, _ => ⟨fun _ => s, rfl, h, fun q o hq ho => by
      have := hl (q - i)
      rw [show i + (q - i) = q by omega, ho] at this
      simp at this⟩
  | o :: l, i, s, h, hl, hd, hf => by
    have hl' : ∀ k, l[k]? = ops[i + 1 + k]? := fun k => by have := hl (k + 1); simpa [Nat.add_assoc, Nat.add_comm 1 k] using this
    have ho0 : ops[i]? = some o := by simpa using (hl 0).symm
    have hin : i < ops.length := (List.getElem?_eq_some_iff.1 ho0).1
    have ext : ∀ s' : ASt, dopsF P effs frees f j a z S K (i + 1) l s' → (i + 1 ≤ f → s'.H a = .dead ∧ a < s'.nx) → StepF P effs frees f j a z S i o s s' →
        ∃ st : Nat → ASt, st i = s ∧ K (st (i + (o :: l).length)) ∧ ∀ (q : Nat) (o : Oper), i ≤ q → ops[q]? = some o → StepF P effs frees f j a z S q o (st q) (st (q + 1)) := by
      intro s' hs' hd' hstep
      obtain ⟨st, h1, h2, h3⟩ := traceF_of l (i + 1) s' hs' hl' hd' hf
      refine ⟨fun k => if k = i then s else st k, by simp, ?_, fun q o' hq ho' => ?_⟩
      · have : i + (o :: l).length ≠ i := by simp
        simp only [this, if_false]
        rw [show i + (o :: l).length = i + 1 + l.length by simp; omega]
        exact h2
      · by_cases hqi : q = i
        · subst hqi
          rw [ho0] at ho'
          cases ho'
          simp only [if_true, show q + 1 ≠ q by omega, if_false, h1]
          exact hstep
        · have e2 : q + 1 ≠ i := by omega
          simp only [hqi, e2, if_false]
          exact h3 q o' (by omega) ho'
    unfold dopsF at h
    obtain ⟨hg, h⟩ := h
    by_cases hij : i = j
    · rw [if_pos hij] at h
      refine ext _ h.2 (fun hi => hd (by omega)) ⟨hg, ?_⟩
      rw [if_pos hij]
      exact ⟨h.1, rfl⟩
    rw [if_neg hij] at h
    by_cases hif : i = f
    · rw [if_pos hif] at h
      obtain ⟨r, H', nx', h1, h2⟩ := aop_ostep h
      refine ext _ h2 (fun hi => by omega) ⟨hg, ?_⟩
      rw [if_neg hij, if_pos hif]
      exact ⟨r, H', nx', rfl, h1⟩
    rw [if_neg hif] at h
    by_cases hie : effs.contains i = true
    · obtain ⟨hda, hdn⟩ := hd (by
        rcases Nat.lt_or_ge f i with h5 | h5
        · rw [(hf.beh i h5 hin).2] at hie; cases hie
        · exact h5)
      rw [if_pos hie] at h
      obtain ⟨r, H', nx', h1, h2, h3, h4, h5⟩ := dopF_ostep h hda hdn
      refine ext _ h5 (fun _ => ⟨h1, h2⟩) ⟨hg, ?_⟩
      rw [if_neg hij, if_neg hif, if_pos hie]
      exact ⟨r, H', nx', rfl, h4, h3⟩
    · rw [if_neg hie] at h
      obtain ⟨r, H', nx', h1, h2⟩ := dop_ostep h
      simp only [Bool.false_eq_true, if_false] at h1
      obtain ⟨rfl, rfl, h3⟩ := h1
      refine ext _ h2 (fun hi => hd (by omega)) ⟨hg, ?_⟩
      rw [if_neg hij, if_neg hif, if_neg hie]
      exact ⟨r, rfl, h3⟩

/-- The heap in truth, when it looks so in the canonical walk. -/
def hzF (st : Nat → ASt) (f a : Nat) (z : List AV) (m : Nat) (b : Bool) : AH := if m ≤ f then upd (st m).H a (zB z b) else (st m).H
structure SimF (ops : List Oper) (effs : List Nat) (st : Nat → ASt) (f j a : Nat) (z : List AV) (s1 : ASt) (base : Nat) (listed : Array Bool) (κ : Cx) (ac : Act) : Prop extends Sim0 ops st s1 listed κ ac where
  heap : ∃ m, m ≤ ops.length ∧ (∀ i, i < ops.length → effs.contains i = true → (listed.getD i false = true ↔ i < m)) ∧ Inv base κ (hzF st f a z m (listed.getD j false)) (st m).nx
theorem StepF.nx1 {i : Nat} {o : Oper} {s s' : ASt} (h : StepF P effs frees f j a z S i o s s') (hje : effs.contains j = false) {n : Nat} (hin : i < n) (hef : FreesOk effs frees f j n) : ∃ r H' nx', s' = ⟨putA s.tmps o.dst r, H', nx'⟩ ∧ maskH (SF frees S i) H' = maskH (SF frees S i) s.H ∧ (effs.contains i = false → i ≠ f → H' = s.H ∧ nx' = s.nx) := by
  obtain ⟨_, h⟩ := h
  by_cases hij : i = j
  · rw [if_pos hij] at h; exact ⟨_, _, _, h.2, rfl, fun _ _ => ⟨rfl, rfl⟩⟩
  rw [if_neg hij] at h
  by_cases hif : i = f
  · rw [if_pos hif] at h
    obtain ⟨r, H', nx', h1, h2⟩ := h
    refine ⟨r, H', nx', h1, ?_, fun _ h => absurd hif h⟩
    have : SF frees S i = fun _ => true := by unfold SF; rw [if_pos (by rw [hif]; exact hef.ff)]
    rw [this]
    funext q
    simp [maskH]
  rw [if_neg hif] at h
  by_cases hie : effs.contains i = true
  · have hs : SF frees S i = S := by
      unfold SF; rw [if_neg (by rw [hef.eff i hin hie hif]; simp)]
    rw [if_pos hie] at h
    obtain ⟨r, H', nx', h1, h2, h3⟩ := h
    exact ⟨r, H', nx', h1, by rw [hs]; exact h2, fun e => by rw [e] at hie; cases hie⟩
  · rw [if_neg hie] at h
    obtain ⟨r, h1, h2⟩ := h
    exact ⟨r, _, _, h1, rfl, fun _ _ => ⟨rfl, rfl⟩⟩
theorem sim_anyF (hstep : ∀ (q : Nat) (o : Oper), ops[q]? = some o → StepF P effs frees f j a z S q o (st q) (st (q + 1))) (h00 : st 0 = s1) (hok : drawOk ops effs frees = true) (hfe : effs.contains f = true) (hje : effs.contains j = false) (hjf : j < f) (hf : f < ops.length) (hef : FreesOk effs frees f j ops.length) (hS : S a = true)
    {base : Nat} {Q : Exit → Act → World → Prop} {κ0 : Cx}
    (hQ : ∀ κ ac, St base κ ac (st ops.length) → Ext base κ0 κ → Q .normal ac κ.W) : ∀ (fuel : Nat) (listed : Array Bool) (κ : Cx) (ac : Act), cntT (fun i => listed.getD i false) ops.length + fuel = ops.length →
      Ext base κ0 κ → SimF ops effs st f j a z s1 base listed κ ac → wpAny P .any ops.toArray Q fuel listed ac κ.W := by
  have hefl : ∀ i, i < ops.length → effs.contains i = true → i ≤ f := fun i hn he => by
    rcases Nat.lt_or_ge f i with h5 | h5
    · rw [(hef.beh i h5 hn).2] at he; cases he
    · exact h5
  have tr : Nx ops effs frees S s1 st := ⟨h00, fun {i o} ho => by
    obtain ⟨r, H', nx', h1, h2, h3⟩ := (hstep i o ho).nx1 hje (List.getElem?_eq_some_iff.1 ho).1 hef
    exact ⟨r, H', nx', h1, h2, fun he => h3 he (fun e => by rw [e, hfe] at he; cases he)⟩⟩
  have fin : ∀ (listed : Array Bool) (κ : Cx) (ac : Act), Ext base κ0 κ → SimF ops effs st f j a z s1 base listed κ ac → Region.ready .any ops.toArray listed = [] → Q .normal ac κ.W := by
    intro listed κ ac he h hr
    have hall := all_of_ready hok h.size hr
    refine hQ κ ac ⟨?_, h.toSim0.all tr hall, h.defers⟩ he
    obtain ⟨m, hm, hw, hinv⟩ := h.heap
    have h1 := (hw f (by omega) hfe).1 (hall f (by omega))
    unfold hzF at hinv
    rw [if_neg (by omega)] at hinv
    have e := tr.heap' hm (Nat.le_refl _) (fun i hin hei => by have := hefl i hin hei; omega)
    rw [← e.1, ← e.2]
    exact hinv
  intro fuel
  induction fuel with
  | zero =>
    intro listed κ ac hc he h
    have hall := cntT_all _ _ (by simpa using hc)
    have hr : Region.ready .any ops.toArray listed = [] := by
      cases hq : Region.ready .any ops.toArray listed with
      | nil => rfl
      | cons q l =>
        exfalso
        have hj : q ∈ Region.ready .any ops.toArray listed := by rw [hq]; simp
        obtain ⟨h1, o, ho, _⟩ := mem_ready.1 hj
        have hjn : q < ops.length := by
          have : ops[q]? = some o := by simpa using ho
          exact (List.getElem?_eq_some_iff.1 this).1
        have := hall q hjn
        have hjs : q < listed.size := by rw [h.size]; exact hjn
        simp [hjs] at h1 this
        rw [this] at h1
        cases h1
    exact ⟨hr, fin listed κ ac he h hr⟩
  | succ fuel ih =>
    intro listed κ ac hc he h
    refine ⟨fin listed κ ac he h, fun q hq => ?_⟩
    obtain ⟨hun, oq, hoq0, _⟩ := mem_ready.1 hq
    have hoq : ops[q]? = some oq := by simpa using hoq0
    have hqn : q < ops.length := (List.getElem?_eq_some_iff.1 hoq).1
    have hqs : q < listed.size := by rw [h.size]; exact hqn
    have hqf : ¬ listed.getD q false = true := by
      simp [hqs] at hun ⊢
      exact hun
    have hcount : cntT (fun i => (listed.setIfInBounds q true).getD i false) ops.length + fuel = ops.length := by
      have := cntT_set (fun i => listed.getD i false) (fun i => (listed.setIfInBounds q true).getD i false) q (by simpa [hqs] using hun) (by simp [hqs]) (fun i hi => getD_set_ne false (Ne.symm hi)) ops.length
      rw [this, if_pos hqn]
      omega
    have hg := fun i => getD_set listed q i hqs
    have looks := fun t ht => h.toSim0.looks tr hok hoq hq (t := t) ht
    have hstq := hstep q oq hoq
    obtain ⟨hguard, hcase⟩ := hstq
    unfold wpOp
    rw [hoq0]
    simp only
    have hw : Region.wanted oq (yielded ops.toArray ac.tmps) = true := by simp [Region.wanted, hguard]
    rw [hw]
    simp only [if_true]
    left
    have hρ : ∀ x ∈ oq.op.operands.toList, Rep κ.W κ.M κ.F (ac.eval x) (evA (st q).tmps x) := by
      intro x hx
      cases x with
      | tmp t =>
        apply AgreeAt.eval
        apply looks
        unfold Oper.looksAt
        rw [List.mem_append]
        left
        rw [List.mem_filterMap]
        exact ⟨.tmp t, hx, rfl⟩
      | const v => exact cstA_rep κ v
      | func f => exact .fn f [] [] rfl (fun j v a h => by simp at h)
      | global g => exact .junk _
    obtain ⟨m, hm, hwm, hinv⟩ := h.heap
    -- the last one has not been carried out, if this is another one
    have hlast : frees.contains q = false → m ≤ f := fun hne => by
      have hqf : q ≠ f := fun e => by rw [e, hef.ff] at hne; cases hne
      have h1 := order_at hok h.closed hoq hq (List.getElem?_eq_getElem (show f < ops.length by omega)) (Ne.symm hqf) (.inr (.inr (.inr (.inl ⟨hef.ff, hfe, hne⟩))))
      have h2 := hwm f (by omega) hfe
      have h3 : f < m ↔ f < q := h2.symm.trans h1
      have h4 : ¬ f < q := fun h5 => by rw [(hef.beh q h5 hqn).1] at hne; cases hne
      omega
    by_cases hqj : q = j
    · subst hqj
      rw [if_pos rfl] at hcase
      obtain ⟨hz, hst⟩ := hcase
      have hmf := hlast hef.jf
      unfold hzF at hinv
      rw [if_pos hmf] at hinv
      have hlj : listed.getD q false = false := by cases hl : listed.getD q false <;> simp_all
      rw [hlj] at hinv
      simp only [zB, Bool.false_eq_true, if_false] at hinv
      unfold allocZ at hz
      split at hz
      · rename_i t hop
        obtain ⟨κ', v, hrun, hr, hext, hinv'⟩ := alloc_float (ρ := ac.eval) hop hz hinv
        unfold Oper.wp
        rw [hrun]
        refine ih _ κ' _ hcount (he.trans hext) ⟨h.toSim0.step tr hok hoq hq hst hr hext, m, hm, fun i hi hei => ?_, ?_⟩
        · rw [hg]
          split
          · rename_i hij; subst hij; rw [hei] at hje; cases hje
          · exact hwm i hi hei
        · unfold hzF
          rw [if_pos hmf, hg, if_pos rfl]
          unfold zB
          rw [if_pos rfl]
          exact hinv'
      · cases hz
    rw [if_neg hqj] at hcase
    have hjl : (listed.setIfInBounds q true).getD j false = listed.getD j false := by rw [hg, if_neg (Ne.symm hqj)]
    have nextEff : ∀ i, i < ops.length → effs.contains i = true → effs.contains q = true → ((listed.setIfInBounds q true).getD i false = true ↔ i < q + 1) := fun i hi hei hqe => by
      rw [hg]
      split
      · rename_i hij; subst hij; simp
      · rename_i hij
        rw [order_at hok h.closed hoq hq (List.getElem?_eq_getElem hi) hij (.inr (.inr (.inl ⟨hei, hqe⟩)))]
        omega
    have same : effs.contains q = true → (st m).H = (st q).H ∧ (st m).nx = (st q).nx := fun hqe => tr.heap' hm (show q ≤ ops.length by omega) (fun i hin hei => by
      have h1 := hwm i hin hei
      by_cases hiq : i = q
      · subst hiq
        have : ¬ i < m := fun h' => hqf (h1.2 h')
        omega
      · have h2 := order_at hok h.closed hoq hq (List.getElem?_eq_getElem hin) hiq (.inr (.inr (.inl ⟨hei, hqe⟩)))
        have : i < m ↔ i < q := h1.symm.trans h2
        omega)
    by_cases hqff : q = f
    · subst hqff
      rw [if_pos rfl] at hcase
      obtain ⟨r, H', nx', hst, hos⟩ := hcase
      have hmq : m ≤ q := by
        have h2 := hwm q hqn hfe
        have : ¬ q < m := fun h' => hqf (h2.2 h')
        omega
      have hlj : listed.getD j false = true := by
        have h1 := order_at hok h.closed hoq hq (List.getElem?_eq_getElem (show j < ops.length by omega)) (by omega) (.inr (.inr (.inr (.inr ⟨hef.ff, hfe, hef.jf⟩))))
        exact h1.2 hjf
      unfold hzF at hinv
      unfold zB at hinv
      rw [if_pos hmq, hlj, if_pos rfl, (same hfe).1, (same hfe).2] at hinv
      refine hos hinv hρ (fun v κ' hr hext hinv' => ?_)
      refine ih _ κ' _ hcount (he.trans hext) ⟨h.toSim0.step tr hok hoq hq hst hr hext, q + 1, by omega, fun i hi hei => nextEff i hi hei hfe, ?_⟩
      unfold hzF
      rw [if_neg (by omega), hst]
      exact hinv'
    rw [if_neg hqff] at hcase
    by_cases hqe : effs.contains q = true
    · have hqlt : q < f := by have := hefl q hqn hqe; omega
      have hmf := hlast (hef.eff q hqn hqe hqff)
      rw [if_pos hqe] at hcase
      obtain ⟨r, H', nx', hst, hmask, hos⟩ := hcase
      unfold hzF at hinv
      rw [if_pos hmf, (same hqe).1, (same hqe).2] at hinv
      refine hos _ hinv hρ (fun v κ' hr hext hinv' => ?_)
      refine ih _ κ' _ hcount (he.trans hext) ⟨h.toSim0.step tr hok hoq hq hst hr hext, q + 1, by omega, fun i hi hei => nextEff i hi hei hqe, ?_⟩
      unfold hzF
      rw [if_pos (by omega), hst, hjl]
      exact hinv'
    · rw [if_neg hqe] at hcase
      obtain ⟨r, hst, hos⟩ := hcase
      have hmask : maskH (SF frees S q) (hzF st f a z m (listed.getD j false)) = maskH (SF frees S q) (st q).H := by
        by_cases hfq : frees.contains q = true
        · unfold SF
          rw [if_pos hfq]
          funext i
          simp [maskH]
        have hfq' : frees.contains q = false := by cases h5 : frees.contains q <;> simp_all
        have hmf := hlast hfq'
        have hqlt : q < f := by
          rcases Nat.lt_or_ge f q with h5 | h5
          · exact absurd (hef.beh q h5 hqn).1 hfq
          · omega
        have hmask0 := tr.mask' hm (show q ≤ ops.length by omega) (fun i hin hfi hei => by
          have : i = f := by
            by_cases h5 : i = f
            · exact h5
            · rw [hef.eff i hin hei h5] at hfi; cases hfi
          omega)
        unfold SF
        rw [if_neg hfq]
        unfold hzF
        rw [if_pos hmf, ← hmask0]
        funext i
        unfold maskH
        by_cases hi : S i = true
        · simp [hi]
        · have : i ≠ a := by rintro rfl; exact hi hS
          simp [hi, upd_ne _ _ this]
      refine hos _ _ hmask hinv hρ (fun v κ' hr hext hinv' => ?_)
      refine ih _ κ' _ hcount (he.trans hext) ⟨h.toSim0.step tr hok hoq hq hst hr hext, m, hm, fun i hi hei => ?_, by rw [hjl]; exact hinv'⟩
      rw [hg]
      split
      · rename_i hiq; subst hiq; exact absurd hei hqe
      · exact hwm i hi hei
/-- A REGION THAT DRAWS ITS ORDER. -/
theorem draw_soundF (hm : P.follows .mixedOrders = true) {K : ASt → Prop} {s : ASt} {id : Nat} (h : ADrawF P ops K s) {base : Nat} {κ : Cx} {ac : Act} (hs : St base κ ac s) {Q : Exit → Act → World → Prop}
    (hQ : ∀ a' W', Post base κ K a' W' → Q .normal a' W') : (Code.region id ops.toArray true).wp P Q ac κ.W := by
  obtain ⟨effs, frees, f, j, z, S, hok, hfe, hje, hjn, hf, hef, hS, hd⟩ := h
  have hdead : s.H s.nx = .dead := by
    cases hq : s.H s.nx with
    | dead => rfl
    | live ver cells => exact absurd (hs.inv.live_lt hq) (Nat.lt_irrefl _)
  obtain ⟨st, h0, hK, hstep⟩ := traceF_of (ops := ops) ops 0 _ hd (by simp) (fun _ => ⟨hdead, Nat.lt_succ_self _⟩) hef
  simp only [Nat.zero_add] at hK
  refine wp_region_any hm ?_
  -- the variable's place is kept ready
  let κ1 : Cx := ⟨κ.W, fun i => if i = s.nx then some ⟨0, none⟩ else κ.M i, κ.F⟩
  have hne : ∀ id e, κ.M id = some e → id ≠ s.nx := fun id e he h => by subst h; rw [hs.inv.hM _ (Nat.le_refl _)] at he; cases he
  have ev : Ev κ κ1 := ⟨fun b hb => ⟨hb, rfl⟩, fun id e he => ⟨e, by simp [κ1, hne id e he, he], .inr rfl⟩, fun b cs T fz hb => ⟨cs, fz, hb, rfl⟩⟩
  have ext1 : Ext base κ κ1 := ⟨ev, rfl, rfl, rfl, Nat.le_refl _, fun _ _ => rfl, fun _ h => .inl h⟩
  have inv1 : Inv base κ1 (upd s.H s.nx (.live 0 [])) (s.nx + 1) := by
    refine ⟨hs.inv.hF, hs.inv.hbase, fun i hid => ?_, fun i ver cells hl => ?_, fun i j ei ej b hij h1 h2 h3 h4 => ?_⟩
    · have : i ≠ s.nx := by omega
      simp only [κ1, if_neg this]
      exact hs.inv.hM i (by omega)
    · by_cases hi : i = s.nx
      · subst hi
        simp only [upd_same] at hl
        cases hl
        exact ⟨⟨0, none⟩, by simp [κ1], rfl, rfl⟩
      · simp only [upd_ne _ _ hi] at hl
        obtain ⟨e, he, hv, hh⟩ := hs.inv.live i ver cells hl
        exact ⟨e, by simp [κ1, hi, he], hv, hh.ev ev (fun _ _ _ h => h) (fun _ _ => rfl)⟩
    · simp only [κ1] at h1 h2
      split at h1
      · cases h1; cases h3
      · split at h2
        · cases h2; cases h4
        · rename_i hi hj
          have := hs.inv.inj i j ei ej b hij h1 h2 h3 h4
          simpa [upd_ne _ _ hi, upd_ne _ _ hj] using this
  have hd' : ({ κ.W with drawn := κ.W.drawn + 1 } : World) = κ1.drew.W := rfl
  rw [hd']
  have hsz : ops.toArray.size = ops.length := by simp
  rw [hsz]
  refine sim_anyF (κ0 := κ) (fun q o ho => hstep q o (Nat.zero_le _) ho) h0 hok hfe hje hjn hf hef hS (fun κ' a' hst hext => hQ a' κ'.W ⟨st ops.length, κ', rfl, hst, hext, hK⟩) ops.length _ κ1.drew ac ?_ (ext1.trans (.drew base κ1)) ?_
  · have : cntT (fun i => (Array.replicate ops.length false).getD i false) ops.length = 0 := by
      have key : ∀ n, cntT (fun i => (Array.replicate ops.length false).getD i false) n = 0 := by
        intro n
        induction n with
        | zero => rfl
        | succ n ih =>
          unfold cntT
          rw [ih]
          by_cases hn : n < ops.length <;> simp [hn]
      exact key _
    rw [this]
    simp
  · have hfl : ∀ i, (Array.replicate ops.length false).getD i false = true → False := by
      intro i h
      by_cases hn : i < ops.length <;> simp [hn] at h
    have hfj : (Array.replicate ops.length false).getD j false = false := by
      cases hq : (Array.replicate ops.length false).getD j false with
      | false => rfl
      | true => exact (hfl j hq).elim
    refine ⟨⟨by simp, fun j o ho hj => absurd hj (hfl j), ?_, fun t ht => ?_, hs.defers⟩, 0, Nat.zero_le _, fun i hi he => ⟨fun h => absurd h (hfl i), fun h => absurd h (Nat.not_lt_zero _)⟩, ?_⟩
    · have := hs.tmps.1; simpa using this
    · refine ⟨0, Nat.zero_le _, fun i o ho hd => ⟨fun h => absurd h (hfl i), fun h => absurd h (Nat.not_lt_zero _)⟩, ?_⟩
      rw [h0]
      obtain ⟨v, hv, hr⟩ := hs.tmps.at (List.getElem?_eq_getElem ht)
      exact .inr ⟨v, s.tmps[t], by simpa using hv, List.getElem?_eq_getElem ht, (hr.ev ev).ev (.drew κ1)⟩
    · unfold hzF
      rw [if_pos (Nat.zero_le _), hfj, h0]
      simp only [zB, Bool.false_eq_true, if_false]
      exact inv1.drew
theorem draw_sound (hm : P.follows .mixedOrders = true) {K : ASt → Prop} {s : ASt} {id : Nat} (h : ADraw P ops K s) {base : Nat} {κ : Cx} {ac : Act} (hs : St base κ ac s) {Q : Exit → Act → World → Prop}
    (hQ : ∀ a' W', Post base κ K a' W' → Q .normal a' W') : (Code.region id ops.toArray true).wp P Q ac κ.W := by
  rcases h with h | h
  · exact draw_sound0 hm h hs hQ
  · exact draw_soundF hm h hs hQ
end
end Go.TH

/-
  TH, part 17: code; functions; contracts.
-/
set_option linter.unusedVariables false
set_option linter.unusedSimpArgs false
namespace Go.TH
open Go

/-- What a piece of code comes to. -/
def awp (P : Program) : Code → (AEx → ASt → Prop) → ASt → Prop
  | .skip, Q, s => Q .normal s
  | .region _ ops draw, Q, s => if draw = true then ADraw P ops.toList (Q .normal) s else aops P ops.toList (Q .normal) ops.toList s
  | .seq a b, Q, s => awp P a (thenQ (awp P b Q) Q) s
  | .cond c a b, Q, s => ACond (evA s.tmps c) (awp P a Q s) (awp P b Q s)
  | .block id b, Q, s => awp P b (blockQ id Q) s
  | .loop b, Q, s => ALoop (awp P b) Q s
  | .exit id, Q, s => Q (.exit id) s
  | .ret, Q, s => Q .ret s
  | _, _, _ => False

theorem exists_least (p : Nat → Prop) (h : ∃ n, p n) : ∃ n, p n ∧ ∀ m, p m → n ≤ m := by
  obtain ⟨n, hn⟩ := h
  induction n using Nat.strongRecOn with
  | _ n ih =>
    by_cases hl : ∃ m, m < n ∧ p m
    · obtain ⟨m, h1, h2⟩ := hl
      exact ih m h1 h2
    · exact ⟨n, hn, fun m hm => Nat.le_of_not_lt fun h => hl ⟨m, h, hm⟩⟩
open Classical in
noncomputable def leastN (p : Nat → Prop) : Nat := if h : ∃ n, p n then (exists_least p h).choose else 0
theorem leastN_spec {p : Nat → Prop} (h : ∃ n, p n) : p (leastN p) ∧ ∀ m, p m → leastN p ≤ m := by
  unfold leastN
  rw [dif_pos h]
  exact (exists_least p h).choose_spec

theorem awp_sound {P : Program} (hm : P.follows .mixedOrders = true) : ∀ (c : Code) {Q : AEx → ASt → Prop} {s : ASt}, awp P c Q s → ∀ {base : Nat} {κ : Cx} {a : Act}, St base κ a s →
    ∀ {QQ : Exit → Act → World → Prop}, (∀ e s' κ' a', Q e s' → St base κ' a' s' → Ext base κ κ' → QQ (AEx.ex e) a' κ'.W) → c.wp P QQ a κ.W
  | .skip, Q, s, h, base, κ, a, hs, QQ, hQ => wp_skip (hQ .normal s κ a h hs (.refl _ _))
  | .region id ops draw, Q, s, h, base, κ, a, hs, QQ, hQ => by
    unfold awp at h
    have fin : ∀ a' W', Post base κ (Q .normal) a' W' → QQ .normal a' W' := by
      rintro a' W' ⟨s', κ', rfl, hs', hext, hK⟩
      exact hQ .normal s' κ' a' hK hs' hext
    cases draw with
    | true =>
      simp only [if_true] at h
      have := draw_sound (id := id) hm h hs fin
      simpa using this
    | false =>
      simp only [Bool.false_eq_true, if_false] at h
      have := aops_sound ops.toList h hs fin
      exact wp_region_list (by simpa using this)
  | .seq x y, Q, s, h, base, κ, a, hs, QQ, hQ => by
    unfold awp at h
    refine wp_seq (awp_sound hm x h hs (fun e s' κ' a' hq hs' hext => ?_))
    cases e with
    | normal => exact awp_sound hm y hq hs' (fun e2 s2 κ2 a2 hq2 hs2 hext2 => hQ e2 s2 κ2 a2 hq2 hs2 (hext.trans hext2))
    | exit id => exact hQ (.exit id) s' κ' a' hq hs' hext
    | ret => exact hQ .ret s' κ' a' hq hs' hext
  | .cond c x y, Q, s, h, base, κ, a, hs, QQ, hQ => by
    unfold awp ACond at h
    split at h
    · rename_i b hb
      have hc := evA_rep hs c
      rw [hb] at hc
      have hv := hc.bool_inv
      unfold AIf at h
      cases b with
      | true => simp only [if_true] at h; exact wp_cond_true hv (awp_sound hm x h hs hQ)
      | false => simp only [Bool.false_eq_true, if_false] at h; exact wp_cond_false hv (awp_sound hm y h hs hQ)
    · exact h.elim
  | .block id b, Q, s, h, base, κ, a, hs, QQ, hQ => by
    unfold awp at h
    refine wp_block (awp_sound hm b h hs (fun e s' κ' a' hq hs' hext => ?_))
    cases e with
    | normal => exact hQ .normal s' κ' a' hq hs' hext
    | exit id' =>
      simp only [blockQ] at hq
      simp only [AEx.ex, Exit.inBlock]
      split at hq
      · rename_i hi; rw [if_pos hi]; exact hQ .normal s' κ' a' hq hs' hext
      · rename_i hi; rw [if_neg hi]; exact hQ (.exit id') s' κ' a' hq hs' hext
    | ret => exact hQ .ret s' κ' a' hq hs' hext
  | .loop b, Q, s, h, base, κ, a, hs, QQ, hQ => by
    unfold awp ALoop at h
    obtain ⟨R, n, ⟨s0, hw0, hR⟩, hround⟩ := h
    let J : Act → World → Nat → Prop := fun a' W' n' => ∃ s' κ', κ'.W = W' ∧ St base κ' a' s' ∧ Ext base κ κ' ∧ R s' n'
    obtain ⟨κ0, hκ0, hs0, hext0⟩ := hw0 base κ a hs
    refine wp_loop (fun a' W' => ∃ n', J a' W' n') (fun a' W' => leastN (J a' W')) ⟨n, s0, κ0, hκ0, hs0, hext0, hR⟩ ?_
    intro a1 W1 hJ
    obtain ⟨⟨s1, κ1, rfl, hs1, hext1, hR1⟩, hmin⟩ := leastN_spec hJ
    refine awp_sound hm b (hround s1 _ hR1) hs1 (fun e s' κ' a' hq hs' hext => ?_)
    cases e with
    | normal =>
      obtain ⟨m, hlt, s2, hw2, hRm⟩ := hq
      obtain ⟨κ2, hκ2, hs2, hext2⟩ := hw2 base κ' a' hs'
      have hJ2 : J a' κ'.W m := ⟨s2, κ2, hκ2, hs2, (hext1.trans hext).trans hext2, hRm⟩
      have hJ' : ∃ n', J a' κ'.W n' := ⟨m, hJ2⟩
      have := (leastN_spec hJ').2 m hJ2
      exact ⟨hJ', by omega⟩
    | exit id => exact hQ (.exit id) s' κ' a' hq hs' (hext1.trans hext)
    | ret => exact hQ .ret s' κ' a' hq hs' (hext1.trans hext)
  | .exit id, Q, s, h, base, κ, a, hs, QQ, hQ => wp_exit (hQ (.exit id) s κ a h hs (.refl _ _))
  | .ret, Q, s, h, base, κ, a, hs, QQ, hQ => wp_ret (hQ .ret s κ a h hs (.refl _ _))
  | .rangeFunc .., Q, s, h, base, κ, a, hs, QQ, hQ => by unfold awp at h; exact h.elim
  | .scope .., Q, s, h, base, κ, a, hs, QQ, hQ => by unfold awp at h; exact h.elim
  | .label .., Q, s, h, base, κ, a, hs, QQ, hQ => by unfold awp at h; exact h.elim
  | .goto .., Q, s, h, base, κ, a, hs, QQ, hQ => by unfold awp at h; exact h.elim
  | .refuse .., Q, s, h, base, κ, a, hs, QQ, hQ => by unfold awp at h; exact h.elim

/-! ### Functions -/
def resC (H : AH) (ty : Option (Bool × Nat)) (x : AV) : Option (Prop × AV) :=
  match ty, x with
  | some s, .ptr id ver off => (match H id with
    | .live v cells => some (v = ver ∧ (loadA cells off s).1, (loadA cells off s).2)
    | .dead => none)
  | _, _ => none
def resA (P : Program) (H : AH) (tmps : List AV) : List ResultVar → Option (Prop × List AV)
  | [] => some (True, [])
  | .tmp t :: r => (resA P H tmps r).map fun l => (l.1, tmps.getD t .junk :: l.2)
  | .cell a t :: r => (match resC H (tyAS P t) (tmps.getD a .junk), resA P H tmps r with
    | some (p, v), some l => some (p ∧ l.1, v :: l.2)
    | _, _ => none)
def packA : List AV → AV
  | [a] => a
  | l => .tup l
/-- Behind the body. -/
def bodyQ (P : Program) (rs : List ResultVar) (K : AV → AH → Nat → Prop) : AEx → ASt → Prop
  | .exit _, _ => False
  | _, s => match resA P s.H s.tmps rs with
    | some l => l.1 ∧ K (packA l.2) s.H s.nx
    | none => False

def resF (tmps : Array Value) : ResultVar → Sem Value
  | .tmp t => pure (tmps.getD t undef)
  | .cell a t => do loadVar t (← asAddr (tmps.getD a undef))
theorem results_eq (fn : Func) (tmps : Array Value) : results fn tmps = (do let vs ← fn.results.mapM (resF tmps); pure (if h : vs.size = 1 then vs[0] else .tuple vs)) := by
  unfold results
  congr 2
theorem resA_run {P : Program} {base : Nat} {κ : Cx} {a : Act} {s : ASt} (hs : St base κ a s) : ∀ (rs : List ResultVar) (l : Prop × List AV), resA P s.H s.tmps rs = some l → l.1 →
    ∃ vs : List Value, (rs.mapM (resF a.tmps)).run P κ.W = .ok vs κ.W ∧ Reps κ vs l.2
  | [], l, h, _ => by cases h; exact ⟨[], by simp, Reps.nil κ⟩
  | .tmp t :: rs, l, h, hp => by
    simp only [resA] at h
    cases hr : resA P s.H s.tmps rs with
    | none => rw [hr] at h; cases h
    | some l' =>
      rw [hr] at h
      cases h
      obtain ⟨vs, h1, h2⟩ := resA_run hs rs l' hr hp
      refine ⟨a.tmps.getD t undef :: vs, ?_, Reps.cons (evA_rep hs (.tmp t)) h2⟩
      rw [List.mapM_cons]
      simp only [resF, Sem.run_bind, Sem.run_pure, Result.andThen_ok, h1]
  | .cell x t :: rs, l, h, hp => by
    simp only [resA] at h
    split at h
    · rename_i p v l' hc hr
      cases h
      obtain ⟨vs, h1, h2⟩ := resA_run hs rs l' hr hp.2
      unfold resC at hc
      split at hc
      · rename_i s0 id ver off hty hx
        obtain ⟨g, n⟩ := s0
        split at hc
        · rename_i ver' cells hl
          cases hc
          obtain ⟨⟨rfl, hp1⟩, hp2⟩ := hp
          have hx' := evA_rep hs (.tmp x)
          simp only [evA] at hx'
          rw [hx] at hx'
          obtain ⟨b, us, hv, hca, hus⟩ := hs.inv.ptr_cells hl hx'
          have hd := loadA_drop cells off (g, n) hp1
          obtain ⟨v, hrun, hrep⟩ := run_load_cells hty hca (hus.drop off) hd.1
          rw [hd.2] at hrep
          refine ⟨v :: vs, ?_, Reps.cons hrep h2⟩
          have hv' : a.tmps.getD x undef = Value.pointer (some _) := hv
          rw [List.mapM_cons]
          simp only [resF, hv', asAddr, Sem.run_bind, Sem.run_pure, Result.andThen_ok, hrun, h1]
        · cases hc
      · cases hc
    · cases h

/-- A BODY GIVES A CONTRACT. -/
def WalkOk (P : Program) (c : Code) (Q : AEx → ASt → Prop) (s : ASt) : Prop := ∀ {base : Nat} {κ : Cx} {a : Act}, St base κ a s →
    ∀ {QQ : Exit → Act → World → Prop}, (∀ e s' κ' a', Q e s' → St base κ' a' s' → Ext base κ κ' → QQ (AEx.ex e) a' κ'.W) → c.wp P QQ a κ.W
theorem callQ_of_walk {P : Program} {f : FuncId} {fn : Func} {c : Code} {n : Nat} {rs : List ResultVar} (hf : P.funcs[f]? = some fn) (hb : fn.body = some c) (hn : fn.ntmps = n) (hrs : fn.results = rs.toArray)
    (hname : (fn.name == "runtime.NumGoroutine") = false) {args : List AV} {H : AH} {nx : Nat} {Q : AV → AH → Nat → Prop}
    (h : WalkOk P c (bodyQ P rs Q) ⟨args ++ List.replicate (n - args.length) (.tup []), H, nx⟩) : CallQ P f args H nx Q := by
  refine ⟨⟨fn, hf, hname, by rw [hb]; rfl⟩, fun base κ vs hi hr => ?_⟩
  refine calls_of_wp hf hb ?_
  have hs : St base κ { tmps := vs.toArray ++ Array.replicate (fn.ntmps - vs.toArray.size) undef, defers := [] } ⟨args ++ List.replicate (n - args.length) (.tup []), H, nx⟩ := by
    refine ⟨hi, ?_, rfl⟩
    have : (vs.toArray ++ Array.replicate (fn.ntmps - vs.toArray.size) undef).toList = vs ++ List.replicate (n - args.length) undef := by
      have := hr.1
      simp [hn, this]
    rw [this]
    refine hr.append ⟨by simp, fun j v a h1 h2 => ?_⟩
    rw [List.getElem?_replicate] at h1 h2
    split at h1
    · rename_i hj
      rw [if_pos hj] at h2
      cases h1
      cases h2
      exact .tup [] [] rfl (fun j v a h => by simp at h)
    · cases h1
  refine h hs (fun e s' κ' a' hq hs' hext => ?_)
  have fin : (∃ l, resA P s'.H s'.tmps rs = some l ∧ l.1 ∧ Q (packA l.2) s'.H s'.nx) → a'.defers = [] ∧ ∃ v, (results fn a'.tmps).run P κ'.W = .ok v κ'.W ∧
      ∃ r H' nx', Q r H' nx' ∧ ∃ v' κ2, Ending.returned v = .returned v' ∧ κ2.W = κ'.W ∧ Rep κ2.W κ2.M κ2.F v' r ∧ Ext base κ κ2 ∧ Inv base κ2 H' nx' := by
    rintro ⟨⟨p, l⟩, hl, hp, hq⟩
    refine ⟨hs'.defers, ?_⟩
    obtain ⟨vs', hrun, hrep⟩ := resA_run (P := P) hs' rs (p, l) hl hp
    have hres : (results fn a'.tmps).run P κ'.W = .ok (if h : vs'.toArray.size = 1 then vs'.toArray[0] else .tuple vs'.toArray) κ'.W := by
      rw [results_eq, hrs]
      simp only [Sem.run_bind, Array.mapM_eq_mapM_toList, Sem.run_map, hrun, Result.andThen_ok, Sem.run_pure]
    refine ⟨_, hres, _, _, _, hq, _, κ', rfl, rfl, ?_, hext, hs'.inv⟩
    match l, hrep with
    | [], hrep =>
      obtain rfl := hrep.unnil
      simp only [packA]
      exact .tup [] [] rfl hrep.2
    | [x], hrep =>
      obtain ⟨v, vs2, rfl, h1, h2⟩ := hrep.uncons
      obtain rfl := h2.unnil
      simpa [packA] using h1
    | x :: y :: l, hrep =>
      obtain ⟨v, vs2, rfl, h1, h2⟩ := hrep.uncons
      obtain ⟨v2, vs3, rfl, h3, h4⟩ := h2.uncons
      simp only [packA]
      have : ¬ ((v :: v2 :: vs3).toArray.size = 1) := by simp
      rw [dif_neg this]
      exact .tup _ _ hrep.1 hrep.2
  cases e with
  | exit id => exact hq.elim
  | normal =>
    simp only [bodyQ] at hq
    split at hq
    · rename_i l hl; exact fin ⟨l, hl, hq.1, hq.2⟩
    · exact hq.elim
  | ret =>
    simp only [bodyQ] at hq
    split at hq
    · rename_i l hl; exact fin ⟨l, hl, hq.1, hq.2⟩
    · exact hq.elim
theorem callQ_of_body {P : Program} (hm : P.follows .mixedOrders = true) {f : FuncId} {fn : Func} {c : Code} {n : Nat} {rs : List ResultVar} (hf : P.funcs[f]? = some fn) (hb : fn.body = some c) (hn : fn.ntmps = n) (hrs : fn.results = rs.toArray)
    (hname : (fn.name == "runtime.NumGoroutine") = false) {args : List AV} {H : AH} {nx : Nat} {Q : AV → AH → Nat → Prop}
    (h : awp P c (bodyQ P rs Q) ⟨args ++ List.replicate (n - args.length) (.tup []), H, nx⟩) : CallQ P f args H nx Q :=
  callQ_of_walk hf hb hn hrs hname (fun {base κ a} hs {QQ} hQ => awp_sound hm c h hs hQ)
theorem call_of_body {P : Program} (hm : P.follows .mixedOrders = true) {f : FuncId} {fn : Func} {c : Code} {n : Nat} {rs : List ResultVar} (hf : P.funcs[f]? = some fn) (hb : fn.body = some c) (hn : fn.ntmps = n) (hrs : fn.results = rs.toArray)
    (hname : (fn.name == "runtime.NumGoroutine") = false) {args : List AV} {H : AH} {nx : Nat} {r : AV} {H' : AH} {nx' : Nat}
    (h : awp P c (bodyQ P rs fun r1 H1 nx1 => r1 = r ∧ H1 = H' ∧ nx1 = nx') ⟨args ++ List.replicate (n - args.length) (.tup []), H, nx⟩) : CallC P f args H nx r H' nx' := by
  obtain ⟨h1, h2⟩ := callQ_of_body hm hf hb hn hrs hname h
  refine ⟨h1, fun base κ vs hi hr => (h2 base κ vs hi hr).mono ?_⟩
  rintro e W' ⟨r1, H1, nx1, ⟨rfl, rfl, rfl⟩, h3⟩
  exact h3
theorem CallC.toQ {P : Program} {f : FuncId} {args : List AV} {H : AH} {nx : Nat} {r : AV} {H' : AH} {nx' : Nat} (h : CallC P f args H nx r H' nx') : CallQ P f args H nx (fun r1 H1 nx1 => r1 = r ∧ H1 = H' ∧ nx1 = nx') :=
  ⟨h.1, fun base κ vs hi hr => (h.2 base κ vs hi hr).mono (fun e W' h => ⟨r, H', nx', ⟨rfl, rfl, rfl⟩, h⟩)⟩
end Go.TH

/-
  TH, part 18: contracts at other states: what hangs on no memory, what is only read, what is handed over to be read.
-/
set_option linter.unusedVariables false
set_option linter.unusedSimpArgs false
namespace Go.TH
open Go

mutual
/-- No places inside. -/
def pureA : AV → Bool
  | .sl _ _ cs => pureL cs
  | .ro cs => pureL cs
  | .agg cs => pureL cs
  | .tup cs => pureL cs
  | .fn _ cs => pureL cs
  | .bfn _ cs => pureL cs
  | .ptr _ _ _ => false
  | .msl _ _ _ _ _ => false
  | .int _ _ => true
  | .bool _ => true
  | .str _ => true
  | .nilp => true
  | .junk => true
  | .unk => true
def pureL : List AV → Bool
  | [] => true
  | a :: l => pureA a && pureL l
end
mutual
/-- No memory at all inside. -/
def scalA : AV → Bool
  | .sl _ _ cs => cs.isEmpty
  | .ro _ => false
  | .agg cs => scalL cs
  | .tup cs => scalL cs
  | .fn _ cs => scalL cs
  | .bfn _ cs => scalL cs
  | .ptr _ _ _ => false
  | .msl _ _ _ _ _ => false
  | .int _ _ => true
  | .bool _ => true
  | .str _ => true
  | .nilp => true
  | .junk => true
  | .unk => true
def scalL : List AV → Bool
  | [] => true
  | a :: l => scalA a && scalL l
end
theorem pureL_get : ∀ {l : List AV} {j : Nat} {a : AV}, pureL l = true → l[j]? = some a → pureA a = true
  | [], j, a, _, h => by simp at h
  | x :: l, 0, a, hp, h => by simp at h; subst h; unfold pureL at hp; simp at hp; exact hp.1
  | x :: l, j + 1, a, hp, h => by unfold pureL at hp; simp at hp h; exact pureL_get hp.2 h
theorem scalL_get : ∀ {l : List AV} {j : Nat} {a : AV}, scalL l = true → l[j]? = some a → scalA a = true
  | [], j, a, _, h => by simp at h
  | x :: l, 0, a, hp, h => by simp at h; subst h; unfold scalL at hp; simp at hp; exact hp.1
  | x :: l, j + 1, a, hp, h => by unfold scalL at hp; simp at hp h; exact scalL_get hp.2 h
theorem pureL_append (a b : List AV) : pureL (a ++ b) = (pureL a && pureL b) := by
  induction a with
  | nil => simp [pureL]
  | cons x a ih => simp [pureL, ih, Bool.and_assoc]

theorem Rep.pure {W : World} {M M' : Nat → Option Ent} {F : Nat → Prop} {v : Value} {a : AV} (r : Rep W M F v a) : pureA a = true → Rep W M' F v a := by
  induction r with
  | int k n => exact fun _ => .int k n
  | bool b => exact fun _ => .bool b
  | str s => exact fun _ => .str s
  | sl ad n c t cells vs hn ht hF hs hl hc hr ih => exact fun hp => .sl ad n c t cells vs hn ht hF hs hl hc (fun j v a h1 h2 => ih j v a h1 h2 (pureL_get (by simpa [pureA] using hp) h2))
  | sl0 A n c t hn ht => exact fun _ => .sl0 A n c t hn ht
  | ro ad cells vs hF hs hl hc hr ih => exact fun hp => .ro ad cells vs hF hs hl hc (fun j v a h1 h2 => ih j v a h1 h2 (pureL_get (by simpa [pureA] using hp) h2))
  | ptr id ver off b hm => intro hp; simp [pureA] at hp
  | ptrOld v id ver off e hm hv => intro hp; simp [pureA] at hp
  | msl id ver sz off n c b cs T fz hm hn hb hcap => intro hp; simp [pureA] at hp
  | mslNil A id ver sz off b hm => intro hp; simp [pureA] at hp
  | mslOld v id ver sz off n e hm hv => intro hp; simp [pureA] at hp
  | agg vs cells hl h1 hr ih => exact fun hp => .agg vs cells hl h1 (fun j v a h1 h2 => ih j v a h1 h2 (pureL_get (by simpa [pureA] using hp) h2))
  | tup vs as hl hr ih => exact fun hp => .tup vs as hl (fun j v a h1 h2 => ih j v a h1 h2 (pureL_get (by simpa [pureA] using hp) h2))
  | fn f vs as hl hr ih => exact fun hp => .fn f vs as hl (fun j v a h1 h2 => ih j v a h1 h2 (pureL_get (by simpa [pureA] using hp) h2))
  | bfn f vs as hl hr ih => exact fun hp => .bfn f vs as hl (fun j v a h1 h2 => ih j v a h1 h2 (pureL_get (by simpa [pureA] using hp) h2))
  | nilp => exact fun _ => .nilp
  | junk v => exact fun _ => .junk v
  | unk b => exact fun _ => .unk b
theorem Rep.scal {W W' : World} {M M' : Nat → Option Ent} {F F' : Nat → Prop} {v : Value} {a : AV} (r : Rep W M F v a) : scalA a = true → Rep W' M' F' v a := by
  induction r with
  | int k n => exact fun _ => .int k n
  | bool b => exact fun _ => .bool b
  | str s => exact fun _ => .str s
  | sl ad n c t cells vs hn ht hF hs hl hc hr ih =>
    intro hp
    have : cells = [] := by simpa [scalA] using hp
    subst this
    exact .sl0 _ n c t hn ht
  | sl0 A n c t hn ht => exact fun _ => .sl0 A n c t hn ht
  | ro ad cells vs hF hs hl hc hr ih => intro hp; simp [scalA] at hp
  | ptr id ver off b hm => intro hp; simp [scalA] at hp
  | ptrOld v id ver off e hm hv => intro hp; simp [scalA] at hp
  | msl id ver sz off n c b cs T fz hm hn hb hcap => intro hp; simp [scalA] at hp
  | mslNil A id ver sz off b hm => intro hp; simp [scalA] at hp
  | mslOld v id ver sz off n e hm hv => intro hp; simp [scalA] at hp
  | agg vs cells hl h1 hr ih => exact fun hp => .agg vs cells hl h1 (fun j v a h1 h2 => ih j v a h1 h2 (scalL_get (by simpa [scalA] using hp) h2))
  | tup vs as hl hr ih => exact fun hp => .tup vs as hl (fun j v a h1 h2 => ih j v a h1 h2 (scalL_get (by simpa [scalA] using hp) h2))
  | fn f vs as hl hr ih => exact fun hp => .fn f vs as hl (fun j v a h1 h2 => ih j v a h1 h2 (scalL_get (by simpa [scalA] using hp) h2))
  | bfn f vs as hl hr ih => exact fun hp => .bfn f vs as hl (fun j v a h1 h2 => ih j v a h1 h2 (scalL_get (by simpa [scalA] using hp) h2))
  | nilp => exact fun _ => .nilp
  | junk v => exact fun _ => .junk v
  | unk b => exact fun _ => .unk b

mutual
/-- The places inside are replaced. -/
def mapRef (g : AV → AV) : AV → AV
  | .sl n t cs => .sl n t (mapRefL g cs)
  | .ro cs => .ro (mapRefL g cs)
  | .agg cs => .agg (mapRefL g cs)
  | .tup cs => .tup (mapRefL g cs)
  | .fn f cs => .fn f (mapRefL g cs)
  | .bfn f cs => .bfn f (mapRefL g cs)
  | .ptr id ver off => g (.ptr id ver off)
  | .msl id ver sz off n => g (.msl id ver sz off n)
  | .int k n => .int k n
  | .bool b => .bool b
  | .str s => .str s
  | .nilp => .nilp
  | .junk => .junk
  | .unk => .unk
def mapRefL (g : AV → AV) : List AV → List AV
  | [] => []
  | a :: l => mapRef g a :: mapRefL g l
end
def derefA (H : AH) (f : List AV → List AV) : AV → AV
  | .ptr id ver off => (match H id with
      | .live v cells => if v = ver then .ro (f (cells.drop off)) else .junk
      | .dead => .junk)
  | .msl id ver sz off n => (match H id with
      | .live v cells => if v = ver then .sl n false (f ((cells.drop off).take (n * sz))) else .junk
      | .dead => .junk)
  | _ => .junk
/-- A picture of a value: what its places hold now, to be read. 'd': how deep places lead to places. -/
def snapA : Nat → AH → AV → AV
  | 0, _ => mapRef fun _ => .junk
  | d + 1, H => mapRef (derefA H fun cs => cs.map (snapA d H))
theorem mapRefL_map (g : AV → AV) : ∀ l, mapRefL g l = l.map (mapRef g)
  | [] => rfl
  | a :: l => by simp [mapRefL, mapRefL_map g l]
mutual
theorem mapRef_pure (g : AV → AV) (hg : ∀ a, pureA (g a) = true) : ∀ a, pureA (mapRef g a) = true
  | .sl n t cs => by simp only [mapRef, pureA]; exact mapRefL_pure g hg cs
  | .ro cs => by simp only [mapRef, pureA]; exact mapRefL_pure g hg cs
  | .agg cs => by simp only [mapRef, pureA]; exact mapRefL_pure g hg cs
  | .tup cs => by simp only [mapRef, pureA]; exact mapRefL_pure g hg cs
  | .fn f cs => by simp only [mapRef, pureA]; exact mapRefL_pure g hg cs
  | .bfn f cs => by simp only [mapRef, pureA]; exact mapRefL_pure g hg cs
  | .ptr id ver off => by simp only [mapRef]; exact hg _
  | .msl id ver sz off n => by simp only [mapRef]; exact hg _
  | .int k n => rfl
  | .bool b => rfl
  | .str s => rfl
  | .nilp => rfl
  | .junk => rfl
  | .unk => rfl
theorem mapRefL_pure (g : AV → AV) (hg : ∀ a, pureA (g a) = true) : ∀ l, pureL (mapRefL g l) = true
  | [] => rfl
  | a :: l => by simp only [mapRefL, pureL, mapRef_pure g hg a, mapRefL_pure g hg l, Bool.and_self]
end
theorem snapA_pure : ∀ (d : Nat) (H : AH) (a : AV), pureA (snapA d H a) = true
  | 0, H, a => mapRef_pure _ (fun _ => rfl) a
  | d + 1, H, a => by
    refine mapRef_pure _ (fun a => ?_) a
    have hl : ∀ l : List AV, pureL (l.map (snapA d H)) = true := by
      intro l
      induction l with
      | nil => rfl
      | cons x l ih => simp only [List.map_cons, pureL, snapA_pure d H x, ih, Bool.and_self]
    unfold derefA
    split
    · split
      · split
        · simp only [pureA]; exact hl _
        · rfl
      · rfl
    · split
      · split
        · simp only [pureA]; exact hl _
        · rfl
      · rfl
    · rfl

/-- The blocks of the places that live. -/
def liveB (κ : Cx) (H : AH) (b : Nat) : Prop := ∃ id ver cells e, H id = .live ver cells ∧ κ.M id = some e ∧ e.blk = some b
theorem mapRef_rep {κ : Cx} {F' : Nat → Prop} {M' : Nat → Option Ent} (hF : ∀ b, κ.F b → F' b) (g : AV → AV) (hg : ∀ v a, Rep κ.W κ.M κ.F v a → (∃ id ver off, a = .ptr id ver off) ∨ (∃ id ver sz off n, a = .msl id ver sz off n) → Rep κ.W M' F' v (g a))
    {v : Value} {a : AV} (r : Rep κ.W κ.M κ.F v a) : Rep κ.W M' F' v (mapRef g a) := by
  have pts : ∀ {vs : List Value} {cells : List AV}, (∀ (j : Nat) (v : Value) (a : AV), vs[j]? = some v → cells[j]? = some a → Rep κ.W M' F' v (mapRef g a)) →
      ∀ (j : Nat) (v : Value) (a : AV), vs[j]? = some v → (mapRefL g cells)[j]? = some a → Rep κ.W M' F' v a := by
    intro vs cells h j v a h1 h2
    rw [mapRefL_map, List.getElem?_map] at h2
    cases hc : cells[j]? with
    | none => rw [hc] at h2; cases h2
    | some x => rw [hc] at h2; cases h2; exact h j v x h1 hc
  have len : ∀ cells : List AV, (mapRefL g cells).length = cells.length := fun cells => by rw [mapRefL_map]; simp
  induction r with
  | int k n => exact .int k n
  | bool b => exact .bool b
  | str s => exact .str s
  | sl ad n c t cells vs hn ht hF' hs hl hc hr ih => exact .sl ad n c t _ vs hn ht (hF _ hF') hs (by rw [len]; exact hl) hc (pts ih)
  | sl0 A n c t hn ht => exact .sl0 A n c t hn ht
  | ro ad cells vs hF' hs hl hc hr ih => exact .ro ad _ vs (hF _ hF') hs (by rw [len]; exact hl) hc (pts ih)
  | ptr id ver off b hm => exact hg _ _ (.ptr id ver off b hm) (.inl ⟨_, _, _, rfl⟩)
  | ptrOld v id ver off e hm hv => exact hg _ _ (.ptrOld v id ver off e hm hv) (.inl ⟨_, _, _, rfl⟩)
  | msl id ver sz off n c b cs T fz hm hn hb hcap => exact hg _ _ (.msl id ver sz off n c b cs T fz hm hn hb hcap) (.inr ⟨_, _, _, _, _, rfl⟩)
  | mslNil A id ver sz off b hm => exact hg _ _ (.mslNil A id ver sz off b hm) (.inr ⟨_, _, _, _, _, rfl⟩)
  | mslOld v id ver sz off n e hm hv => exact hg _ _ (.mslOld v id ver sz off n e hm hv) (.inr ⟨_, _, _, _, _, rfl⟩)
  | agg vs cells hl h1 hr ih => exact .agg vs _ (by rw [len]; exact hl) h1 (pts ih)
  | tup vs as hl hr ih => exact .tup vs _ (by rw [len]; exact hl) (pts ih)
  | fn f vs as hl hr ih => exact .fn f vs _ (by rw [len]; exact hl) (pts ih)
  | bfn f vs as hl hr ih => exact .bfn f vs _ (by rw [len]; exact hl) (pts ih)
  | nilp => exact .nilp
  | junk v => exact .junk v
  | unk b => exact .unk b
theorem snap_rep {base nx : Nat} {κ : Cx} {H : AH} (hi : Inv base κ H nx) {F' : Nat → Prop} {M' : Nat → Option Ent} (hF : ∀ b, κ.F b → F' b) (hL : ∀ b, liveB κ H b → F' b) : ∀ (d : Nat) {v : Value} {a : AV}, Rep κ.W κ.M κ.F v a → Rep κ.W M' F' v (snapA d H a)
  | 0, v, a, r => mapRef_rep hF _ (fun v a _ _ => .junk v) r
  | d + 1, v, a, r => by
    refine mapRef_rep hF _ (fun v a hr ha => ?_) r
    have cells : ∀ {vs : List Value} {cs : List AV}, Reps κ vs cs → Reps ⟨κ.W, M', F'⟩ vs (cs.map (snapA d H)) := by
      intro vs cs h
      refine ⟨by simp [h.1], fun j v a h1 h2 => ?_⟩
      rw [List.getElem?_map] at h2
      cases hc : cs[j]? with
      | none => rw [hc] at h2; cases h2
      | some x => rw [hc] at h2; cases h2; exact snap_rep hi hF hL d (h.2 j v x h1 hc)
    rcases ha with ⟨id, ver, off, rfl⟩ | ⟨id, ver, sz, off, n, rfl⟩
    · cases hl : H id with
      | dead => simp only [derefA, hl]; exact .junk v
      | live v' cs =>
        simp only [derefA, hl]
        split
        · rename_i hv
          subst hv
          obtain ⟨b, rfl, hm⟩ := hi.ptr_inv hl hr
          obtain ⟨_, _, vs, rest, T, hb, h1, hrs⟩ := hi.place hl hm
          have hca := (cellsAt_block (κ := κ) hb h1).drop off
          rw [add_lit, Nat.zero_add] at hca
          exact Rep.ro_mk (κ := ⟨κ.W, M', F'⟩) (hL b ⟨id, _, _, _, hl, hm, rfl⟩) hca (cells (hrs.drop off))
        · exact .junk v
    · cases hl : H id with
      | dead => simp only [derefA, hl]; exact .junk v
      | live v' cs =>
        simp only [derefA, hl]
        split
        · rename_i hv
          subst hv
          rcases hi.msl_inv hl hr with ⟨b, c, cs', T, fz, rfl, hm, hn, hb0, hcap⟩ | ⟨A, b0, rfl, hm, hn⟩
          · obtain ⟨_, _, vs, rest, T', hb, h1, hrs⟩ := hi.place hl hm
            have hca := ((cellsAt_block (κ := κ) hb h1).drop off).take (n * sz)
            rw [add_lit, Nat.zero_add] at hca
            exact Rep.sl_mk (κ := ⟨κ.W, M', F'⟩) hn (fun h => by cases h) (.inr ⟨_, _, rfl, hL b ⟨id, _, _, _, hl, hm, rfl⟩, hca, cells ((hrs.drop off).take (n * sz))⟩)
          · subst hn
            simp only [Nat.zero_mul, List.take_zero, List.map_nil]
            exact .sl0 A 0 0 false (Nat.le_refl _) (fun h => by cases h)
        · exact .junk v
theorem snap_reps {base nx : Nat} {κ : Cx} {H : AH} (hi : Inv base κ H nx) {F' : Nat → Prop} {M' : Nat → Option Ent} (hF : ∀ b, κ.F b → F' b) (hL : ∀ b, liveB κ H b → F' b) (d : Nat) {vs : List Value} {as : List AV} (h : Reps κ vs as) :
    Reps ⟨κ.W, M', F'⟩ vs (as.map (snapA d H)) := by
  refine ⟨by simp [h.1], fun j v a h1 h2 => ?_⟩
  rw [List.getElem?_map] at h2
  cases hc : as[j]? with
  | none => rw [hc] at h2; cases h2
  | some x => rw [hc] at h2; cases h2; exact snap_rep hi hF hL d (h.2 j v x h1 hc)

/-- CALLED ON WHAT IS PURE, in a heap of its own: the answer's picture hangs on no memory. -/
theorem qcall_ofQ {P : Program} {f : FuncId} {args : List AV} (hp : pureL args = true) (d : Nat) {R : AV} (h : CallQ P f args noH 0 fun r H' _ => snapA d H' r = R) : QCall P f args R := by
  intro H nx
  refine ⟨h.1, fun base κ vs hi hr => ?_⟩
  -- the callee's own state
  have hi0 : Inv κ.W.heap.size ⟨κ.W, fun _ => none, κ.F⟩ noH 0 := ⟨hi.hF, Nat.le_refl _, (fun _ _ => rfl), (fun id ver cells h => by cases h), (fun i j ei ej b _ h _ _ _ => by cases h)⟩
  have hr0 : Reps ⟨κ.W, fun _ => none, κ.F⟩ vs args := ⟨hr.1, fun j v a h1 h2 => (hr.2 j v a h1 h2).pure (pureL_get hp h2)⟩
  refine (h.2 _ _ vs hi0 hr0).mono ?_
  rintro e W' ⟨r, H', nx', rfl, v, κ', rfl, rfl, hrep, hext, hinv⟩
  let F2 : Nat → Prop := fun b => κ'.F b ∨ liveB κ' H' b
  have newF : ∀ b, F2 b → κ.F b ∨ κ.W.heap.size ≤ b := by
    rintro b (hb | ⟨id, ver, cells, e, h1, h2, h3⟩)
    · exact hext.newF b hb
    · obtain ⟨e', he', _, hh⟩ := hinv.live id ver cells h1
      rw [h2] at he'
      cases he'
      unfold Held at hh
      rw [h3] at hh
      exact .inr hh.1
  have ev : Ev κ ⟨κ'.W, κ.M, F2⟩ := ⟨fun b hb => ⟨.inl (hext.ev.fr b hb).1, (hext.ev.fr b hb).2⟩, fun id e he => ⟨e, he, .inr rfl⟩, hext.ev.shp⟩
  refine ⟨v, ⟨κ'.W, κ.M, F2⟩, rfl, rfl, snap_rep hinv (fun b hb => .inl hb) (fun b hb => .inr hb) d hrep, ?_, ?_⟩
  · refine ⟨ev, hext.os, hext.tape, hext.output, hext.size, fun b hb => hext.below b (Nat.lt_of_lt_of_le hb hi.hbase), fun b hb => ?_⟩
    rcases newF b hb with h' | h'
    · exact .inl h'
    · exact .inr (Nat.le_trans hi.hbase h')
  · refine ⟨fun b hb => ?_, Nat.le_trans hi.hbase hext.size, hi.hM, fun id ver cells hl => ?_, hi.inj⟩
    · rcases hb with hb | ⟨id, ver, cells, e, h1, h2, h3⟩
      · exact hinv.hF b hb
      · obtain ⟨e', he', _, hh⟩ := hinv.live id ver cells h1
        rw [h2] at he'
        cases he'
        exact hh.lt h3
    · obtain ⟨e, he, hv, hh⟩ := hi.live id ver cells hl
      refine ⟨e, he, hv, hh.ev ev (fun b hb _ hn hc => ?_) (fun b hb => hext.below b (hh.lt hb))⟩
      rcases newF b hc with h' | h'
      · exact hn h'
      · have := hh.lt hb
        omega
/-- CALLED ON A PICTURE of what is the caller's own: a plain answer leaves it as it is. -/
theorem callC_borrow {P : Program} {f : FuncId} {args : List AV} {H : AH} {nx : Nat} {r : AV} (d : Nat) (h : QCall P f (args.map (snapA d H)) r) (hs : scalA r = true) : CallC P f args H nx r H nx := by
  refine ⟨(h noH 0).1, fun base κ vs hi hr => ?_⟩
  have hF0 : ∀ b, (κ.F b ∨ liveB κ H b) → b < κ.W.heap.size := by
    rintro b (hb | ⟨id, ver, cells, e, h1, h2, h3⟩)
    · exact hi.hF b hb
    · obtain ⟨e', he', _, hh⟩ := hi.live id ver cells h1
      rw [h2] at he'
      cases he'
      exact hh.lt h3
  have hi0 : Inv κ.W.heap.size ⟨κ.W, fun _ => none, fun b => κ.F b ∨ liveB κ H b⟩ noH 0 := ⟨hF0, Nat.le_refl _, (fun _ _ => rfl), (fun id ver cells h => by cases h), (fun i j ei ej b _ h _ _ _ => by cases h)⟩
  have hr0 : Reps ⟨κ.W, fun _ => none, fun b => κ.F b ∨ liveB κ H b⟩ vs (args.map (snapA d H)) := snap_reps hi (fun b hb => .inl hb) (fun b hb => .inr hb) d hr
  refine ((h noH 0).2 _ _ vs hi0 hr0).mono ?_
  rintro e W' ⟨v, κ', rfl, rfl, hrep, hext, hinv⟩
  have ev : Ev κ ⟨κ'.W, κ.M, κ.F⟩ := ⟨fun b hb => ⟨hb, (hext.ev.fr b (.inl hb)).2⟩, fun id e he => ⟨e, he, .inr rfl⟩, hext.ev.shp⟩
  refine ⟨v, ⟨κ'.W, κ.M, κ.F⟩, rfl, rfl, hrep.scal hs, ?_, ?_⟩
  · exact ⟨ev, hext.os, hext.tape, hext.output, hext.size, fun b hb => hext.below b (Nat.lt_of_lt_of_le hb hi.hbase), fun b hb => .inl hb⟩
  · refine ⟨fun b hb => Nat.lt_of_lt_of_le (hi.hF b hb) hext.size, Nat.le_trans hi.hbase hext.size, hi.hM, fun id ver cells hl => ?_, hi.inj⟩
    obtain ⟨e, he, hv, hh⟩ := hi.live id ver cells hl
    exact ⟨e, he, hv, hh.ev ev (fun b hb _ hn hc => hn hc) (fun b hb => hext.below b (hh.lt hb))⟩
theorem qcall_of {P : Program} {f : FuncId} {args : List AV} {r : AV} {H' : AH} {nx' : Nat} (hp : pureL args = true) (h : CallC P f args noH 0 r H' nx') (d : Nat) : QCall P f args (snapA d H' r) := by
  refine qcall_ofQ hp d ⟨h.toQ.1, fun base κ vs hi hr => (h.toQ.2 base κ vs hi hr).mono ?_⟩
  rintro e W' ⟨r1, H1, nx1, ⟨rfl, rfl, rfl⟩, h3⟩
  exact ⟨_, _, _, rfl, h3⟩

mutual
theorem mapRef_id (g : AV → AV) : ∀ a, pureA a = true → mapRef g a = a
  | .sl n t cs, h => by simp only [mapRef, mapRefL_id g cs (by simpa [pureA] using h)]
  | .ro cs, h => by simp only [mapRef, mapRefL_id g cs (by simpa [pureA] using h)]
  | .agg cs, h => by simp only [mapRef, mapRefL_id g cs (by simpa [pureA] using h)]
  | .tup cs, h => by simp only [mapRef, mapRefL_id g cs (by simpa [pureA] using h)]
  | .fn f cs, h => by simp only [mapRef, mapRefL_id g cs (by simpa [pureA] using h)]
  | .bfn f cs, h => by simp only [mapRef, mapRefL_id g cs (by simpa [pureA] using h)]
  | .ptr id ver off, h => by simp [pureA] at h
  | .msl id ver sz off n, h => by simp [pureA] at h
  | .int k n, _ => rfl
  | .bool b, _ => rfl
  | .str s, _ => rfl
  | .nilp, _ => rfl
  | .junk, _ => rfl
  | .unk, _ => rfl
theorem mapRefL_id (g : AV → AV) : ∀ l, pureL l = true → mapRefL g l = l
  | [], _ => rfl
  | a :: l, h => by
    simp only [pureL, Bool.and_eq_true] at h
    simp only [mapRefL, mapRef_id g a h.1, mapRefL_id g l h.2]
end
theorem snapA_id (d : Nat) (H : AH) (a : AV) (h : pureA a = true) : snapA d H a = a := by
  cases d <;> exact mapRef_id _ a h
/-- The plainest case: a pure answer. -/
theorem qcall_pure {P : Program} {f : FuncId} {args : List AV} {r : AV} {H' : AH} {nx' : Nat} (hp : pureL args = true) (hr : pureA r = true) (h : CallC P f args noH 0 r H' nx') : QCall P f args r := by
  have := qcall_of hp h 0
  rwa [snapA_id 0 H' r hr] at this
theorem ACall.of {P : Program} {f : FuncId} {args : List AV} {H : AH} {nx : Nat} {r : AV} {H' : AH} {nx' : Nat} {K : AV → AH → Nat → Prop} (h : CallC P f args H nx r H' nx') (k : K r H' nx') : ACall P f args H nx K := ACallD.toA ⟨r, H', nx', h, k⟩
theorem ACall.q {P : Program} {f : FuncId} {args : List AV} {H : AH} {nx : Nat} {r : AV} {K : AV → AH → Nat → Prop} (h : QCall P f args r) (k : K r H nx) : ACall P f args H nx K := ACallD.toA ⟨r, H, nx, h H nx, k⟩
end Go.TH

/-
  TH, part 19: how the walk is reckoned: rules for simp.
-/
set_option linter.unusedVariables false
set_option linter.unusedSimpArgs false
namespace Go.TH
open Go
universe u

/-- What hangs on a term: simp leaves the term alone. -/
inductive Box {α : Sort u} (x : α) : Type where
  | mk : Box x
def IfB (b : Bool) (A B : Prop) (_ : Box A) (_ : Box B) : Prop := AIf b A B
def bindB {α : Type} (x : Option (Prop × α)) (k : α → Prop) (_ : Box k) : Prop := bindP x k
structure CallB (P : Program) (f : FuncId) (args : List AV) (H : AH) (nx : Nat) (K : AV → AH → Nat → Prop) (_ : Box K) : Prop where
  out : ACallD P f args H nx K
def LoopB (body : (AEx → ASt → Prop) → ASt → Prop) (Q : AEx → ASt → Prop) (s : ASt) (_ : Box body) (_ : Box Q) : Prop := ALoop body Q s
def DrawB (P : Program) (ops : List Oper) (K : ASt → Prop) (s : ASt) (_ : Box ops) (_ : Box K) : Prop := ADraw P ops K s
def CondB (a : AV) (A B : Prop) (_ : Box A) (_ : Box B) : Prop := ACond a A B
section
variable {P : Program} {Q : AEx → ASt → Prop} {s s' : ASt}
@[congr] theorem awp_congr {c : Code} (h : s = s') : awp P c Q s = awp P c Q s' := by rw [h]
@[congr] theorem aops_congr {ops l : List Oper} {K : ASt → Prop} (h : s = s') : aops P ops K l s = aops P ops K l s' := by rw [h]
@[congr] theorem dops_congr {ops l : List Oper} {effs frees : List Nat} {S : Nat → Bool} {K : ASt → Prop} {i : Nat} (h : s = s') : dops P ops effs frees S K i l s = dops P ops effs frees S K i l s' := by rw [h]
@[congr] theorem aop_congr {d : Option Tmp} {op : Op} {K : ASt → Prop} (h : s = s') : aop P d op s K = aop P d op s' K := by rw [h]
@[congr] theorem dop_congr {e : Bool} {S : Nat → Bool} {d : Option Tmp} {op : Op} {K : ASt → Prop} (h : s = s') : dop P e S d op s K = dop P e S d op s' K := by rw [h]
@[congr] theorem thenQ_congr {n : ASt → Prop} {e : AEx} (h : s = s') : thenQ n Q e s = thenQ n Q e s' := by rw [h]
@[congr] theorem blockQ_congr {id : Nat} {e : AEx} (h : s = s') : blockQ id Q e s = blockQ id Q e s' := by rw [h]

@[go_sem] theorem awp_skip : awp P .skip Q s = Q .normal s := rfl
@[go_sem] theorem awp_region {id : Nat} {ops : List Oper} : awp P (.region id ops.toArray false) Q s = aops P ops (Q .normal) ops s := by simp [awp]
@[go_sem] theorem awp_region_draw {id : Nat} {ops : List Oper} : awp P (.region id ops.toArray true) Q s = DrawB P ops (Q .normal) s .mk .mk := by simp [awp, DrawB]
@[go_sem] theorem awp_seq {a b : Code} : awp P (.seq a b) Q s = awp P a (thenQ (awp P b Q) Q) s := rfl
@[go_sem] theorem awp_cond {c : Operand} {a b : Code} : awp P (.cond c a b) Q s = CondB (evA s.tmps c) (awp P a Q s) (awp P b Q s) .mk .mk := rfl
@[go_sem] theorem awp_block {id : Nat} {b : Code} : awp P (.block id b) Q s = awp P b (blockQ id Q) s := rfl
@[go_sem] theorem awp_loop {b : Code} : awp P (.loop b) Q s = LoopB (awp P b) Q s .mk .mk := rfl
@[go_sem] theorem awp_exit {id : Nat} : awp P (.exit id) Q s = Q (.exit id) s := rfl
@[go_sem] theorem awp_ret : awp P .ret Q s = Q .ret s := rfl
@[go_sem] theorem thenQ_normal {n : ASt → Prop} : thenQ n Q .normal s = n s := rfl
@[go_sem] theorem thenQ_exit {n : ASt → Prop} {id : Nat} : thenQ n Q (.exit id) s = Q (.exit id) s := rfl
@[go_sem] theorem thenQ_ret {n : ASt → Prop} : thenQ n Q .ret s = Q .ret s := rfl
@[go_sem] theorem blockQ_normal {id : Nat} : blockQ id Q .normal s = Q .normal s := rfl
@[go_sem] theorem blockQ_same {id : Nat} : blockQ id Q (.exit id) s = Q .normal s := by simp [blockQ]
@[go_sem] theorem blockQ_other {id i : Nat} (h : (i == id) = false) : blockQ id Q (.exit i) s = Q (.exit i) s := by simp at h; simp [blockQ, h]
@[go_sem] theorem blockQ_ret {id : Nat} : blockQ id Q .ret s = Q .ret s := rfl
@[go_sem] theorem IfB_true {A B : Prop} {w : Box A} {w2 : Box B} : IfB true A B w w2 = A := by simp [IfB, AIf]
@[go_sem] theorem IfB_false {A B : Prop} {w : Box A} {w2 : Box B} : IfB false A B w w2 = B := by simp [IfB, AIf]
@[go_sem] theorem IfB_not {b : Bool} {A B : Prop} {w : Box A} {w2 : Box B} : IfB (!b) A B w w2 = IfB b B A .mk .mk := by cases b <;> simp [IfB, AIf]
@[go_sem] theorem CondB_bool {b : Bool} {A B : Prop} {w : Box A} {w2 : Box B} : CondB (.bool b) A B w w2 = IfB b A B .mk .mk := rfl
theorem IfB.split {b : Bool} {A B : Prop} {w : Box A} {w2 : Box B} (h1 : b = true → A) (h2 : b = false → B) : IfB b A B w w2 := by
  cases b
  · simpa [IfB, AIf] using h2 rfl
  · simpa [IfB, AIf] using h1 rfl
def AndB (p A : Prop) (_ : Box A) : Prop := p ∧ A
@[congr] theorem AndB_congr {p q A : Prop} {w : Box A} (h : p = q) : AndB p A w = AndB q A w := by rw [h]
@[congr] theorem IfB_congr {b c : Bool} {A B : Prop} {w : Box A} {w2 : Box B} (h : b = c) : IfB b A B w w2 = IfB c A B w w2 := by rw [h]
@[congr] theorem CondB_congr {b c : AV} {A B : Prop} {w : Box A} {w2 : Box B} (h : b = c) : CondB b A B w w2 = CondB c A B w w2 := by rw [h]
@[congr] theorem bindB_congr {α : Type} {x y : Option (Prop × α)} {k : α → Prop} {w : Box k} (h : x = y) : bindB x k w = bindB y k w := by rw [h]
@[congr] theorem CallB_congr {f : FuncId} {args args' : List AV} {H H' : AH} {nx nx' : Nat} {K : AV → AH → Nat → Prop} {w : Box K} (h1 : args = args') (h2 : H = H') (h3 : nx = nx') : CallB P f args H nx K w = CallB P f args' H' nx' K w := by rw [h1, h2, h3]
@[congr] theorem LoopB_congr {body : (AEx → ASt → Prop) → ASt → Prop} {w : Box body} {w2 : Box Q} (h : s = s') : LoopB body Q s w w2 = LoopB body Q s' w w2 := by rw [h]
@[congr] theorem DrawB_congr {ops : List Oper} {K : ASt → Prop} {w : Box ops} {w2 : Box K} (h : s = s') : DrawB P ops K s w w2 = DrawB P ops K s' w w2 := by rw [h]
@[go_sem] theorem AndB_true {A : Prop} {w : Box A} : AndB True A w = A := by simp [AndB]
theorem AndB.mk {p A : Prop} {w : Box A} (h : p) (h2 : A) : AndB p A w := ⟨h, h2⟩
@[go_sem] theorem bindB_some {α : Type} {p : Prop} {a : α} {k : α → Prop} {w : Box k} : bindB (some (p, a)) k w = AndB p (k a) .mk := rfl
theorem bindB_true {α : Type} {a : α} {k : α → Prop} {w : Box k} : bindB (some (True, a)) k w = k a := by simp [bindB, bindP]

section
variable {K : ASt → Prop} {ops r : List Oper} {d : Option Tmp} {op : Op} {t : TypeId} {p : String} {a : Array Edge}
@[go_sem] theorem aops_nil : aops P ops K [] s = K s := rfl
@[go_sem] theorem aops_cons : aops P ops K (⟨d, op, t, p, a, none⟩ :: r) s = aop P d op s (aops P ops K r) := rfl
/-- Which slot tells whether an operation is wanted. -/
def gslot (ops : List Oper) (j : Nat) : Option Tmp := (ops[j]?).bind (·.dst)
def guardT (tmps : List AV) (d : Option Tmp) (want : Bool) : Option Bool :=
  match d.bind (tmps[·]?) with
  | some (.bool b) => some (b == want)
  | some (.tup _) => some false
  | none => some false
  | _ => none
def AGuard (x : Option Bool) (A B : Prop) (_ : Box A) (_ : Box B) : Prop :=
  match x with
  | some b => AIf b A B
  | none => False
theorem guardA_eq (ops : List Oper) (tmps : List AV) (j : Nat) (want : Bool) : guardA ops tmps j want = guardT tmps (gslot ops j) want := rfl
@[congr] theorem AGuard_congr {b c : Option Bool} {A B : Prop} {w : Box A} {w2 : Box B} (h : b = c) : AGuard b A B w w2 = AGuard c A B w w2 := by rw [h]
@[go_sem] theorem AGuard_some {b : Bool} {A B : Prop} {w : Box A} {w2 : Box B} : AGuard (some b) A B w w2 = IfB b A B .mk .mk := rfl
@[go_sem] theorem aops_guard {j : Nat} {want : Bool} : aops P ops K (⟨d, op, t, p, a, some (j, want)⟩ :: r) s =
    AGuard (guardT s.tmps (gslot ops j) want) (aop P d op s (aops P ops K r)) (aops P ops K r ⟨putA s.tmps d (.tup []), s.H, s.nx⟩) .mk .mk := rfl
variable {effs frees : List Nat} {S : Nat → Bool} {i : Nat}
@[go_sem] theorem dops_nil : dops P ops effs frees S K i [] s = K s := rfl
@[go_sem] theorem dops_cons : dops P ops effs frees S K i (⟨d, op, t, p, a, none⟩ :: r) s = dop P (effs.contains i) (SF frees S i) d op s (dops P ops effs frees S K (i + 1) r) := rfl
@[go_sem] theorem dops_guard {j : Nat} {want : Bool} : dops P ops effs frees S K i (⟨d, op, t, p, a, some (j, want)⟩ :: r) s =
    AGuard (guardT s.tmps (gslot ops j) want) (dop P (effs.contains i) (SF frees S i) d op s (dops P ops effs frees S K (i + 1) r)) (dops P ops effs frees S K (i + 1) r ⟨putA s.tmps d (.tup []), s.H, s.nx⟩) .mk .mk := rfl

/-- The call of a function's value. -/
def ACallV (P : Program) (f : AV) (args : List AV) (s : ASt) (K : AV → AH → Nat → Prop) (_ : Box K) : Prop :=
  match f with
  | .fn g cap => CallB P g (args ++ cap) s.H s.nx K .mk
  | .bfn g bnd => CallB P g (bnd ++ args) s.H s.nx K .mk
  | _ => False
@[congr] theorem ACallV_congr {f g : AV} {args args' : List AV} {s s' : ASt} {K : AV → AH → Nat → Prop} {w : Box K} (h1 : f = g) (h2 : args = args') (h3 : s = s') : ACallV P f args s K w = ACallV P g args' s' K w := by rw [h1, h2, h3]
@[go_sem] theorem ACallV_fn {g : FuncId} {cap args : List AV} {K : AV → AH → Nat → Prop} {w : Box K} : ACallV P (.fn g cap) args s K w = CallB P g (args ++ cap) s.H s.nx K .mk := rfl
@[go_sem] theorem ACallV_bfn {g : FuncId} {bnd args : List AV} {K : AV → AH → Nat → Prop} {w : Box K} : ACallV P (.bfn g bnd) args s K w = CallB P g (bnd ++ args) s.H s.nx K .mk := rfl
def CK (s : ASt) (d : Option Tmp) (K : ASt → Prop) (r : AV) (H : AH) (n : Nat) : Prop := K ⟨putA s.tmps d r, H, n⟩
@[go_sem] theorem CK_eq {r : AV} {H : AH} {n : Nat} : CK s d K r H n = K ⟨putA s.tmps d r, H, n⟩ := rfl
@[go_sem] theorem aop_call {f : Operand} {args : List Operand} {tys : Array TypeId} : aop P d (.call ⟨.value f, args.toArray, tys⟩) s K =
    ACallV P (evA s.tmps f) (args.map (evA s.tmps)) s (CK s d K) .mk := by
  unfold aop ACallV CK
  simp only [callV]
  cases evA s.tmps f <;> first | rfl | exact propext ⟨fun h => ⟨by simpa using h⟩, fun h => by simpa using h.out⟩
theorem CallB.of {f : FuncId} {args : List AV} {H : AH} {nx : Nat} {r : AV} {H' : AH} {nx' : Nat} {K : AV → AH → Nat → Prop} {w : Box K} (h : CallC P f args H nx r H' nx') (k : K r H' nx') : CallB P f args H nx K w := ⟨⟨_, _, _, h, k⟩⟩
theorem CallB.q {f : FuncId} {args : List AV} {H : AH} {nx : Nat} {r : AV} {K : AV → AH → Nat → Prop} {w : Box K} (h : QCall P f args r) (k : K r H nx) : CallB P f args H nx K w := ⟨⟨_, _, _, h H nx, k⟩⟩
theorem CallB.borrow (d : Nat) {f : FuncId} {args : List AV} {H : AH} {nx : Nat} {r : AV} {K : AV → AH → Nat → Prop} {w : Box K} (h : QCall P f (args.map (snapA d H)) r) (hs : scalA r = true) (k : K r H nx) : CallB P f args H nx K w := ⟨⟨_, _, _, callC_borrow d h hs, k⟩⟩
/-- By a law. -/
theorem CallB.law {f : FuncId} {args : List AV} {H : AH} {nx : Nat} {Q K : AV → AH → Nat → Prop} {w : Box K} (h : ACallD P f args H nx Q) (k : ∀ r H' nx', Q r H' nx' → K r H' nx') : CallB P f args H nx K w := ⟨h.mono k⟩

/-! ### The operations, one by one -/
def QK (s : ASt) (d : Option Tmp) (K : ASt → Prop) (r : AV) : Prop := K ⟨putA s.tmps d r, s.H, s.nx⟩
@[go_sem] theorem QK_eq {r : AV} : QK s d K r = K ⟨putA s.tmps d r, s.H, s.nx⟩ := rfl
def HK (s : ASt) (d : Option Tmp) (K : ASt → Prop) (x : AV × AH × Nat) : Prop := K ⟨putA s.tmps d x.1, x.2.1, x.2.2⟩
@[go_sem] theorem HK_eq {r : AV} {H : AH} {n : Nat} : HK s d K (r, H, n) = K ⟨putA s.tmps d r, H, n⟩ := rfl
@[congr] theorem QK_congr {r r' : AV} (h : r = r') : QK s d K r = QK s d K r' := by rw [h]
@[congr] theorem HK_congr {x y : AV × AH × Nat} (h : x = y) : HK s d K x = HK s d K y := by rw [h]

theorem aop_q {op : Op} (hc : callV op = none) (hh : hstep P (evA s.tmps) s.H s.nx op = none) : aop P d op s K = bindP (qstep P (evA s.tmps) s.H op) (QK s d K) := by
  unfold aop astep
  rw [hc]
  simp only
  cases qstep P (evA s.tmps) s.H op with
  | none => simp only [hh]; rfl
  | some x => obtain ⟨p, r⟩ := x; rfl
theorem aop_h {op : Op} (hc : callV op = none) (hq : qstep P (evA s.tmps) s.H op = none) : aop P d op s K = bindP (hstep P (evA s.tmps) s.H s.nx op) (HK s d K) := by
  unfold aop astep
  rw [hc]
  simp only [hq]
  rfl
theorem dop_q {op : Op} (hc : callV op = none) : dop P false S d op s K = bindP (dstep P (evA s.tmps) (maskH S s.H) op) (QK s d K) := by
  unfold dop
  simp only [Bool.false_eq_true, if_false, hc]
  rfl
/-- A quiet operation, in a region that draws or not. -/
def qfs (P : Program) (f : Option (Prop × AV)) (op : Op) (E : Operand → AV) (H : AH) : Prop := True

@[go_sem] theorem aop_move {x : Operand} : aop P d (.move x) s K = K ⟨putA s.tmps d (evA s.tmps x), s.H, s.nx⟩ := by rw [aop_q rfl rfl]; simp [qstep, bindP, QK]
@[go_sem] theorem aop_assign {x : Operand} : aop P d (.assign x) s K = K ⟨putA s.tmps d (evA s.tmps x), s.H, s.nx⟩ := by rw [aop_q rfl rfl]; simp [qstep, bindP, QK]

def pickE (c a b : AV) : Option (Prop × AV) := match c with | .bool q => some (True, if q then a else b) | _ => none
@[go_sem] theorem pickE_true {a b : AV} : pickE (.bool true) a b = some (True, a) := rfl
@[go_sem] theorem pickE_false {a b : AV} : pickE (.bool false) a b = some (True, b) := rfl
def buildE (H : AH) (z : Option (List AV)) (pl : Option (List (Nat × Nat))) (parts : List (Nat × AV)) : Option (Prop × AV) :=
  match z, pl with
  | some z, some pl => (fillA H pl z parts).map fun cs => (True, .agg cs)
  | _, _ => none
@[go_sem] theorem buildE_some {H : AH} {z : List AV} {pl : List (Nat × Nat)} {parts : List (Nat × AV)} : buildE H (some z) (some pl) parts = (fillA H pl z parts).map fun cs => (True, .agg cs) := rfl
def onLive (b : ABlk) (f : Nat → List AV → Option (Prop × AV)) : Option (Prop × AV) := match b with | .live v cells => f v cells | .dead => none
@[go_sem] theorem onLive_live {v : Nat} {cells : List AV} {f : Nat → List AV → Option (Prop × AV)} : onLive (.live v cells) f = f v cells := rfl
@[congr] theorem onLive_congr {b c : ABlk} {f : Nat → List AV → Option (Prop × AV)} (h : b = c) : onLive b f = onLive c f := by rw [h]
def loadE (s : Option (Bool × Nat)) (H : AH) (x : AV) : Option (Prop × AV) :=
  match s with
  | none => none
  | some s => match x with
    | .ro cells => some (loadA cells 0 s)
    | .ptr id ver off => onLive (H id) fun v cells => some (v = ver ∧ (loadA cells off s).1, (loadA cells off s).2)
    | _ => none
@[go_sem] theorem loadE_ro {s : Bool × Nat} {H : AH} {cells : List AV} : loadE (some s) H (.ro cells) = some (loadA cells 0 s) := rfl
@[go_sem] theorem loadE_ptr {s : Bool × Nat} {H : AH} {id ver off : Nat} : loadE (some s) H (.ptr id ver off) = onLive (H id) fun v cells => some (v = ver ∧ (loadA cells off s).1, (loadA cells off s).2) := rfl
def nilE (H : AH) (x : AV) : Option (Prop × AV) :=
  match x with
  | .ro cells => some (True, .ro cells)
  | .ptr id ver off => onLive (H id) fun v _ => some (v = ver, .ptr id ver off)
  | _ => none
@[go_sem] theorem nilE_ro {H : AH} {cells : List AV} : nilE H (.ro cells) = some (True, .ro cells) := rfl
@[go_sem] theorem nilE_ptr {H : AH} {id ver off : Nat} : nilE H (.ptr id ver off) = onLive (H id) fun v _ => some (v = ver, .ptr id ver off) := rfl
def fldE (f : Option (Nat × Nat × Bool)) (H : AH) (x : AV) : Option (Prop × AV) :=
  match f with
  | none => none
  | some f => match x with
    | .ro cells => some (True, .ro (cells.drop f.1))
    | .ptr id ver o => onLive (H id) fun v _ => some (v = ver, .ptr id ver (o + f.1))
    | _ => none
@[go_sem] theorem fldE_ro {f : Nat × Nat × Bool} {H : AH} {cells : List AV} : fldE (some f) H (.ro cells) = some (True, .ro (cells.drop f.1)) := rfl
@[go_sem] theorem fldE_ptr {f : Nat × Nat × Bool} {H : AH} {id ver o : Nat} : fldE (some f) H (.ptr id ver o) = onLive (H id) fun v _ => some (v = ver, .ptr id ver (o + f.1)) := rfl
def fieldE (f : Option (Nat × Nat × Bool)) (x : AV) : Option (Prop × AV) :=
  match f with
  | none => none
  | some f => match x with
    | .agg cells => some (loadA cells f.1 (f.2.2, f.2.1))
    | _ => none
@[go_sem] theorem fieldE_agg {f : Nat × Nat × Bool} {cells : List AV} : fieldE (some f) (.agg cells) = some (loadA cells f.1 (f.2.2, f.2.1)) := rfl
def idxE (e : Option (TypeId × Nat × Nat)) (H : AH) (x i : AV) : Option (Prop × AV) :=
  match e with
  | none => none
  | some e => match i with
    | .int _ k => (match x with
      | .sl n _ cells => some (0 ≤ k ∧ k < n ∧ k.toNat * e.2.1 < cells.length, .ro (cells.drop (k.toNat * e.2.1)))
      | .msl id ver sz' off n => onLive (H id) fun v _ => some (v = ver ∧ sz' = e.2.1 ∧ 0 ≤ k ∧ k < n, .ptr id ver (off + k.toNat * e.2.1))
      | _ => none)
    | _ => none
@[go_sem] theorem idxE_sl {e : TypeId × Nat × Nat} {H : AH} {n : Nat} {t : Bool} {cells : List AV} {q : IntKind} {k : Int} : idxE (some e) H (.sl n t cells) (.int q k) = some (0 ≤ k ∧ k < n ∧ k.toNat * e.2.1 < cells.length, .ro (cells.drop (k.toNat * e.2.1))) := rfl
@[go_sem] theorem idxE_msl {e : TypeId × Nat × Nat} {H : AH} {id ver sz' off n : Nat} {q : IntKind} {k : Int} : idxE (some e) H (.msl id ver sz' off n) (.int q k) = onLive (H id) fun v _ => some (v = ver ∧ sz' = e.2.1 ∧ 0 ≤ k ∧ k < n, .ptr id ver (off + k.toNat * e.2.1)) := rfl
def indexE (P : Program) (t : TypeId) (x i : AV) : Option (Prop × AV) :=
  match x, i with
  | .str s, .int _ k => if tyStr P t then some (0 ≤ k ∧ k < s.size, .int .u8 ((s.data.toList.getD k.toNat 0).toNat)) else none
  | _, _ => none
@[go_sem] theorem indexE_str {t : TypeId} {b : ByteArray} {q : IntKind} {k : Int} : indexE P t (.str b) (.int q k) = if tyStr P t then some (0 ≤ k ∧ k < b.size, .int .u8 ((b.data.toList.getD k.toNat 0).toNat)) else none := rfl
def extE (x : AV) (j : Nat) : Option (Prop × AV) := match x with | .tup as => some (j < as.length, as.getD j .junk) | _ => none
@[go_sem] theorem extE_tup {as : List AV} {j : Nat} : extE (.tup as) j = some (j < as.length, as.getD j .junk) := rfl
def convE (P : Program) (src dst : TypeId) (H : AH) (x : AV) : Option (Prop × AV) :=
  match x with
  | .int _ n => (match tyInt P dst with | some k => if (P.underlying src).isSome then some (True, .int k (k.wrap n)) else none | none => none)
  | .str s => if tyStr P dst ∧ (P.underlying src).isSome then some (True, .str s) else none
  | a => (match tySl P src with
      | some (e, _, _) => if tyInt P e = some .u8 ∧ tyStr P dst = true then (match rdSl H a with
          | some (n, cells) => some (n ≤ cells.length ∧ (cells.take n).all isU8 = true, .str (bytesA (cells.take n)))
          | none => none) else none
      | none => none)
def slcE (P : Program) (t : TypeId) (H : AH) (x : AV) (l h m : Option AV) : Option (Prop × AV) :=
  match optInt l, optInt h, optInt m with
  | some l, some h, some m => (match x with
      | .str s => if tyStr P t ∧ m = none then sliceS s l h else none
      | a => (match tySl P t with | some (_, sz, _) => sliceA H sz a l h m | none => none))
  | _, _, _ => none
def mkfE (f : FuncId) (first cap : List AV) : Option (Prop × AV) := if first.length = 0 then some (True, .fn f cap) else if cap.length = 0 then some (True, .bfn f first) else none
@[go_sem] theorem mkfE_nil {f : FuncId} {cap : List AV} : mkfE f [] cap = some (True, .fn f cap) := rfl
@[go_sem] theorem mkfE_cons {f : FuncId} {a : AV} {l : List AV} : mkfE f (a :: l) [] = some (True, .bfn f (a :: l)) := rfl

section
variable {x y c b : Operand} {j : Nat}
theorem q_pickE {E : Operand → AV} {H : AH} {a : Operand} : qstep P E H (.pick c a b) = pickE (E c) (E a) (E b) := rfl
theorem q_buildE {E : Operand → AV} {H : AH} {parts : List (Nat × Operand)} : qstep P E H (.build t parts.toArray) = buildE H (tyZ P t) (tyFs P t) (parts.map fun x => (x.1, E x.2)) := by
  simp only [qstep, buildE]
  cases tyZ P t <;> cases tyFs P t <;> rfl
theorem q_loadE {E : Operand → AV} {H : AH} : qstep P E H (.load t x) = loadE (tyAS P t) H (E x) := by
  simp only [qstep, loadE]
  cases tyAS P t with
  | none => rfl
  | some s => cases E x <;> first | rfl | (simp only [onLive]; split <;> rfl)
theorem q_nilE {E : Operand → AV} {H : AH} : qstep P E H (.nilCheck x) = nilE H (E x) := by
  simp only [qstep, nilE]
  cases E x <;> first | rfl | (simp only [onLive]; split <;> rfl)
theorem q_binE {E : Operand → AV} {H : AH} {op : BinOp} {t2 : TypeId} : qstep P E H (.binOp op t x y t2) = binB P H op t (isNilC y) (E x) (E y) := rfl
theorem q_unE {E : Operand → AV} {H : AH} {op : UnOp} : qstep P E H (.unOp op t x) = unA op (E x) := rfl
theorem q_convE {E : Operand → AV} {H : AH} {src dst : TypeId} : qstep P E H (.convert src dst x) = convE P src dst H (E x) := by
  simp only [qstep, convE]
  cases E x <;> first | rfl | (split <;> rfl)
theorem q_mkfE {E : Operand → AV} {H : AH} {f : FuncId} {first cap : List Operand} : qstep P E H (.makeFunc (.func f) first.toArray cap.toArray) = mkfE f (first.map E) (cap.map E) := by simp [qstep, mkfE]
theorem q_slcE {E : Operand → AV} {H : AH} {lo hi mx : Option Operand} : qstep P E H (.slice t x lo hi mx) = slcE P t H (E x) (lo.map E) (hi.map E) (mx.map E) := by
  simp only [qstep, slcE]
  cases optInt (lo.map E) <;> cases optInt (hi.map E) <;> cases optInt (mx.map E) <;> cases E x <;> first | rfl | (cases tySl P t <;> rfl)
theorem q_fldE {E : Operand → AV} {H : AH} : qstep P E H (.fieldAddr t x j) = fldE (tyFld P t j) H (E x) := by
  simp only [qstep, fldE]
  cases tyFld P t j with
  | none => rfl
  | some f => cases E x <;> first | rfl | (simp only [onLive]; split <;> rfl)
theorem q_fieldE {E : Operand → AV} {H : AH} : qstep P E H (.field t x j) = fieldE (tyFld P t j) (E x) := by
  simp only [qstep, fieldE]
  cases tyFld P t j with
  | none => rfl
  | some f => cases E x <;> rfl
theorem q_idxE {E : Operand → AV} {H : AH} : qstep P E H (.indexAddr t x y) = idxE (tySl P t) H (E x) (E y) := by
  simp only [qstep, idxE]
  cases tySl P t with
  | none => rfl
  | some f => cases E y <;> first | rfl | (cases E x <;> first | rfl | (simp only [onLive]; split <;> rfl))
theorem q_indexE {E : Operand → AV} {H : AH} : qstep P E H (.index t x y) = indexE P t (E x) (E y) := by
  simp only [qstep, indexE]
  cases E x <;> cases E y <;> rfl
theorem q_extE {E : Operand → AV} {H : AH} : qstep P E H (.extract x j) = extE (E x) j := rfl
theorem q_bltE {E : Operand → AV} {H : AH} {bi : Builtin} {args : List Operand} {tys : List TypeId} : qstep P E H (.call ⟨.builtin bi, args.toArray, tys.toArray⟩) = builtA P H bi tys (args.map E) := by simp [qstep]
end
end
end
end Go.TH

/-
  TH, part 20: the rules, operation by operation.
-/
set_option linter.unusedVariables false
set_option linter.unusedSimpArgs false
namespace Go.TH
open Go
section
variable {P : Program} {s : ASt} {K : ASt → Prop} {d : Option Tmp} {t : TypeId} {x y c b : Operand} {j : Nat} {S : Nat → Bool}

@[go_sem] theorem aop_pick {a : Operand} : aop P d (.pick c a b) s K = bindB (pickE (evA s.tmps c) (evA s.tmps a) (evA s.tmps b)) (QK s d K) .mk := by rw [aop_q rfl rfl, q_pickE]; rfl
@[go_sem] theorem aop_build {parts : List (Nat × Operand)} : aop P d (.build t parts.toArray) s K = bindB (buildE s.H (tyZ P t) (tyFs P t) (parts.map fun x => (x.1, evA s.tmps x.2))) (QK s d K) .mk := by rw [aop_q rfl rfl, q_buildE]; rfl
@[go_sem] theorem aop_load : aop P d (.load t x) s K = bindB (loadE (tyAS P t) s.H (evA s.tmps x)) (QK s d K) .mk := by rw [aop_q rfl rfl, q_loadE]; rfl
@[go_sem] theorem aop_nil : aop P d (.nilCheck x) s K = bindB (nilE s.H (evA s.tmps x)) (QK s d K) .mk := by rw [aop_q rfl rfl, q_nilE]; rfl
@[go_sem] theorem aop_bin {op : BinOp} {t2 : TypeId} : aop P d (.binOp op t x y t2) s K = bindB (binB P s.H op t (isNilC y) (evA s.tmps x) (evA s.tmps y)) (QK s d K) .mk := by rw [aop_q rfl rfl, q_binE]; rfl
@[go_sem] theorem aop_un {op : UnOp} : aop P d (.unOp op t x) s K = bindB (unA op (evA s.tmps x)) (QK s d K) .mk := by rw [aop_q rfl rfl, q_unE]; rfl
@[go_sem] theorem aop_mkf {f : FuncId} {first cap : List Operand} : aop P d (.makeFunc (.func f) first.toArray cap.toArray) s K = bindB (mkfE f (first.map (evA s.tmps)) (cap.map (evA s.tmps))) (QK s d K) .mk := by rw [aop_q rfl rfl, q_mkfE]; rfl
@[go_sem] theorem aop_slc {lo hi mx : Option Operand} : aop P d (.slice t x lo hi mx) s K = bindB (slcE P t s.H (evA s.tmps x) (lo.map (evA s.tmps)) (hi.map (evA s.tmps)) (mx.map (evA s.tmps))) (QK s d K) .mk := by rw [aop_q rfl rfl, q_slcE]; rfl
@[go_sem] theorem aop_fld : aop P d (.fieldAddr t x j) s K = bindB (fldE (tyFld P t j) s.H (evA s.tmps x)) (QK s d K) .mk := by rw [aop_q rfl rfl, q_fldE]; rfl
@[go_sem] theorem aop_field : aop P d (.field t x j) s K = bindB (fieldE (tyFld P t j) (evA s.tmps x)) (QK s d K) .mk := by rw [aop_q rfl rfl, q_fieldE]; rfl
@[go_sem] theorem aop_idx : aop P d (.indexAddr t x y) s K = bindB (idxE (tySl P t) s.H (evA s.tmps x) (evA s.tmps y)) (QK s d K) .mk := by rw [aop_q rfl rfl, q_idxE]; rfl
@[go_sem] theorem aop_index : aop P d (.index t x y) s K = bindB (indexE P t (evA s.tmps x) (evA s.tmps y)) (QK s d K) .mk := by rw [aop_q rfl rfl, q_indexE]; rfl
@[go_sem] theorem aop_ext : aop P d (.extract x j) s K = bindB (extE (evA s.tmps x) j) (QK s d K) .mk := by rw [aop_q rfl rfl, q_extE]; rfl
theorem blt_h {E : Operand → AV} {H : AH} {nx : Nat} {bi : Builtin} {args : List Operand} {tys : List TypeId} (hb : bi = .len ∨ bi = .max ∨ bi = .min) : hstep P E H nx (.call ⟨.builtin bi, args.toArray, tys.toArray⟩) = none := by
  rcases hb with rfl | rfl | rfl <;> rfl
@[go_sem] theorem aop_len {args : List Operand} {tys : List TypeId} : aop P d (.call ⟨.builtin .len, args.toArray, tys.toArray⟩) s K = bindB (builtA P s.H .len tys (args.map (evA s.tmps))) (QK s d K) .mk := by rw [aop_q rfl (blt_h (.inl rfl)), q_bltE]; rfl
@[go_sem] theorem aop_max {args : List Operand} {tys : List TypeId} : aop P d (.call ⟨.builtin .max, args.toArray, tys.toArray⟩) s K = bindB (builtA P s.H .max tys (args.map (evA s.tmps))) (QK s d K) .mk := by rw [aop_q rfl (blt_h (.inr (.inl rfl))), q_bltE]; rfl
@[go_sem] theorem aop_min {args : List Operand} {tys : List TypeId} : aop P d (.call ⟨.builtin .min, args.toArray, tys.toArray⟩) s K = bindB (builtA P s.H .min tys (args.map (evA s.tmps))) (QK s d K) .mk := by rw [aop_q rfl (blt_h (.inr (.inr rfl))), q_bltE]; rfl
def convH (P : Program) (src dst : TypeId) (H : AH) (nx : Nat) (x : AV) : Option (Prop × AV × AH × Nat) :=
  match convE P src dst H x with
  | some (p, r) => some (p, r, H, nx)
  | none => (match x, tySl P dst with
      | .str s, some (e, _, _) => if tyInt P e = some .u8 ∧ (P.underlying src).isSome then some (s.size ≤ 140737488355328, .sl s.size false (bytesCells s), H, nx) else none
      | _, _ => none)
@[go_sem] theorem aop_conv {src dst : TypeId} : aop P d (.convert src dst x) s K = bindB (convH P src dst s.H s.nx (evA s.tmps x)) (HK s d K) .mk := by
  unfold aop astep
  simp only [callV, q_convE, convH, hstep]
  cases convE P src dst s.H (evA s.tmps x) with
  | none => simp only; cases evA s.tmps x <;> first | rfl | (cases tySl P dst <;> rfl)
  | some q => obtain ⟨p, r⟩ := q; rfl

def allocE (H : AH) (nx : Nat) (z : Option (List AV)) : Option (Prop × AV × AH × Nat) := z.map fun cs => (True, .ptr nx 0 0, upd H nx (.live 0 cs), nx + 1)
@[go_sem] theorem allocE_some {H : AH} {nx : Nat} {z : List AV} : allocE H nx (some z) = some (True, .ptr nx 0 0, upd H nx (.live 0 z), nx + 1) := rfl
@[go_sem] theorem aop_alloc : aop P d (.alloc t) s K = bindB (allocE s.H s.nx (tyZ P t)) (HK s d K) .mk := by
  rw [aop_h rfl rfl]
  simp only [hstep, allocE]
  cases tyZ P t <;> rfl
@[go_sem] theorem aop_mkmap : aop P d (.makeMap t none) s K = K ⟨putA s.tmps d .junk, s.H, s.nx⟩ := by
  rw [aop_h rfl rfl]
  simp [hstep, bindP, HK]
@[go_sem] theorem aop_box : aop P d (.box t x) s K = bindB (allocE s.H s.nx (cellsA s.H (evA s.tmps x))) (HK s d K) .mk := by
  rw [aop_h rfl rfl]
  simp only [hstep, allocE]
  cases cellsA s.H (evA s.tmps x) <;> rfl
def bslE (P : Program) (H : AH) (nx : Nat) (e : Option (TypeId × Nat × Nat)) (len : Nat) (parts : List (Nat × AV)) : Option (Prop × AV × AH × Nat) :=
  match e with
  | none => none
  | some e => match tyZ P e.1 with
    | none => none
    | some z => if z.length = e.2.1 ∧ len * e.2.1 ≤ 16777216 then (fillB H e.2.1 (List.replicate len z).flatten parts).map fun cs => (True, .msl nx 0 e.2.1 0 len, upd H nx (.live 0 cs), nx + 1) else none
@[go_sem] theorem aop_bsl {len : Nat} {parts : List (Nat × Operand)} : aop P d (.buildSlice t len parts.toArray) s K = bindB (bslE P s.H s.nx (tySl P t) len (parts.map fun x => (x.1, evA s.tmps x.2))) (HK s d K) .mk := by
  rw [aop_h rfl rfl]
  simp only [hstep, bslE]
  cases tySl P t with
  | none => rfl
  | some e =>
    obtain ⟨e, sz, by'⟩ := e
    simp only
    cases tyZ P e <;> rfl
def storeE (H : AH) (nx : Nat) (ty : Option (Bool × Nat)) (x : AV) (cs : Option (List AV)) : Option (Prop × AV × AH × Nat) :=
  match ty, x, cs with
  | some (_, n), .ptr id ver off, some cs => (match H id with
      | .live v cells => some (v = ver ∧ cs.length = n ∧ off + n ≤ cells.length, .tup [], upd H id (.live v (cells.take off ++ cs ++ cells.drop (off + n))), nx)
      | .dead => none)
  | _, _, _ => none
@[go_sem] theorem aop_store : aop P d (.store t x y) s K = bindB (storeE s.H s.nx (tyAS P t) (evA s.tmps x) (cellsA s.H (evA s.tmps y))) (HK s d K) .mk := by
  rw [aop_h rfl rfl]
  simp only [hstep, storeE]
  cases tyAS P t with
  | none => rfl
  | some q =>
    obtain ⟨g, n⟩ := q
    cases evA s.tmps x with
    | ptr id ver off =>
      cases hl : s.H id with
      | dead => cases cellsA s.H (evA s.tmps y) <;> simp only [hl] <;> rfl
      | live v cells => cases cellsA s.H (evA s.tmps y) <;> simp only [hl] <;> rfl
    | _ => rfl
def mkslE (P : Program) (H : AH) (nx : Nat) (e : Option (TypeId × Nat × Nat)) (l c : AV) : Option (Prop × AV × AH × Nat) :=
  match e, l, c with
  | some e, .int _ l, .int _ c => (match tyZ P e.1 with
      | some z => if z.length = e.2.1 then some (0 ≤ l ∧ l ≤ c ∧ c.toNat * e.2.2 ≤ 140737488355328 ∧ c ≤ 140737488355328, .msl nx 0 e.2.1 0 l.toNat, upd H nx (.live 0 (List.replicate l.toNat z).flatten), nx + 1) else none
      | none => none)
  | _, _, _ => none
@[go_sem] theorem aop_mksl : aop P d (.makeSlice t x y) s K = bindB (mkslE P s.H s.nx (tySl P t) (evA s.tmps x) (evA s.tmps y)) (HK s d K) .mk := by
  rw [aop_h rfl rfl]
  simp only [hstep, mkslE]
  cases tySl P t with
  | none => rfl
  | some e =>
    obtain ⟨e, sz, by'⟩ := e
    cases evA s.tmps x <;> cases evA s.tmps y <;> first | rfl | (simp only; cases tyZ P e <;> rfl)
def appE (P : Program) (H : AH) (nx : Nat) (tys : List TypeId) (args : List AV) : Option (Prop × AV × AH × Nat) := match tys, args with | [t, tx], [s, x] => appA P H nx t tx s x | _, _ => none
def copE (P : Program) (H : AH) (nx : Nat) (tys : List TypeId) (args : List AV) : Option (Prop × AV × AH × Nat) := match tys, args with | [t, tx], [s, x] => copA P H nx t tx s x | _, _ => none
@[go_sem] theorem appE_two {H : AH} {nx : Nat} {tx : TypeId} {a x : AV} : appE P H nx [t, tx] [a, x] = appA P H nx t tx a x := rfl
@[go_sem] theorem copE_two {H : AH} {nx : Nat} {tx : TypeId} {a x : AV} : copE P H nx [t, tx] [a, x] = copA P H nx t tx a x := rfl
@[go_sem] theorem aop_append {args : List Operand} {tys : List TypeId} : aop P d (.call ⟨.builtin .append, args.toArray, tys.toArray⟩) s K = bindB (appE P s.H s.nx tys (args.map (evA s.tmps))) (HK s d K) .mk := by
  rw [aop_h rfl (by simp [qstep, builtA])]
  congr 1
  simp only [hstep, appE]
  match tys, args.map (evA s.tmps) with
  | [], _ => rfl
  | [_], _ => rfl
  | [_, _], [] => rfl
  | [_, _], [_] => rfl
  | [_, _], [_, _] => rfl
  | [_, _], _ :: _ :: _ :: _ => rfl
  | _ :: _ :: _ :: _, _ => rfl
def clrE (P : Program) (H : AH) (nx : Nat) (tys : List TypeId) (args : List AV) : Option (Prop × AV × AH × Nat) := match tys, args with | [t], [x] => clrA P H nx t x | _, _ => none
@[go_sem] theorem clrE_one {H : AH} {nx : Nat} {a : AV} : clrE P H nx [t] [a] = clrA P H nx t a := rfl
@[go_sem] theorem aop_clear {args : List Operand} {tys : List TypeId} : aop P d (.call ⟨.builtin .clear, args.toArray, tys.toArray⟩) s K = bindB (clrE P s.H s.nx tys (args.map (evA s.tmps))) (HK s d K) .mk := by
  rw [aop_h rfl (by simp [qstep, builtA])]
  congr 1
  simp only [hstep, clrE]
  match tys, args.map (evA s.tmps) with
  | [], _ => rfl
  | [_], [] => rfl
  | [_], [_] => rfl
  | [_], _ :: _ :: _ => rfl
  | _ :: _ :: _, [] => rfl
  | _ :: _ :: _, [_] => rfl
  | [_, _], [_, _] => rfl
  | _ :: _ :: _ :: _, [_, _] => rfl
  | _ :: _ :: _, _ :: _ :: _ :: _ => rfl
@[go_sem] theorem aop_copy {args : List Operand} {tys : List TypeId} : aop P d (.call ⟨.builtin .copy, args.toArray, tys.toArray⟩) s K = bindB (copE P s.H s.nx tys (args.map (evA s.tmps))) (HK s d K) .mk := by
  rw [aop_h rfl (by simp [qstep, builtA])]
  congr 1
  simp only [hstep, copE]
  match tys, args.map (evA s.tmps) with
  | [], _ => rfl
  | [_], _ => rfl
  | [_, _], [] => rfl
  | [_, _], [_] => rfl
  | [_, _], [_, _] => rfl
  | [_, _], _ :: _ :: _ :: _ => rfl
  | _ :: _ :: _ :: _, _ => rfl

/-! ### Slots -/
def nthA : List AV → Nat → AV
  | [], _ => .junk
  | a :: _, 0 => a
  | _ :: l, n + 1 => nthA l n
theorem nthA_eq : ∀ (l : List AV) (n : Nat), l.getD n .junk = nthA l n
  | [], n => by simp [nthA]
  | a :: l, 0 => by simp [nthA]
  | a :: l, n + 1 => by simp [nthA, ← nthA_eq l n]
@[go_sem] theorem isNilC_tmp {n : Nat} : isNilC (.tmp n) = false := rfl
@[go_sem] theorem isNilC_int {k : IntKind} {n : Int} : isNilC (.const (.int k n)) = false := rfl
@[go_sem] theorem isNilC_bool {b : Bool} : isNilC (.const (.bool b)) = false := rfl
@[go_sem] theorem isNilC_str {b : ByteArray} : isNilC (.const (.string b)) = false := rfl
@[go_sem] theorem isNilC_agg {c : Array Value} : isNilC (.const (.agg c)) = false := rfl
@[go_sem] theorem isNilC_nil : isNilC (.const (.slice none 0 0)) = true := rfl
@[go_sem] theorem binB_no {P : Program} {H : AH} {op : BinOp} {t : TypeId} {x y : AV} : binB P H op t false x y = binA P op t x y := rfl
@[go_sem] theorem binB_yes {P : Program} {H : AH} {op : BinOp} {t : TypeId} {x y : AV} : binB P H op t true x y = if isEqN op = true ∧ (tySl P t).isSome = true then nilS H (isNeq op) x else none := rfl
@[go_sem] theorem nilS_sl {H : AH} {g : Bool} {n : Nat} {t : Bool} {cs : List AV} : nilS H g (.sl n t cs) = some (True, if 0 < cs.length then .bool g else .unk) := rfl
@[go_sem] theorem isNeq_eql : isNeq .eql = false := rfl
@[go_sem] theorem isNeq_neq : isNeq .neq = true := rfl
def nilL (b : ABlk) (ver n : Nat) (g : Bool) : Option (Prop × AV) := match b with | .live v _ => some (v = ver, if 0 < n then .bool g else .unk) | .dead => none
@[go_sem] theorem nilL_live {v ver n : Nat} {g : Bool} {cs : List AV} : nilL (.live v cs) ver n g = some (v = ver, if 0 < n then .bool g else .unk) := rfl
@[go_sem] theorem nilS_msl {H : AH} {g : Bool} {id ver sz off n : Nat} : nilS H g (.msl id ver sz off n) = nilL (H id) ver n g := rfl
@[go_sem] theorem isEqN_eql : isEqN .eql = true := rfl
@[go_sem] theorem isEqN_neq : isEqN .neq = true := rfl
@[go_sem] theorem nthA_zero {a : AV} {l : List AV} : nthA (a :: l) 0 = a := rfl
@[go_sem] theorem nthA_succ {a : AV} {l : List AV} {n : Nat} : nthA (a :: l) (n + 1) = nthA l n := rfl
@[go_sem] theorem evA_tmp {T : List AV} {n : Nat} : evA T (.tmp n) = nthA T n := nthA_eq T n
@[go_sem] theorem evA_func {T : List AV} {f : FuncId} : evA T (.func f) = .fn f [] := rfl
@[go_sem] theorem evA_int {T : List AV} {k : IntKind} {n : Int} : evA T (.const (.int k n)) = .int k n := rfl
@[go_sem] theorem evA_bool {T : List AV} {b : Bool} : evA T (.const (.bool b)) = .bool b := rfl
@[go_sem] theorem evA_str {T : List AV} {b : ByteArray} : evA T (.const (.string b)) = .str b := rfl
@[go_sem] theorem evA_nil {T : List AV} : evA T (.const (.slice none 0 0)) = .sl 0 true [] := rfl
@[go_sem] theorem evA_nilp {T : List AV} : evA T (.const (.pointer none)) = .nilp := rfl
@[go_sem] theorem evA_agg {T : List AV} {cs : List Value} : evA T (.const (.agg cs.toArray)) = if cs.all (·.oneCell') then .agg (cs.map cst1) else .junk := by simp [evA, cstA]
def setN : List AV → Nat → AV → List AV
  | [], _, _ => []
  | _ :: l, 0, a => a :: l
  | b :: l, n + 1, a => b :: setN l n a
theorem setN_eq : ∀ (l : List AV) (n : Nat) (a : AV), l.set n a = setN l n a
  | [], n, a => by simp [setN]
  | b :: l, 0, a => by simp [setN]
  | b :: l, n + 1, a => by simp [setN, ← setN_eq l n a]
@[go_sem] theorem setN_zero {a b : AV} {l : List AV} : setN (b :: l) 0 a = a :: l := rfl
@[go_sem] theorem setN_succ {a b : AV} {l : List AV} {n : Nat} : setN (b :: l) (n + 1) a = b :: setN l n a := rfl
@[go_sem] theorem putA_some {T : List AV} {n : Nat} {a : AV} : putA T (some n) a = setN T n a := setN_eq T n a
@[go_sem] theorem putA_none {T : List AV} {a : AV} : putA T none a = T := rfl
end
end Go.TH

/-
  TH, part 21: what simp is told.
-/
set_option linter.unusedVariables false
set_option linter.unusedSimpArgs false
namespace Go.TH
open Go

def initT : Nat → List AV → List AV
  | 0, _ => []
  | n + 1, [] => .tup [] :: initT n []
  | n + 1, a :: l => a :: initT n l
theorem initT_nil : ∀ n, initT n [] = List.replicate n (.tup [])
  | 0 => rfl
  | n + 1 => by simp [initT, initT_nil n, List.replicate_succ]
theorem initT_eq : ∀ (n : Nat) (args : List AV), args.length ≤ n → args ++ List.replicate (n - args.length) (.tup []) = initT n args
  | n, [], _ => by simp [initT_nil]
  | 0, a :: l, h => by simp at h
  | n + 1, a :: l, h => by
    have := initT_eq n l (by simpa using h)
    simp only [initT, List.cons_append, List.length_cons, Nat.add_sub_add_right, this]
/-- A BODY GIVES A CONTRACT. -/
theorem call_body {P : Program} (hm : P.follows .mixedOrders = true) {f : FuncId} {fn : Func} (hf : P.funcs[f]? = some fn) (c : Code) (hb : fn.body = some c) {n : Nat} (hn : fn.ntmps = n) {rs : List ResultVar} (hrs : fn.results = rs.toArray)
    (hname : (fn.name == "runtime.NumGoroutine") = false) {args : List AV} {H : AH} {nx : Nat} {r : AV} {H' : AH} {nx' : Nat} (hl : args.length ≤ n)
    (h : awp P c (bodyQ P rs fun r1 H1 nx1 => r1 = r ∧ H1 = H' ∧ nx1 = nx') ⟨initT n args, H, nx⟩) : CallC P f args H nx r H' nx' :=
  call_of_body hm hf hb hn hrs hname (by rw [initT_eq n args hl]; exact h)
/-- On pure arguments, in a heap of its own: what comes back is looked at as a picture, 'd' deep. -/
theorem qcall_body {P : Program} (hm : P.follows .mixedOrders = true) {f : FuncId} {fn : Func} (hf : P.funcs[f]? = some fn) (c : Code) (hb : fn.body = some c) {n : Nat} (hn : fn.ntmps = n) {rs : List ResultVar} (hrs : fn.results = rs.toArray)
    (hname : (fn.name == "runtime.NumGoroutine") = false) {args : List AV} {r : AV} (d : Nat) (hl : args.length ≤ n) (hp : pureL args = true)
    (h : awp P c (bodyQ P rs fun r1 H1 _ => snapA d H1 r1 = r) ⟨initT n args, noH, 0⟩) : QCall P f args r :=
  qcall_ofQ hp d (callQ_of_body hm hf hb hn hrs hname (by rw [initT_eq n args hl]; exact h))

@[go_sem] theorem initT_zero {l : List AV} : initT 0 l = [] := by cases l <;> rfl
@[go_sem] theorem initT_succ_nil {n : Nat} : initT (n + 1) [] = .tup [] :: initT n [] := rfl
@[go_sem] theorem initT_cons {n : Nat} {a : AV} {l : List AV} : initT (n + 1) (a :: l) = a :: initT n l := rfl
@[go_sem] theorem upd_get {H : AH} {i j : Nat} {b : ABlk} : upd H i b j = if j = i then b else H j := rfl
@[go_sem] theorem bodyQ_normal {P : Program} {rs : List ResultVar} {K : AV → AH → Nat → Prop} {s : ASt} : bodyQ P rs K .normal s = bodyQ P rs K .ret s := rfl
def RetK (l : Option (Prop × List AV)) (s : ASt) (K : AV → AH → Nat → Prop) : Prop := match l with | some l => l.1 ∧ K (packA l.2) s.H s.nx | none => False
@[go_sem] theorem bodyQ_ret {P : Program} {rs : List ResultVar} {K : AV → AH → Nat → Prop} {s : ASt} : bodyQ P rs K .ret s = RetK (resA P s.H s.tmps rs) s K := rfl
@[congr] theorem bodyQ_congr {P : Program} {rs : List ResultVar} {K : AV → AH → Nat → Prop} {e : AEx} {s s' : ASt} (h : s = s') : bodyQ P rs K e s = bodyQ P rs K e s' := by rw [h]
@[congr] theorem RetK_congr {l l' : Option (Prop × List AV)} {K : AV → AH → Nat → Prop} {s s' : ASt} (h1 : l = l') (h : s = s') : RetK l s K = RetK l' s' K := by rw [h, h1]
@[go_sem] theorem RetK_some {p : Prop} {l : List AV} {K : AV → AH → Nat → Prop} {s : ASt} : RetK (some (p, l)) s K = (p ∧ K (packA l) s.H s.nx) := rfl
@[go_sem] theorem resA_nil {P : Program} {H : AH} {T : List AV} : resA P H T [] = some (True, []) := rfl
@[go_sem] theorem resA_tmp {P : Program} {H : AH} {T : List AV} {t : Tmp} {r : List ResultVar} : resA P H T (.tmp t :: r) = (resA P H T r).map fun l => (l.1, nthA T t :: l.2) := by simp only [resA, nthA_eq]
def cellR (c : Option (Prop × AV)) (l : Option (Prop × List AV)) : Option (Prop × List AV) :=
  match c, l with
  | some (p, v), some l => some (p ∧ l.1, v :: l.2)
  | _, _ => none
@[go_sem] theorem cellR_some {p : Prop} {v : AV} {l : Prop × List AV} : cellR (some (p, v)) (some l) = some (p ∧ l.1, v :: l.2) := rfl
def resP (b : ABlk) (ver off : Nat) (s : Bool × Nat) : Option (Prop × AV) := match b with | .live v cells => some (v = ver ∧ (loadA cells off s).1, (loadA cells off s).2) | .dead => none
@[go_sem] theorem resP_live {v : Nat} {cells : List AV} {ver off : Nat} {s : Bool × Nat} : resP (.live v cells) ver off s = some (v = ver ∧ (loadA cells off s).1, (loadA cells off s).2) := rfl
@[go_sem] theorem resC_ptr {H : AH} {s : Bool × Nat} {id ver off : Nat} : resC H (some s) (.ptr id ver off) = resP (H id) ver off s := rfl
@[go_sem] theorem resA_cell {P : Program} {H : AH} {T : List AV} {t : Tmp} {ty : TypeId} {r : List ResultVar} : resA P H T (.cell t ty :: r) = cellR (resC H (tyAS P ty) (nthA T t)) (resA P H T r) := by simp only [resA, nthA_eq]; rfl
@[go_sem] theorem packA_one {a : AV} : packA [a] = a := rfl
@[go_sem] theorem packA_nil : packA [] = .tup [] := rfl
@[go_sem] theorem packA_two {a b : AV} {l : List AV} : packA (a :: b :: l) = .tup (a :: b :: l) := rfl
@[go_sem] theorem guardT_bool {T : List AV} {b want : Bool} {d : Tmp} (h : T[d]? = some (.bool b)) : guardT T (some d) want = some (b == want) := by simp [guardT, h]
def gT (a : Option AV) (want : Bool) : Option Bool :=
  match a with
  | some (.bool b) => some (b == want)
  | some (.tup _) => some false
  | none => some false
  | _ => none
@[go_sem] theorem guardT_gT {T : List AV} {d : Tmp} {want : Bool} : guardT T (some d) want = gT T[d]? want := rfl
@[go_sem] theorem gT_bool {b : Bool} : gT (some (.bool b)) true = some b := by simp [gT]
@[go_sem] theorem gT_bool_f {b : Bool} : gT (some (.bool b)) false = some (!b) := by simp [gT]
@[go_sem] theorem gT_tup {l : List AV} {want : Bool} : gT (some (.tup l)) want = some false := rfl
def nthO : List Oper → Nat → Option Tmp
  | [], _ => none
  | o :: _, 0 => o.dst
  | _ :: l, n + 1 => nthO l n
@[go_sem] theorem nthO_zero {d : Option Tmp} {op : Op} {t : TypeId} {p : String} {a : Array Edge} {g : Option (Nat × Bool)} {l : List Oper} : nthO (⟨d, op, t, p, a, g⟩ :: l) 0 = d := rfl
@[go_sem] theorem nthO_succ {o : Oper} {l : List Oper} {n : Nat} : nthO (o :: l) (n + 1) = nthO l n := rfl
theorem gslot_eq : ∀ (l : List Oper) (n : Nat), gslot l n = nthO l n
  | [], n => by simp [gslot, nthO]
  | o :: l, 0 => by simp [gslot, nthO]
  | o :: l, n + 1 => by
    have := gslot_eq l n
    simp only [gslot, nthO, List.getElem?_cons_succ] at *
    exact this
section
variable {H : AH}
@[go_sem] theorem cellsA_int {k : IntKind} {n : Int} : cellsA H (.int k n) = some [.int k n] := rfl
@[go_sem] theorem cellsA_bool {b : Bool} : cellsA H (.bool b) = some [.bool b] := rfl
@[go_sem] theorem cellsA_str {b : ByteArray} : cellsA H (.str b) = some [.str b] := rfl
@[go_sem] theorem cellsA_sl {n : Nat} {t : Bool} {cs : List AV} : cellsA H (.sl n t cs) = some [.sl n t cs] := rfl
@[go_sem] theorem cellsA_ro {cs : List AV} : cellsA H (.ro cs) = some [.ro cs] := rfl
@[go_sem] theorem cellsA_agg {cs : List AV} : cellsA H (.agg cs) = some cs := rfl
@[go_sem] theorem cellsA_nilp : cellsA H .nilp = some [.nilp] := rfl
@[go_sem] theorem cellsA_fn {f : FuncId} {cs : List AV} : cellsA H (.fn f cs) = some [.fn f cs] := rfl
@[go_sem] theorem cellsA_bfn {f : FuncId} {cs : List AV} : cellsA H (.bfn f cs) = some [.bfn f cs] := rfl
@[go_sem] theorem lenT_str {P : Program} {t : TypeId} {s : ByteArray} : lenT P H t (.str s) = if tyStr P t then some (True, .int .i64 s.size) else none := rfl
@[go_sem] theorem lenT_sl {P : Program} {t : TypeId} {n : Nat} {g : Bool} {cs : List AV} : lenT P H t (.sl n g cs) = if (tySl P t).isSome then some (True, .int .i64 n) else none := rfl
def lenP (b : ABlk) (ver n : Nat) : Option (Prop × AV) := match b with | .live v _ => some (v = ver, .int .i64 n) | .dead => none
@[go_sem] theorem lenP_live {v ver n : Nat} {cs : List AV} : lenP (.live v cs) ver n = some (v = ver, .int .i64 n) := rfl
@[go_sem] theorem lenT_msl {P : Program} {t : TypeId} {id ver sz off n : Nat} : lenT P H t (.msl id ver sz off n) = if (tySl P t).isSome then lenP (H id) ver n else none := rfl
def cellsP (b : ABlk) (ver : Nat) (x : AV) : Option (List AV) := match b with | .live v _ => if v = ver then some [x] else none | .dead => none
@[go_sem] theorem cellsP_live {v ver : Nat} {cs : List AV} {x : AV} : cellsP (.live v cs) ver x = if v = ver then some [x] else none := rfl
@[go_sem] theorem cellsA_ptr {id ver off : Nat} : cellsA H (.ptr id ver off) = cellsP (H id) ver (.ptr id ver off) := rfl
@[go_sem] theorem cellsA_msl {id ver sz off n : Nat} : cellsA H (.msl id ver sz off n) = cellsP (H id) ver (.msl id ver sz off n) := rfl
def storeB (b : ABlk) (H : AH) (nx id ver off n : Nat) (cs : List AV) : Option (Prop × AV × AH × Nat) := match b with
  | .live v cells => some (v = ver ∧ cs.length = n ∧ off + n ≤ cells.length, .tup [], upd H id (.live v (cells.take off ++ cs ++ cells.drop (off + n))), nx)
  | .dead => none
@[go_sem] theorem storeB_live {H : AH} {nx id v ver off n : Nat} {cs cells : List AV} : storeB (.live v cells) H nx id ver off n cs = some (v = ver ∧ cs.length = n ∧ off + n ≤ cells.length, .tup [], upd H id (.live v (cells.take off ++ cs ++ cells.drop (off + n))), nx) := rfl
@[go_sem] theorem storeE_ptr {nx : Nat} {g : Bool} {n id ver off : Nat} {cs : List AV} : storeE H nx (some (g, n)) (.ptr id ver off) (some cs) = storeB (H id) H nx id ver off n cs := by
  simp only [storeE, storeB]; try (cases H id <;> rfl)
end
attribute [go_sem] clrA gslot_eq binA isShift intBin shiftA strBin unA loadA builtA foldI fillA fillB sliceA sliceS optInt appA srcA copA rdSl slcE convE convH bslE mkslE cst1 eqL eq1
attribute [go_sem] List.map_cons List.map_nil List.cons_append List.nil_append List.length_cons List.length_nil List.drop_zero List.drop_succ_cons List.take_zero List.take_succ_cons List.getElem?_cons_zero List.getElem?_cons_succ
  Option.map_some Option.map_none Option.bind_some Option.getD_some Option.getD_none true_and and_true if_true if_false List.getD_cons_zero List.getD_cons_succ decide_true decide_false Nat.zero_add Nat.add_zero Nat.zero_mul Nat.one_mul Nat.mul_one Int.toNat_natCast
  Bool.false_eq_true Bool.true_and Bool.and_true Bool.false_and Bool.and_false Bool.not_true Bool.not_false Bool.true_or Bool.or_true Bool.false_or Bool.or_false eq_self and_self
  List.drop_nil List.take_nil List.replicate_succ List.replicate_zero List.flatten_cons List.flatten_nil List.append_nil
end Go.TH

/-
  TH, part 22: loops, drawn regions, forks.
-/
set_option linter.unusedVariables false
set_option linter.unusedSimpArgs false
namespace Go.TH
open Go
section
variable {P : Program} {s : ASt} {K : ASt → Prop} {d : Option Tmp} {t : TypeId} {x y c b : Operand} {j : Nat} {S : Nat → Bool}

/-! ### Loops -/
def LQ {ι : Type} (st : ι → ASt) (μ : ι → Nat) (G : ι → Prop) (i : ι) (Q : AEx → ASt → Prop) : AEx → ASt → Prop
  | .normal, s2 => ∃ j, G j ∧ μ j < μ i ∧ Weak s2 (st j)
  | e, s2 => Q e s2
@[go_sem] theorem LQ_exit {ι : Type} {st : ι → ASt} {μ : ι → Nat} {G : ι → Prop} {i : ι} {Q : AEx → ASt → Prop} {k : Nat} {s2 : ASt} : LQ st μ G i Q (.exit k) s2 = Q (.exit k) s2 := rfl
@[go_sem] theorem LQ_ret {ι : Type} {st : ι → ASt} {μ : ι → Nat} {G : ι → Prop} {i : ι} {Q : AEx → ASt → Prop} {s2 : ASt} : LQ st μ G i Q .ret s2 = Q .ret s2 := rfl
@[congr] theorem LQ_congr {ι : Type} {st : ι → ASt} {μ : ι → Nat} {G : ι → Prop} {i : ι} {Q : AEx → ASt → Prop} {e : AEx} {s2 s3 : ASt} (h : s2 = s3) : LQ st μ G i Q e s2 = LQ st μ G i Q e s3 := by rw [h]
theorem LQ.next {ι : Type} {st : ι → ASt} {μ : ι → Nat} {G : ι → Prop} {i : ι} {Q : AEx → ASt → Prop} {s2 : ASt} (j : ι) (h1 : G j) (h2 : μ j < μ i) (h3 : Weak s2 (st j)) : LQ st μ G i Q .normal s2 := ⟨j, h1, h2, h3⟩
theorem LoopB.intro {body : (AEx → ASt → Prop) → ASt → Prop} {Q : AEx → ASt → Prop} {w : Box body} {w2 : Box Q} {ι : Type} (st : ι → ASt) (μ : ι → Nat) (G : ι → Prop) (i : ι) (h0 : Weak s (st i)) (hG : G i)
    (step : ∀ i, G i → body (LQ st μ G i Q) (st i)) : LoopB body Q s w w2 := by
  refine ⟨fun s n => ∃ i, G i ∧ n = μ i ∧ s = st i, μ i, ⟨_, h0, i, hG, rfl, rfl⟩, ?_⟩
  rintro s' n' ⟨i, hi, rfl, rfl⟩
  have := step i hi
  have e : (LQ st μ G i Q) = (fun e s2 => match e with | .normal => ∃ m, m < μ i ∧ ∃ s0, Weak s2 s0 ∧ ∃ i, G i ∧ m = μ i ∧ s0 = st i | e => Q e s2) := by
    funext e s2
    cases e with
    | normal =>
      refine propext ⟨?_, ?_⟩
      · rintro ⟨j, h1, h2, h3⟩; exact ⟨μ j, h2, _, h3, j, h1, rfl, rfl⟩
      · rintro ⟨m, h1, s0, h2, j, h3, rfl, rfl⟩; exact ⟨j, h3, h1, h2⟩
    | exit k => rfl
    | ret => rfl
  rw [e] at this
  exact this
theorem Weak.mk {T T0 : List AV} {H : AH} {nx : Nat} (h : wkL T T0) : Weak ⟨T, H, nx⟩ ⟨T0, H, nx⟩ := Weak0.toW ⟨h, fun _ => .inl rfl, Nat.le_refl _⟩
@[go_sem] theorem wkL_nil : wkL [] [] = True := rfl
@[go_sem] theorem wkL_junk {a : AV} {l l' : List AV} : wkL (a :: l) (.junk :: l') = wkL l l' := by simp [wkL]
theorem wkL_refl : ∀ l : List AV, wkL l l
  | [] => trivial
  | a :: l => ⟨.inr rfl, wkL_refl l⟩
theorem wkL_same {a : AV} {l l' : List AV} : wkL l l' → wkL (a :: l) (a :: l') := fun h => ⟨.inr rfl, h⟩
theorem wkL_cons {a b : AV} {l l' : List AV} (h : a = b) : wkL l l' → wkL (a :: l) (b :: l') := fun h' => ⟨.inr h, h'⟩
/-- A frame of which just some slots are known. -/
def mkT (n : Nat) (l : List (Nat × AV)) : List AV := go n 0 l
where go : Nat → Nat → List (Nat × AV) → List AV
  | 0, _, _ => []
  | n + 1, k, (i, a) :: l => if i = k then a :: go n (k + 1) l else .junk :: go n (k + 1) ((i, a) :: l)
  | n + 1, k, [] => .junk :: go n (k + 1) []
theorem mkT_eq {n : Nat} {l : List (Nat × AV)} : mkT n l = mkT.go n 0 l := rfl
theorem mkT_zero {k : Nat} {l : List (Nat × AV)} : mkT.go 0 k l = [] := by unfold mkT.go; rfl
theorem mkT_cons {n k i : Nat} {a : AV} {l : List (Nat × AV)} : mkT.go (n + 1) k ((i, a) :: l) = if i = k then a :: mkT.go n (k + 1) l else .junk :: mkT.go n (k + 1) ((i, a) :: l) := by rw [mkT.go]
theorem mkT_nil {n k : Nat} : mkT.go (n + 1) k [] = .junk :: mkT.go n (k + 1) [] := by rw [mkT.go]

/-! ### Regions that draw -/
theorem DrawB.intro {ops : List Oper} {w : Box ops} {w2 : Box K} (effs frees : List Nat) (S : Nat → Bool) (hok : drawOk ops effs frees = true) (h : dops P ops effs frees S K 0 ops s) : DrawB P ops K s w w2 := .inl ⟨effs, frees, S, hok, h⟩
/-- Nothing but quiet steps. -/
def noS : Nat → Bool := fun _ => false
@[go_sem] theorem maskH_noS {H : AH} : maskH noS H = H := by funext i; simp [maskH, noS]
theorem DrawB.quiet {ops : List Oper} {w : Box ops} {w2 : Box K} (hok : drawOk ops [] [] = true) (h : dops P ops [] [] noS K 0 ops s) : DrawB P ops K s w w2 := .inl ⟨[], [], noS, hok, h⟩
/-- With a variable that is made beside all of it: 'j' makes it, 'f', the last one, sets it. -/
theorem DrawB.floatF {ops : List Oper} {w : Box ops} {w2 : Box K} (effs frees : List Nat) (f j : Nat) (z : List AV) (S : Nat → Bool) (hok : (drawOk ops effs frees && effs.contains f && !(effs.contains j) && decide (j < f) && (decide (f < ops.length) && freesOk effs frees f j ops.length)) = true) (hS : S s.nx = true)
    (h : dopsF P effs frees f j s.nx z S K 0 ops ⟨s.tmps, s.H, s.nx + 1⟩) : DrawB P ops K s w w2 := by
  simp only [Bool.and_eq_true, Bool.not_eq_true', decide_eq_true_eq] at hok
  obtain ⟨⟨⟨⟨h1, h0⟩, h2⟩, h3⟩, h4, h5⟩ := hok
  exact .inr ⟨effs, frees, f, j, z, S, h1, h0, h2, h3, h4, freesOk_spec h5, hS, h⟩
theorem DrawB.float {ops : List Oper} {w : Box ops} {w2 : Box K} (effs : List Nat) (f j : Nat) (z : List AV) (S : Nat → Bool) (hok : (drawOk ops effs [f] && effs.contains f && !(effs.contains j) && decide (j < f) && (decide (f < ops.length) && freesOk effs [f] f j ops.length)) = true) (hS : S s.nx = true)
    (h : dopsF P effs [f] f j s.nx z S K 0 ops ⟨s.tmps, s.H, s.nx + 1⟩) : DrawB P ops K s w w2 := DrawB.floatF effs [f] f j z S hok hS h
/-- Three places. -/
def inS (a b c : Nat) : Nat → Bool := fun i => decide (i = a ∨ i = b ∨ i = c)
@[go_sem] theorem maskI_upd {H : AH} {a b c i : Nat} {x : ABlk} (h : i = a ∨ i = b ∨ i = c) : maskH (inS a b c) (upd H i x) = maskH (inS a b c) H := by
  funext k
  simp only [maskH, upd, inS, decide_eq_true_eq]
  split
  · rfl
  · split
    · subst_vars; contradiction
    · rfl
@[go_sem] theorem maskI_get {H : AH} {a b c i : Nat} (h : i ≠ a ∧ i ≠ b ∧ i ≠ c) : maskH (inS a b c) H i = H i := by
  have : ¬ (i = a ∨ i = b ∨ i = c) := by omega
  simp [maskH, inS, this]
@[go_sem] theorem maskH_all {H : AH} : maskH (fun _ => true) H = noH := by funext i; simp [maskH, noH]
attribute [go_sem] SF
theorem maskH_upd {H : AH} {i : Nat} {b : ABlk} (h : S i = true) : maskH S (upd H i b) = maskH S H := by
  funext k
  simp only [maskH, upd]
  split
  · rfl
  · split
    · rename_i h1 h2; subst h2; exact absurd h h1
    · rfl
theorem maskH_out {H : AH} {i : Nat} (h : S i = false) : maskH S H i = H i := by simp [maskH, h]
@[go_sem] theorem contains_nil {i : Nat} : ([] : List Nat).contains i = false := rfl
@[go_sem] theorem contains_cons {i k : Nat} {l : List Nat} : (k :: l).contains i = (i == k || l.contains i) := by rw [List.contains_cons]

/-- Behind a step with an effect. -/
def EK (S : Nat → Bool) (H : AH) (K : ASt → Prop) (s' : ASt) : Prop := AndB (maskH S s'.H = maskH S H) (K s') .mk
@[go_sem] theorem EK_eq {H : AH} {s' : ASt} : EK S H K s' = AndB (maskH S s'.H = maskH S H) (K s') .mk := rfl
@[go_sem] theorem dop_eff {op : Op} : dop P true S d op s K = aopD P d op s (EK S s.H K) := by unfold dop; rw [if_pos rfl]; rfl
/-- A call with its one result. -/
structure ECallB (P : Program) (f : AV) (args : List AV) (s : ASt) (K : AV → AH → Nat → Prop) (_ : Box K) : Prop where
  out : match f with
    | .fn g cap => ACallD P g (args ++ cap) s.H s.nx K
    | .bfn g bnd => ACallD P g (bnd ++ args) s.H s.nx K
    | _ => False
@[congr] theorem ECallB_congr {f g : AV} {args args' : List AV} {s s' : ASt} {K : AV → AH → Nat → Prop} {w : Box K} (h1 : f = g) (h2 : args = args') (h3 : s = s') : ECallB P f args s K w = ECallB P g args' s' K w := by rw [h1, h2, h3]
theorem ECallB.of {g : FuncId} {args : List AV} {r : AV} {H' : AH} {nx' : Nat} {K : AV → AH → Nat → Prop} {w : Box K} (h : CallC P g args s.H s.nx r H' nx') (k : K r H' nx') : ECallB P (.fn g []) args s K w := ⟨⟨r, H', nx', by rw [List.append_nil]; exact h, k⟩⟩
@[go_sem] theorem aopD_is {op : Op} : aopD P d op s K = aop P d op s K := by
  unfold aopD aop
  rfl
theorem aopD_call {f : Operand} {args : List Operand} {tys : Array TypeId} : aopD P d (.call ⟨.value f, args.toArray, tys⟩) s K = ECallB P (evA s.tmps f) (args.map (evA s.tmps)) s (CK s d K) .mk := by
  refine propext (Iff.trans ?_ ⟨fun h => ⟨h⟩, fun h => h.out⟩)
  unfold aopD
  simp only [callV]
  cases evA s.tmps f <;> simp [CK]
  all_goals rfl
@[congr] theorem EK_congr {H : AH} {s' s2 : ASt} (h : s' = s2) : EK S H K s' = EK S H K s2 := by rw [h]
structure DCallB (P : Program) (f : AV) (args : List AV) (S : Nat → Bool) (H : AH) (K : AV → Prop) (_ : Box K) : Prop where
  out : match f with
    | .fn g cap => ∃ q, (∀ H2 nx2, maskH S H2 = maskH S H → CallC P g (args ++ cap) H2 nx2 q H2 nx2) ∧ K q
    | _ => False
@[congr] theorem DCallB_congr {f g : AV} {args args' : List AV} {H H' : AH} {K : AV → Prop} {w : Box K} (h1 : f = g) (h2 : args = args') (h3 : H = H') : DCallB P f args S H K w = DCallB P g args' S H' K w := by rw [h1, h2, h3]
theorem DCallB.q {g : FuncId} {cap args : List AV} {H : AH} {K : AV → Prop} {w : Box K} {r : AV} (h : QCall P g (args ++ cap) r) (k : K r) : DCallB P (.fn g cap) args S H K w := ⟨⟨r, fun H2 nx2 _ => h H2 nx2, k⟩⟩
@[go_sem] theorem dop_call {f : Operand} {args : List Operand} {tys : Array TypeId} : dop P false S d (.call ⟨.value f, args.toArray, tys⟩) s K =
    DCallB P (evA s.tmps f) (args.map (evA s.tmps)) S s.H (QK s d K) .mk := by
  refine propext (Iff.trans ?_ ⟨fun h => ⟨h⟩, fun h => h.out⟩)
  unfold dop
  simp only [callV, Bool.false_eq_true, if_false]
  cases evA s.tmps f <;> simp [QK]
/-- One operation, chosen by its number. -/
def SelF (b1 b2 b3 b4 : Bool) (P : Program) (effs frees : List Nat) (f j a : Nat) (z : List AV) (S : Nat → Bool) (K : ASt → Prop) (i : Nat) (d : Option Tmp) (op : Op) (r : List Oper) (s : ASt) : Prop :=
  match b1, b2, b3, b4 with
  | true, _, _, _ => AndB (allocZ P op = some z) (dopsF P effs frees f j a z S K (i + 1) r ⟨putA s.tmps d (.ptr a 1 0), s.H, s.nx⟩) .mk
  | false, true, _, _ => aopD P d op ⟨s.tmps, upd s.H a (.live 1 z), s.nx⟩ (dopsF P effs frees f j a z S K (i + 1) r)
  | false, false, true, _ => dopF P a z d op s (EK S s.H (dopsF P effs frees f j a z S K (i + 1) r))
  | false, false, false, false => dop P false S d op s (dopsF P effs frees f j a z S K (i + 1) r)
  | false, false, false, true => dop P false (fun _ => true) d op s (dopsF P effs frees f j a z S K (i + 1) r)
section selF
variable {effs frees : List Nat} {f j a i : Nat} {z : List AV} {r : List Oper} {op : Op} {b2 b3 b4 : Bool}
@[congr] theorem SelF_congr {b1 c1 b2 c2 b3 c3 b4 c4 : Bool} {s s' : ASt} (h1 : b1 = c1) (h2 : b2 = c2) (h3 : b3 = c3) (h4 : b4 = c4) : SelF b1 b2 b3 b4 P effs frees f j a z S K i d op r s = SelF c1 c2 c3 c4 P effs frees f j a z S K i d op r s := by rw [h1, h2, h3, h4]
@[go_sem] theorem SelF_1 : SelF true b2 b3 b4 P effs frees f j a z S K i d op r s = AndB (allocZ P op = some z) (dopsF P effs frees f j a z S K (i + 1) r ⟨putA s.tmps d (.ptr a 1 0), s.H, s.nx⟩) .mk := rfl
@[go_sem] theorem SelF_2 : SelF false true b3 b4 P effs frees f j a z S K i d op r s = aopD P d op ⟨s.tmps, upd s.H a (.live 1 z), s.nx⟩ (dopsF P effs frees f j a z S K (i + 1) r) := rfl
@[go_sem] theorem SelF_3 : SelF false false true b4 P effs frees f j a z S K i d op r s = dopF P a z d op s (EK S s.H (dopsF P effs frees f j a z S K (i + 1) r)) := rfl
@[go_sem] theorem SelF_4 : SelF false false false false P effs frees f j a z S K i d op r s = dop P false S d op s (dopsF P effs frees f j a z S K (i + 1) r) := rfl
@[go_sem] theorem SelF_5 : SelF false false false true P effs frees f j a z S K i d op r s = dop P false (fun _ => true) d op s (dopsF P effs frees f j a z S K (i + 1) r) := rfl
@[congr] theorem dopsF_congr {l : List Oper} {s s' : ASt} (h : s = s') : dopsF P effs frees f j a z S K i l s = dopsF P effs frees f j a z S K i l s' := by rw [h]
@[go_sem] theorem dopsF_nil : dopsF P effs frees f j a z S K i [] s = K s := rfl
@[go_sem] theorem dopsF_cons {t : TypeId} {p : String} {aft : Array Edge} : dopsF P effs frees f j a z S K i (⟨d, op, t, p, aft, none⟩ :: r) s = SelF (i == j) (i == f) (effs.contains i) (frees.contains i) P effs frees f j a z S K i d op r s := by
  rw [dopsF]
  simp only [true_and]
  unfold SelF
  by_cases h1 : i = j
  · subst h1; simp only [beq_self_eq_true, if_true]; exact rfl
  · have e1 : (i == j) = false := by simpa using h1
    rw [e1, if_neg h1]
    by_cases h2 : i = f
    · subst h2; simp only [beq_self_eq_true, if_true]
    · have e2 : (i == f) = false := by simpa using h2
      rw [e2, if_neg h2]
      cases h3 : effs.contains i
      · simp only [Bool.false_eq_true, if_false]
        unfold SF
        cases h4 : frees.contains i
        · simp only [Bool.false_eq_true, if_false]
        · simp only [if_true]
      · simp only [if_true]; exact rfl
@[go_sem] theorem allocZ_eq {t : TypeId} : allocZ P (.alloc t) = tyZ P t := rfl
/-- A call, the same whatever stands at 'a'. -/
structure FCallB (P : Program) (a : Nat) (z : List AV) (f : AV) (args : List AV) (s : ASt) (K : AV → AH → Nat → Prop) (_ : Box K) : Prop where
  out : match f with
    | .fn g cap => ∃ r H' nx', H' a = .dead ∧ a < nx' ∧ (∀ b, CallC P g (args ++ cap) (upd s.H a (zB z b)) s.nx r (upd H' a (zB z b)) nx') ∧ K r H' nx'
    | _ => False
@[congr] theorem FCallB_congr {f g : AV} {args args' : List AV} {s s' : ASt} {K : AV → AH → Nat → Prop} {w : Box K} (h1 : f = g) (h2 : args = args') (h3 : s = s') : FCallB P a z f args s K w = FCallB P a z g args' s' K w := by rw [h1, h2, h3]
theorem FCallB.of {g : FuncId} {args : List AV} {q : AV} {H' : AH} {nx' : Nat} {K : AV → AH → Nat → Prop} {w : Box K} (h1 : H' a = .dead) (h2 : a < nx') (h : ∀ b, CallC P g args (upd s.H a (zB z b)) s.nx q (upd H' a (zB z b)) nx') (k : K q H' nx') : FCallB P a z (.fn g []) args s K w := ⟨⟨q, H', nx', h1, h2, by rw [List.append_nil]; exact h, k⟩⟩
@[go_sem] theorem dopF_call {f : Operand} {args : List Operand} {tys : Array TypeId} : dopF P a z d (.call ⟨.value f, args.toArray, tys⟩) s K = FCallB P a z (evA s.tmps f) (args.map (evA s.tmps)) s (CK s d K) .mk := by
  refine propext (Iff.trans ?_ ⟨fun h => ⟨h⟩, fun h => h.out⟩)
  unfold dopF
  simp only [callV]
  cases evA s.tmps f <;> simp [CK]
@[go_sem] theorem dopF_app {x1 x2 : Operand} {t tx : TypeId} : dopF P a z d (.call ⟨.builtin .append, [x1, x2].toArray, [t, tx].toArray⟩) s K = aop P d (.call ⟨.builtin .append, [x1, x2].toArray, [t, tx].toArray⟩) s K := by simp [dopF, callV, isApp]
@[go_sem] theorem dopF_build {t : TypeId} {parts : List (Nat × Operand)} : dopF P a z d (.build t parts.toArray) s K = aop P d (.build t parts.toArray) s K := by simp [dopF, callV, isApp, isBld]
end selF
theorem DCallB.q0 {g : FuncId} {args : List AV} {H : AH} {K : AV → Prop} {w : Box K} {r : AV} (h : QCall P g args r) (k : K r) : DCallB P (.fn g []) args S H K w := ⟨⟨r, by rw [List.append_nil]; exact fun H2 nx2 _ => h H2 nx2, k⟩⟩
theorem dstep_q {E : Operand → AV} {H : AH} {op : Op} (h : fstep P E H op = none) : dstep P E H op = qstep P E H op := by
  unfold dstep
  split
  · rename_i h'; exact h'.symm
  · rename_i h'; rw [h, h']
@[go_sem] theorem dop_move : dop P false S d (.move x) s K = K ⟨putA s.tmps d (evA s.tmps x), s.H, s.nx⟩ := by rw [dop_q rfl, dstep_q rfl]; simp [qstep, bindP, QK]
@[go_sem] theorem dop_assign : dop P false S d (.assign x) s K = K ⟨putA s.tmps d (evA s.tmps x), s.H, s.nx⟩ := by rw [dop_q rfl, dstep_q rfl]; simp [qstep, bindP, QK]
@[go_sem] theorem dop_pick {a : Operand} : dop P false S d (.pick c a b) s K = bindB (pickE (evA s.tmps c) (evA s.tmps a) (evA s.tmps b)) (QK s d K) .mk := by rw [dop_q rfl, dstep_q rfl, q_pickE]; rfl
@[go_sem] theorem dop_build {parts : List (Nat × Operand)} : dop P false S d (.build t parts.toArray) s K = bindB (buildE (maskH S s.H) (tyZ P t) (tyFs P t) (parts.map fun x => (x.1, evA s.tmps x.2))) (QK s d K) .mk := by rw [dop_q rfl, dstep_q rfl, q_buildE]; rfl
@[go_sem] theorem dop_load : dop P false S d (.load t x) s K = bindB (loadE (tyAS P t) (maskH S s.H) (evA s.tmps x)) (QK s d K) .mk := by rw [dop_q rfl, dstep_q rfl, q_loadE]; rfl
@[go_sem] theorem dop_nil : dop P false S d (.nilCheck x) s K = bindB (nilE (maskH S s.H) (evA s.tmps x)) (QK s d K) .mk := by rw [dop_q rfl, dstep_q rfl, q_nilE]; rfl
@[go_sem] theorem dop_bin {op : BinOp} {t2 : TypeId} : dop P false S d (.binOp op t x y t2) s K = bindB (binB P (maskH S s.H) op t (isNilC y) (evA s.tmps x) (evA s.tmps y)) (QK s d K) .mk := by rw [dop_q rfl, dstep_q rfl, q_binE]; rfl
@[go_sem] theorem dop_un {op : UnOp} : dop P false S d (.unOp op t x) s K = bindB (unA op (evA s.tmps x)) (QK s d K) .mk := by rw [dop_q rfl, dstep_q rfl, q_unE]; rfl
@[go_sem] theorem dop_mkf {f : FuncId} {first cap : List Operand} : dop P false S d (.makeFunc (.func f) first.toArray cap.toArray) s K = bindB (mkfE f (first.map (evA s.tmps)) (cap.map (evA s.tmps))) (QK s d K) .mk := by rw [dop_q rfl, dstep_q rfl, q_mkfE]; rfl
@[go_sem] theorem dop_slc {lo hi mx : Option Operand} : dop P false S d (.slice t x lo hi mx) s K = bindB (slcE P t (maskH S s.H) (evA s.tmps x) (lo.map (evA s.tmps)) (hi.map (evA s.tmps)) (mx.map (evA s.tmps))) (QK s d K) .mk := by rw [dop_q rfl, dstep_q rfl, q_slcE]; rfl
@[go_sem] theorem dop_fld : dop P false S d (.fieldAddr t x j) s K = bindB (fldE (tyFld P t j) (maskH S s.H) (evA s.tmps x)) (QK s d K) .mk := by rw [dop_q rfl, dstep_q rfl, q_fldE]; rfl
@[go_sem] theorem dop_field : dop P false S d (.field t x j) s K = bindB (fieldE (tyFld P t j) (evA s.tmps x)) (QK s d K) .mk := by rw [dop_q rfl, dstep_q rfl, q_fieldE]; rfl
@[go_sem] theorem dop_idx : dop P false S d (.indexAddr t x y) s K = bindB (idxE (tySl P t) (maskH S s.H) (evA s.tmps x) (evA s.tmps y)) (QK s d K) .mk := by rw [dop_q rfl, dstep_q rfl, q_idxE]; rfl
@[go_sem] theorem dop_index : dop P false S d (.index t x y) s K = bindB (indexE P t (evA s.tmps x) (evA s.tmps y)) (QK s d K) .mk := by rw [dop_q rfl, dstep_q rfl, q_indexE]; rfl
@[go_sem] theorem dop_ext : dop P false S d (.extract x j) s K = bindB (extE (evA s.tmps x) j) (QK s d K) .mk := by rw [dop_q rfl, dstep_q rfl, q_extE]; rfl
@[go_sem] theorem dop_blt {bi : Builtin} {args : List Operand} {tys : List TypeId} : dop P false S d (.call ⟨.builtin bi, args.toArray, tys.toArray⟩) s K = bindB (builtA P (maskH S s.H) bi tys (args.map (evA s.tmps))) (QK s d K) .mk := by rw [dop_q rfl, dstep_q rfl, q_bltE]; rfl
def convD (P : Program) (src dst : TypeId) (H : AH) (x : AV) : Option (Prop × AV) :=
  match convE P src dst H x with
  | some x => some x
  | none => (match x, tySl P dst with
      | .str s, some (e, _, _) => if tyInt P e = some .u8 ∧ (P.underlying src).isSome then some (s.size ≤ 140737488355328, .sl s.size false (bytesCells s)) else none
      | _, _ => none)
@[go_sem] theorem dop_conv {src dst : TypeId} : dop P false S d (.convert src dst x) s K = bindB (convD P src dst (maskH S s.H) (evA s.tmps x)) (QK s d K) .mk := by
  rw [dop_q rfl]
  unfold dstep
  rw [q_convE]
  rfl
def bslD (P : Program) (H : AH) (e : Option (TypeId × Nat × Nat)) (len : Nat) (parts : List (Nat × AV)) : Option (Prop × AV) :=
  match e with
  | none => none
  | some e => match tyZ P e.1 with
    | none => none
    | some z => if z.length = e.2.1 ∧ len * e.2.1 ≤ 16777216 then (fillB H e.2.1 (List.replicate len z).flatten parts).map fun cs => (True, .sl len true cs) else none
@[go_sem] theorem dop_bsl {len : Nat} {parts : List (Nat × Operand)} : dop P false S d (.buildSlice t len parts.toArray) s K = bindB (bslD P (maskH S s.H) (tySl P t) len (parts.map fun x => (x.1, evA s.tmps x.2))) (QK s d K) .mk := by
  rw [dop_q rfl]
  have e : dstep P (evA s.tmps) (maskH S s.H) (.buildSlice t len parts.toArray) = bslD P (maskH S s.H) (tySl P t) len (parts.map fun x => (x.1, evA s.tmps x.2)) := by
    unfold dstep bslD
    simp only [qstep, fstep]
    cases tySl P t with
    | none => rfl
    | some e =>
      obtain ⟨e, sz, by'⟩ := e
      simp only
      cases tyZ P e <;> rfl
  rw [e]
  rfl

/-! ### Forks -/
theorem IfB.dec {p : Prop} [Decidable p] {A B : Prop} {w : Box A} {w2 : Box B} (h1 : p → A) (h2 : ¬ p → B) : IfB (decide p) A B w w2 :=
  IfB.split (fun h => h1 (of_decide_eq_true h)) (fun h => h2 (of_decide_eq_false h))
end
/-! ### Pictures -/
section
variable {d : Nat} {H : AH}
theorem snapA_mapRef (d : Nat) (H : AH) : ∃ g, ∀ a, snapA d H a = mapRef g a := by cases d <;> exact ⟨_, fun _ => rfl⟩
@[go_sem] theorem snapA_int {k : IntKind} {n : Int} : snapA d H (.int k n) = .int k n := by cases d <;> rfl
@[go_sem] theorem snapA_bool {b : Bool} : snapA d H (.bool b) = .bool b := by cases d <;> rfl
@[go_sem] theorem snapA_str {b : ByteArray} : snapA d H (.str b) = .str b := by cases d <;> rfl
@[go_sem] theorem snapA_nilp : snapA d H .nilp = .nilp := by cases d <;> rfl
@[go_sem] theorem snapA_junk : snapA d H .junk = .junk := by cases d <;> rfl
theorem mapRefL_snap {g : AV → AV} {d : Nat} {H : AH} (h : ∀ a, snapA d H a = mapRef g a) (cs : List AV) : mapRefL g cs = cs.map (snapA d H) := by
  rw [mapRefL_map]; exact List.map_congr_left fun a _ => (h a).symm
@[go_sem] theorem snapA_tup {cs : List AV} : snapA d H (.tup cs) = .tup (cs.map (snapA d H)) := by obtain ⟨g, h⟩ := snapA_mapRef d H; rw [h]; simp only [mapRef, mapRefL_snap h]
@[go_sem] theorem snapA_agg {cs : List AV} : snapA d H (.agg cs) = .agg (cs.map (snapA d H)) := by obtain ⟨g, h⟩ := snapA_mapRef d H; rw [h]; simp only [mapRef, mapRefL_snap h]
@[go_sem] theorem snapA_fn {f : FuncId} {cs : List AV} : snapA d H (.fn f cs) = .fn f (cs.map (snapA d H)) := by obtain ⟨g, h⟩ := snapA_mapRef d H; rw [h]; simp only [mapRef, mapRefL_snap h]
@[go_sem] theorem snapA_bfn {f : FuncId} {cs : List AV} : snapA d H (.bfn f cs) = .bfn f (cs.map (snapA d H)) := by obtain ⟨g, h⟩ := snapA_mapRef d H; rw [h]; simp only [mapRef, mapRefL_snap h]
@[go_sem] theorem snapA_sl {n : Nat} {t : Bool} {cs : List AV} : snapA d H (.sl n t cs) = .sl n t (cs.map (snapA d H)) := by obtain ⟨g, h⟩ := snapA_mapRef d H; rw [h]; simp only [mapRef, mapRefL_snap h]
@[go_sem] theorem snapA_ro {cs : List AV} : snapA d H (.ro cs) = .ro (cs.map (snapA d H)) := by obtain ⟨g, h⟩ := snapA_mapRef d H; rw [h]; simp only [mapRef, mapRefL_snap h]
def snapM (b : ABlk) (ver sz off n d : Nat) (H : AH) : AV := match b with
  | .live v cells => if v = ver then .sl n false (((cells.drop off).take (n * sz)).map (snapA d H)) else .junk
  | .dead => .junk
@[go_sem] theorem snapM_live {v ver sz off n d : Nat} {cells : List AV} : snapM (.live v cells) ver sz off n d H = if v = ver then .sl n false (((cells.drop off).take (n * sz)).map (snapA d H)) else .junk := rfl
@[go_sem] theorem snapA_msl {id ver sz off n : Nat} : snapA (d + 1) H (.msl id ver sz off n) = snapM (H id) ver sz off n d H := by
  simp only [snapA, mapRef, derefA, snapM]; try rfl
def snapP (b : ABlk) (ver off d : Nat) (H : AH) : AV := match b with
  | .live v cells => if v = ver then .ro ((cells.drop off).map (snapA d H)) else .junk
  | .dead => .junk
@[go_sem] theorem snapP_live {v ver off d : Nat} {cells : List AV} : snapP (.live v cells) ver off d H = if v = ver then .ro ((cells.drop off).map (snapA d H)) else .junk := rfl
@[go_sem] theorem snapA_ptr {id ver off : Nat} : snapA (d + 1) H (.ptr id ver off) = snapP (H id) ver off d H := by
  simp only [snapA, mapRef, derefA, snapP]; try rfl
end
theorem w64 {x : Int} (h : -9223372036854775808 ≤ x ∧ x ≤ 9223372036854775807) : IntKind.i64.wrap x = x := by rw [IntKind.wrap_i64]; omega
/-- What is asked on the way, where the discharger sees it. -/
theorem AndB_of {p A : Prop} {w : Box A} (h : p) : AndB p A w = A := by simp [AndB, h]
@[go_sem] theorem beq_int {a b : Int} : (a == b) = decide (a = b) := by by_cases h : a = b <;> simp [h]
@[go_sem] theorem bne_int {a b : Int} : (a != b) = !decide (a = b) := by by_cases h : a = b <;> simp [h]
@[go_sem] theorem cast_pred {j : Nat} : ((j + 1 : Nat) : Int) - 1 = (j : Int) := by omega
theorem IfB_of {p : Prop} [Decidable p] {A B : Prop} {w : Box A} {w2 : Box B} (h : p) : IfB (decide p) A B w w2 = A := by simp [h, IfB, AIf]
theorem IfB_no {p : Prop} [Decidable p] {A B : Prop} {w : Box A} {w2 : Box B} (h : ¬ p) : IfB (decide p) A B w w2 = B := by simp [h, IfB, AIf]
@[go_sem] theorem pickE_not {b : Bool} {x y : AV} : pickE (.bool (!b)) x y = pickE (.bool b) y x := by cases b <;> rfl
theorem pickE_of {p : Prop} [Decidable p] {a b : AV} (h : p) : pickE (.bool (decide p)) a b = some (True, a) := by simp [pickE, h]
theorem pickE_no {p : Prop} [Decidable p] {a b : AV} (h : ¬ p) : pickE (.bool (decide p)) a b = some (True, b) := by simp [pickE, h]
@[go_sem high] theorem nthA_8 {a b c d e f g h : AV} {l : List AV} {n : Nat} : nthA (a :: b :: c :: d :: e :: f :: g :: h :: l) (n + 8) = nthA l n := rfl
@[go_sem high] theorem setN_8 {a b c d e f g h x : AV} {l : List AV} {n : Nat} : setN (a :: b :: c :: d :: e :: f :: g :: h :: l) (n + 8) x = a :: b :: c :: d :: e :: f :: g :: h :: setN l n x := rfl
theorem ite_of {α : Type} {p : Prop} [Decidable p] {a b : α} (h : p) : (if p then a else b) = a := if_pos h
theorem ite_no {α : Type} {p : Prop} [Decidable p] {a b : α} (h : ¬ p) : (if p then a else b) = b := if_neg h
theorem Weak.noH {T T0 : List AV} {H : AH} {nx nx0 : Nat} (h : wkL T T0) (hn : nx ≤ nx0) : Weak ⟨T, H, nx⟩ ⟨T0, Go.TH.noH, nx0⟩ := Weak0.toW ⟨h, fun _ => .inr rfl, hn⟩
@[go_sem] theorem beq_bool {b : Bool} : (b == b) = true := by simp
@[go_sem] theorem IfB_or {a b : Bool} {A B : Prop} {w : Box A} {w2 : Box B} : IfB (a || b) A B w w2 = IfB a A (IfB b A B .mk .mk) .mk .mk := by cases a <;> simp [IfB, AIf]
@[go_sem] theorem IfB_and {a b : Bool} {A B : Prop} {w : Box A} {w2 : Box B} : IfB (a && b) A B w w2 = IfB a (IfB b A B .mk .mk) B .mk .mk := by cases a <;> simp [IfB, AIf]
@[go_sem] theorem cast_zero : ((0 : Nat) : Int) = 0 := rfl
@[go_sem] theorem lt_one {n : Nat} : (0 < n + 1) = True := by simp
attribute [go_sem] upd_upd convD bslD Option.isSome_some Option.isSome_none reduceCtorEq false_and and_false not_false_eq_true not_true_eq_false or_true true_or false_or or_false
attribute [go_sem] Nat.reduceAdd Nat.reduceLT Nat.reduceMul Nat.reduceSub Nat.reduceEqDiff Nat.reduceBEq Int.reduceAdd Int.reduceLT Int.reduceLE Int.reduceNeg Int.reduceToNat Nat.reduceLeDiff reduceIte reduceDIte Int.reduceMul Int.reduceSub Int.reduceEq Int.reduceBEq
end Go.TH

/-
  TH, part 23: what a caller hands over.
-/
set_option linter.unusedVariables false
set_option linter.unusedSimpArgs false
namespace Go.TH
open Go
section
variable {H : Type} {enc : TypeId × Value → H} {P : Program} {W : World} {spare : Nat → Bool} {held : Bool} {fuel : Nat} {t : TypeId} {cs : List Value} {x : DataW H × List MemPlace}
/-- The state at the entry: all memory is only read. -/
abbrev entry (W : World) : Cx := ⟨W, fun _ => none, fun b => b < W.heap.size⟩
theorem entry_inv (W : World) : Inv W.heap.size (entry W) noH 0 := ⟨fun _ h => h, Nat.le_refl _, fun _ _ => rfl, fun _ _ _ h => by simp [noH] at h, fun i j ei ej b _ h => by cases h⟩
/-- Cells handed over: each is one cell. -/
def In (W : World) (cs : List Value) (as : List AV) : Prop := (∀ v ∈ cs, v.oneCell' = true) ∧ Reps (entry W) cs as
theorem In.append {a b : List Value} {x y : List AV} (h1 : In W a x) (h2 : In W b y) : In W (a ++ b) (x ++ y) :=
  ⟨fun v hv => by rcases List.mem_append.1 hv with h | h; exact h1.1 v h; exact h2.1 v h, h1.2.append h2.2⟩
theorem In.nil : In W [] [] := ⟨fun _ h => by simp at h, Reps.nil _⟩
theorem In.one {v : Value} {a : AV} (h1 : v.oneCell' = true) (h : Rep W (fun _ => none) (fun b => b < W.heap.size) v a) : In W [v] [a] :=
  ⟨fun w hw => by simp at hw; subst hw; exact h1, Reps.cons h (Reps.nil _)⟩
theorem in_int {k : IntKind} (ht : P.underlying t = some (.int k)) (h : DataW.trod enc P W 0 spare held fuel t cs = some x) : ∃ n, (Lit.int k n).wf = true ∧ In W cs [.int k n] := by
  obtain ⟨n, rfl, _, hw⟩ := DataW.trod_int ht h
  exact ⟨n, hw, In.one rfl (.int k n)⟩
theorem in_bool (ht : P.underlying t = some .bool) (h : DataW.trod enc P W 0 spare held fuel t cs = some x) : ∃ b, In W cs [.bool b] := by
  obtain ⟨b, rfl, _⟩ := DataW.trod_bool ht h
  exact ⟨b, In.one rfl (.bool b)⟩
theorem in_str (ht : P.underlying t = some .string) (h : DataW.trod enc P W 0 spare held fuel t cs = some x) : ∃ s : ByteArray, s.size ≤ 9223372036854775807 ∧ In W cs [.str s] := by
  obtain ⟨s, rfl, _, hs⟩ := DataW.trod_string ht h
  exact ⟨s, hs, In.one rfl (.str s)⟩
/-- A struct's fields, from a place on. -/
theorem In.split {o n : Nat} {a b : List AV} (h1 : In W ((cs.drop o).take n) a) (h2 : In W (cs.drop (o + n)) b) : In W (cs.drop o) (a ++ b) := by
  have := h1.append h2
  rwa [← List.drop_drop, List.take_append_drop] at this
theorem In.last {o : Nat} (h : cs.length = o) : In W (cs.drop o) [] := by subst h; rw [List.drop_length]; exact In.nil

theorem cells?_spec {a : Addr} {n : Nat} {cs : List Value} (h : W.cells? 0 a n = some cs) : cs.length = n ∧ ∀ (j : Nat) (v : Value), cs[j]? = some v → W.cell? (a.add j) = some v := by
  unfold World.cells? at h
  rw [if_pos (Nat.zero_le _)] at h
  have hl : cs.length = n := by simpa using mapM_some_length h
  refine ⟨hl, fun j v hv => ?_⟩
  have hj : j < n := by rw [← hl]; exact (List.getElem?_eq_some_iff.1 hv).1
  have := mapM_some_get h j j (by simp [hj])
  rw [this, hv]
theorem in_slice {e : TypeId} (ht : P.underlying t = some (.slice e)) {α : Type} (c : α → List AV) (ok : α → Prop) {sz : Nat} (hsz : P.cellsOf e = sz)
    (hpos : 0 < sz) (he : ∀ fuel cs x, DataW.trod enc P W 0 spare held fuel e cs = some x → ∃ a, ok a ∧ In W cs (c a)) (h : DataW.trod enc P W 0 spare held fuel t cs = some x) :
    ∃ (l : List α) , (∀ a ∈ l, ok a) ∧ l.length ≤ 9223372036854775807 ∧ In W cs [.sl l.length false (l.flatMap c)] := by
  rcases DataW.trod_slice ht h with ⟨rfl, _⟩ | ⟨a, len, cap, elems, rest, n, _, rfl, rfl, hb, hl, hm, hlen, hel, hsp, hns⟩
  · exact ⟨[], fun a h => by simp at h, by simp, In.one rfl (.sl0 none 0 0 false (Nat.le_refl _) (fun h => by cases h))⟩
  · subst hsz
    -- an element at each place
    have each : ∀ i, i < len → ∃ (y : α) (ci : List Value), ok y ∧ W.cells? 0 (a.add (i * P.cellsOf e)) (P.cellsOf e) = some ci ∧ In W ci (c y) := by
      intro i hi
      have h1 := hel i hi
      have : i < elems.length := by omega
      rw [List.getElem?_eq_getElem this, Option.bind_eq_some_iff] at h1
      obtain ⟨ci, h2, h3⟩ := h1
      obtain ⟨y, hy, hin⟩ := he _ _ _ h3
      exact ⟨y, ci, hy, h2, hin⟩
    have hmax : len ≤ 9223372036854775807 := Nat.le_trans hl hm
    rcases Nat.eq_zero_or_pos len with rfl | hlen0
    · exact ⟨[], fun a h => by simp at h, by simp, In.one rfl (.sl0 (some a) 0 cap false hl (fun h => by cases h))⟩
    have hs : a.spot = none ∧ a.block < W.heap.size := by
      obtain ⟨y, ci, _, g2, _⟩ := each 0 hlen0
      obtain ⟨s1, s2⟩ := cells?_spec g2
      have h0 := s2 0 ci[0] (List.getElem?_eq_getElem (by omega))
      have e0 : ((a.add (0 * P.cellsOf e)).add 0) = a := by simp [Addr.add]
      rw [e0] at h0
      unfold World.cell? at h0
      refine ⟨?_, ?_⟩
      · cases hsp' : a.spot with
        | none => rfl
        | some q => rw [hsp'] at h0; simp at h0; split at h0 <;> simp at h0
      · rcases Nat.lt_or_ge a.block W.heap.size with h | h
        · exact h
        · rw [Array.getElem?_eq_none h] at h0; simp at h0
    -- all of them, front to back
    have all : ∀ k, k ≤ len → ∃ (l : List α) (vs : List Value), l.length = k ∧ (∀ y ∈ l, ok y) ∧ vs.length = k * P.cellsOf e ∧ In W vs (l.flatMap c) ∧ ∀ (j : Nat) (v : Value), vs[j]? = some v → W.cell? (a.add j) = some v := by
      intro k
      induction k with
      | zero => exact fun _ => ⟨[], [], rfl, fun y h => by simp at h, by simp, In.nil, fun j v h => by simp at h⟩
      | succ k ih =>
        intro hk
        obtain ⟨l, vs, h1, h2, h3, h4, h6⟩ := ih (by omega)
        obtain ⟨y, ci, g1, g2, g3⟩ := each k (by omega)
        obtain ⟨s1, s2⟩ := cells?_spec g2
        refine ⟨l ++ [y], vs ++ ci, by simp [h1], ?_, ?_, ?_, ?_⟩
        · intro z hz
          rcases List.mem_append.1 hz with h | h
          · exact h2 z h
          · simp at h; subst h; exact g1
        · rw [List.length_append, h3, s1, Nat.add_mul, Nat.one_mul]
        · simpa using h4.append g3
        · intro j v hv
          by_cases hj : j < vs.length
          · rw [List.getElem?_append_left hj] at hv; exact h6 j v hv
          · rw [List.getElem?_append_right (by omega)] at hv
            have := s2 _ v hv
            rwa [add_add a hs.1, h3, show k * P.cellsOf e + (j - k * P.cellsOf e) = j from by omega] at this
    obtain ⟨l, vs, h1, h2, h3, h4, h6⟩ := all len (Nat.le_refl _)
    refine ⟨l, h2, by omega, In.one rfl ?_⟩
    rw [h1]
    exact .sl a len cap false _ vs hl (fun h => by cases h) hs.2 hs.1 h4.2.1 (fun j v hj => ⟨h6 j v hj, h4.1 v (List.mem_of_getElem? hj)⟩) h4.2.2
end
theorem callQ_body {P : Program} (hm : P.follows .mixedOrders = true) {f : FuncId} {fn : Func} (hf : P.funcs[f]? = some fn) (c : Code) (hb : fn.body = some c) {n : Nat} (hn : fn.ntmps = n) {rs : List ResultVar} (hrs : fn.results = rs.toArray)
    (hname : (fn.name == "runtime.NumGoroutine") = false) {args : List AV} {H : AH} {nx : Nat} {Q : AV → AH → Nat → Prop} (hl : args.length ≤ n)
    (h : awp P c (bodyQ P rs Q) ⟨initT n args, H, nx⟩) : CallQ P f args H nx Q :=
  callQ_of_body hm hf hb hn hrs hname (by rw [initT_eq n args hl]; exact h)
/-- A law that answers true. -/
theorem law_calls {P : Program} {f : FuncId} {as : List AV} (h : CallQ P f as noH 0 fun r _ _ => r = .bool true) {W : World} {vs : List Value} (hr : In W vs as) :
    Calls P f vs.toArray W fun e W' => e = .returned (.bool true) ∧ Go.RowKit.Below W.heap.size W W' := by
  refine (h.2 _ _ vs (entry_inv W) hr.2).mono ?_
  rintro e W' ⟨r, H', nx', rfl, v, κ', rfl, rfl, hrep, hext, _⟩
  obtain rfl := hrep.bool_inv
  exact ⟨rfl, hext.os, hext.tape, hext.output, hext.size, hext.below⟩
end Go.TH

/-
  TH, part 24: a walk has one end; contracts that tell their result beforehand.
-/
set_option linter.unusedVariables false
set_option linter.unusedSimpArgs false
namespace Go.TH
open Go
section
variable {P : Program}
theorem AIf.imp {b : Bool} {A B A' B' : Prop} (h : AIf b A B) (ha : A → A') (hb : B → B') : AIf b A' B' := by
  cases b
  · simp [AIf] at h ⊢; exact hb h
  · simp [AIf] at h ⊢; exact ha h
theorem bindP_mono {α : Type} {x : Option (Prop × α)} {k k' : α → Prop} (h : bindP x k) (hk : ∀ a, k a → k' a) : bindP x k' := by
  unfold bindP at *
  cases x with
  | none => exact h
  | some y => exact ⟨h.1, hk _ h.2⟩
theorem bindP_ex {α : Type} {x : Option (Prop × α)} {k : α → Prop} (h : bindP x k) : ∃ a, k a ∧ ∀ k' : α → Prop, k' a → bindP x k' := by
  cases x with
  | none => exact h.elim
  | some y =>
    have h' : y.1 ∧ k y.2 := h
    exact ⟨y.2, h'.2, fun k' hk => (⟨h'.1, hk⟩ : y.1 ∧ k' y.2)⟩
theorem aop_ex {d : Option Tmp} {op : Op} {s : ASt} {K : ASt → Prop} (h : aop P d op s K) : ∃ s', K s' ∧ ∀ K' : ASt → Prop, K' s' → aop P d op s K' := by
  unfold aop at *
  split at h
  · rename_i f args hc
    split at h
    · rename_i g cap hf
      obtain ⟨r, H', nx', h1, h2⟩ := h
      exact ⟨_, h2, fun K' hK => ⟨r, H', nx', h1, hK⟩⟩
    · rename_i g cap hf
      obtain ⟨r, H', nx', h1, h2⟩ := h
      exact ⟨_, h2, fun K' hK => ⟨r, H', nx', h1, hK⟩⟩
    · exact h.elim
  · obtain ⟨a, h1, h2⟩ := bindP_ex h
    exact ⟨_, h1, fun K' hK => h2 _ hK⟩
theorem aops_ex {ops : List Oper} {K : ASt → Prop} : ∀ (l : List Oper) {s : ASt}, aops P ops K l s → ∃ s', K s' ∧ ∀ K' : ASt → Prop, K' s' → aops P ops K' l s
  | [], s, h => ⟨s, h, fun K' hK => hK⟩
  | o :: r, s, h => by
    unfold aops at h
    have one : aop P o.dst o.op s (aops P ops K r) → ∃ s', K s' ∧ ∀ K' : ASt → Prop, K' s' → aop P o.dst o.op s (aops P ops K' r) := by
      intro h
      obtain ⟨s1, h1, h2⟩ := aop_ex h
      obtain ⟨s', h3, h4⟩ := aops_ex r h1
      exact ⟨s', h3, fun K' hK => h2 _ (h4 K' hK)⟩
    cases hg : o.guard with
    | none =>
      rw [hg] at h
      obtain ⟨s', h1, h2⟩ := one h
      refine ⟨s', h1, fun K' hK => ?_⟩
      unfold aops
      rw [hg]
      exact h2 K' hK
    | some jw =>
      obtain ⟨j, want⟩ := jw
      rw [hg] at h
      simp only at h
      cases hq : guardA ops s.tmps j want with
      | none => rw [hq] at h; exact h.elim
      | some b =>
        rw [hq] at h
        simp only at h
        cases b with
        | true =>
          obtain ⟨s', h1, h2⟩ := one (by simpa [AIf] using h)
          refine ⟨s', h1, fun K' hK => ?_⟩
          unfold aops
          simp only [hg, hq]
          simpa [AIf] using h2 K' hK
        | false =>
          obtain ⟨s', h1, h2⟩ := aops_ex r (by simpa [AIf] using h)
          refine ⟨s', h1, fun K' hK => ?_⟩
          unfold aops
          simp only [hg, hq]
          simpa [AIf] using h2 K' hK
theorem dop_ex {eff : Bool} {S : Nat → Bool} {d : Option Tmp} {op : Op} {s : ASt} {K : ASt → Prop} (h : dop P eff S d op s K) : ∃ s', K s' ∧ ∀ K' : ASt → Prop, K' s' → dop P eff S d op s K' := by
  unfold dop at h
  split at h
  · rename_i he
    rw [aopD_is] at h
    obtain ⟨s', h1, h2⟩ := aop_ex h
    refine ⟨s', h1.2, fun K' hK => ?_⟩
    unfold dop
    rw [if_pos he, aopD_is]
    exact h2 _ ⟨h1.1, hK⟩
  · rename_i he
    cases hc : callV op with
    | some fa =>
      obtain ⟨f, args⟩ := fa
      rw [hc] at h
      simp only at h
      split at h
      · rename_i g cap hf
        obtain ⟨q, h1, h2⟩ := h
        refine ⟨_, h2, fun K' hK => ?_⟩
        unfold dop
        rw [if_neg he]
        simp only [hc, hf]
        exact ⟨q, h1, hK⟩
      · exact h.elim
    | none =>
      rw [hc] at h
      obtain ⟨a, h1, h2⟩ := bindP_ex h
      refine ⟨_, h1, fun K' hK => ?_⟩
      unfold dop
      rw [if_neg he]
      simp only [hc]
      exact h2 _ hK
theorem dops_ex {ops : List Oper} {effs frees : List Nat} {S : Nat → Bool} {K : ASt → Prop} : ∀ (l : List Oper) (i : Nat) {s : ASt}, dops P ops effs frees S K i l s → ∃ s', K s' ∧ ∀ K' : ASt → Prop, K' s' → dops P ops effs frees S K' i l s
  | [], i, s, h => ⟨s, h, fun K' hK => hK⟩
  | o :: r, i, s, h => by
    unfold dops at h
    have one : dop P (effs.contains i) (SF frees S i) o.dst o.op s (dops P ops effs frees S K (i + 1) r) → ∃ s', K s' ∧ ∀ K' : ASt → Prop, K' s' → dop P (effs.contains i) (SF frees S i) o.dst o.op s (dops P ops effs frees S K' (i + 1) r) := by
      intro h
      obtain ⟨s1, h1, h2⟩ := dop_ex h
      obtain ⟨s', h3, h4⟩ := dops_ex r (i + 1) h1
      exact ⟨s', h3, fun K' hK => h2 _ (h4 K' hK)⟩
    cases hg : o.guard with
    | none =>
      rw [hg] at h
      obtain ⟨s', h1, h2⟩ := one h
      refine ⟨s', h1, fun K' hK => ?_⟩
      unfold dops
      rw [hg]
      exact h2 K' hK
    | some jw =>
      obtain ⟨j, want⟩ := jw
      rw [hg] at h
      simp only at h
      cases hq : guardA ops s.tmps j want with
      | none => rw [hq] at h; exact h.elim
      | some b =>
        rw [hq] at h
        simp only at h
        cases b with
        | true =>
          obtain ⟨s', h1, h2⟩ := one (by simpa [AIf] using h)
          refine ⟨s', h1, fun K' hK => ?_⟩
          unfold dops
          simp only [hg, hq]
          simpa [AIf] using h2 K' hK
        | false =>
          obtain ⟨s', h1, h2⟩ := dops_ex r (i + 1) (by simpa [AIf] using h)
          refine ⟨s', h1, fun K' hK => ?_⟩
          unfold dops
          simp only [hg, hq]
          simpa [AIf] using h2 K' hK
theorem aopD_is' {d : Option Tmp} {op : Op} {s : ASt} {K : ASt → Prop} : aopD P d op s K = aop P d op s K := by
  unfold aopD aop
  rfl
theorem dopF_ex {a : Nat} {z : List AV} {d : Option Tmp} {op : Op} {s : ASt} {K : ASt → Prop} (h : dopF P a z d op s K) : ∃ s', K s' ∧ ∀ K' : ASt → Prop, K' s' → dopF P a z d op s K' := by
  unfold dopF at *
  split at h
  · split at h
    · obtain ⟨r, H', nx', h1, h2, h3, h4⟩ := h
      exact ⟨_, h4, fun K' hK => ⟨r, H', nx', h1, h2, h3, hK⟩⟩
    · exact h.elim
  · obtain ⟨s', h1, h2⟩ := aop_ex h.2
    exact ⟨s', h1, fun K' hK => ⟨h.1, h2 K' hK⟩⟩
theorem dopsF_ex {effs frees : List Nat} {f j a : Nat} {z : List AV} {S : Nat → Bool} {K : ASt → Prop} : ∀ (l : List Oper) (i : Nat) {s : ASt}, dopsF P effs frees f j a z S K i l s → ∃ s', K s' ∧ ∀ K' : ASt → Prop, K' s' → dopsF P effs frees f j a z S K' i l s
  | [], i, s, h => ⟨s, h, fun K' hK => hK⟩
  | o :: r, i, s, h => by
    unfold dopsF at h
    obtain ⟨hg, h⟩ := h
    by_cases h1 : i = j
    · rw [if_pos h1] at h
      obtain ⟨s', h3, h4⟩ := dopsF_ex r (i + 1) h.2
      refine ⟨s', h3, fun K' hK => ?_⟩
      unfold dopsF
      rw [if_pos h1]
      exact ⟨hg, h.1, h4 K' hK⟩
    rw [if_neg h1] at h
    by_cases h2 : i = f
    · rw [if_pos h2, aopD_is'] at h
      obtain ⟨s1, k1, k2⟩ := aop_ex h
      obtain ⟨s', h3, h4⟩ := dopsF_ex r (i + 1) k1
      refine ⟨s', h3, fun K' hK => ?_⟩
      unfold dopsF
      rw [if_neg h1, if_pos h2, aopD_is']
      exact ⟨hg, k2 _ (h4 K' hK)⟩
    rw [if_neg h2] at h
    by_cases h3 : effs.contains i = true
    · rw [if_pos h3] at h
      obtain ⟨s1, k1, k2⟩ := dopF_ex h
      obtain ⟨s', k3, k4⟩ := dopsF_ex r (i + 1) k1.2
      refine ⟨s', k3, fun K' hK => ?_⟩
      unfold dopsF
      rw [if_neg h1, if_neg h2, if_pos h3]
      exact ⟨hg, k2 _ ⟨k1.1, k4 K' hK⟩⟩
    · rw [if_neg h3] at h
      obtain ⟨s1, k1, k2⟩ := dop_ex h
      obtain ⟨s', k3, k4⟩ := dopsF_ex r (i + 1) k1
      refine ⟨s', k3, fun K' hK => ?_⟩
      unfold dopsF
      rw [if_neg h1, if_neg h2, if_neg h3]
      exact ⟨hg, k2 _ (k4 K' hK)⟩
/-- The end of a walk. -/
def AtQ (e : AEx) (s : ASt) (Q : AEx → ASt → Prop) : Prop := Q e s
/-- One end: whatever holds of it is what the walk comes to. -/
theorem awp_ex : ∀ (c : Code) {Q : AEx → ASt → Prop} {s : ASt}, awp P c Q s → ∃ e s', Q e s' ∧ ∀ Q' : AEx → ASt → Prop, Q' e s' → awp P c Q' s
  | .skip, Q, s, h => ⟨.normal, s, h, fun Q' hq => hq⟩
  | .region id ops draw, Q, s, h => by
    unfold awp at h
    split at h
    · rename_i hd
      rcases h with ⟨effs, frees, S, h1, h2⟩ | ⟨effs, frees, f, j, z, S, h1, h0, h2, h5, h5b, h5c, h6, h7⟩
      · obtain ⟨s', h3, h4⟩ := dops_ex _ _ h2
        refine ⟨.normal, s', h3, fun Q' hq => ?_⟩
        unfold awp
        rw [if_pos hd]
        exact .inl ⟨effs, frees, S, h1, h4 _ hq⟩
      · obtain ⟨s', h3, h4⟩ := dopsF_ex _ _ h7
        refine ⟨.normal, s', h3, fun Q' hq => ?_⟩
        unfold awp
        rw [if_pos hd]
        exact .inr ⟨effs, frees, f, j, z, S, h1, h0, h2, h5, h5b, h5c, h6, h4 _ hq⟩
    · rename_i hd
      obtain ⟨s', h3, h4⟩ := aops_ex _ h
      refine ⟨.normal, s', h3, fun Q' hq => ?_⟩
      unfold awp
      rw [if_neg hd]
      exact h4 _ hq
  | .seq x y, Q, s, h => by
    unfold awp at h
    obtain ⟨e, s1, h1, h2⟩ := awp_ex x h
    cases e with
    | normal =>
      obtain ⟨e2, s2, h3, h4⟩ := awp_ex y h1
      exact ⟨e2, s2, h3, fun Q' hq => h2 _ (h4 Q' hq)⟩
    | exit id => exact ⟨.exit id, s1, h1, fun Q' hq => h2 (thenQ (awp P y Q') Q') hq⟩
    | ret => exact ⟨.ret, s1, h1, fun Q' hq => h2 (thenQ (awp P y Q') Q') hq⟩
  | .cond c x y, Q, s, h => by
    unfold awp at h
    unfold ACond at h
    split at h
    · rename_i b hb
      cases b with
      | true =>
        obtain ⟨e, s', h1, h2⟩ := awp_ex x (show awp P x Q s by simpa [AIf] using h)
        refine ⟨e, s', h1, fun Q' hq => ?_⟩
        unfold awp ACond
        rw [hb]
        simpa [AIf] using h2 Q' hq
      | false =>
        obtain ⟨e, s', h1, h2⟩ := awp_ex y (show awp P y Q s by simpa [AIf] using h)
        refine ⟨e, s', h1, fun Q' hq => ?_⟩
        unfold awp ACond
        rw [hb]
        simpa [AIf] using h2 Q' hq
    · exact h.elim
  | .block id x, Q, s, h => by
    unfold awp at h
    obtain ⟨e, s1, h1, h2⟩ := awp_ex x h
    cases e with
    | normal => exact ⟨.normal, s1, h1, fun Q' hq => h2 (blockQ id Q') hq⟩
    | ret => exact ⟨.ret, s1, h1, fun Q' hq => h2 (blockQ id Q') hq⟩
    | exit i =>
      by_cases hi : i = id
      · refine ⟨.normal, s1, by simpa [blockQ, hi] using h1, fun Q' hq => h2 (blockQ id Q') (by simpa [blockQ, hi] using hq)⟩
      · refine ⟨.exit i, s1, by simpa [blockQ, hi] using h1, fun Q' hq => h2 (blockQ id Q') (by simpa [blockQ, hi] using hq)⟩
  | .loop x, Q, s, h => by
    unfold awp at h
    obtain ⟨R, n0, ⟨s0, hw0, hR0⟩, hbody⟩ := h
    -- one end from each state of R
    have key : ∀ (N n : Nat) (s1 : ASt), n ≤ N → R s1 n → ∃ e s', Q e s' ∧ ∀ Q' : AEx → ASt → Prop, Q' e s' → ∃ (R' : ASt → Nat → Prop) (m : Nat), R' s1 m ∧
        ∀ s2 n', R' s2 n' → awp P x (fun e s3 => match e with | .normal => ∃ m, m < n' ∧ ∃ s0, Weak s3 s0 ∧ R' s0 m | e => Q' e s3) s2 := by
      intro N
      induction N with
      | zero =>
        intro n s1 hn hR
        obtain ⟨e, s2, h1, h2⟩ := awp_ex x (hbody s1 n hR)
        cases e with
        | normal => obtain ⟨m, hm, _⟩ := h1; omega
        | exit id => exact ⟨.exit id, s2, h1, fun Q' hq => ⟨fun z k => z = s1, 0, rfl, fun z k hz => by subst hz; exact h2 (fun e s3 => match e with | .normal => _ | e => Q' e s3) hq⟩⟩
        | ret => exact ⟨.ret, s2, h1, fun Q' hq => ⟨fun z k => z = s1, 0, rfl, fun z k hz => by subst hz; exact h2 (fun e s3 => match e with | .normal => _ | e => Q' e s3) hq⟩⟩
      | succ N ih =>
        intro n s1 hn hR
        obtain ⟨e, s2, h1, h2⟩ := awp_ex x (hbody s1 n hR)
        cases e with
        | normal =>
          obtain ⟨m, hm, s3, hw, hR3⟩ := h1
          obtain ⟨e', s', g1, g2⟩ := ih m s3 (by omega) hR3
          refine ⟨e', s', g1, fun Q' hq => ?_⟩
          obtain ⟨R', k, r1, r2⟩ := g2 Q' hq
          refine ⟨fun z j => (z = s1 ∧ j = k + 1) ∨ (R' z j ∧ j ≤ k), k + 1, .inl ⟨rfl, rfl⟩, fun z j hz => ?_⟩
          rcases hz with ⟨rfl, rfl⟩ | ⟨hz, hj⟩
          · exact h2 (fun e s3 => match e with | .normal => _ | e => Q' e s3) ⟨k, Nat.lt_succ_self _, s3, hw, .inr ⟨r1, Nat.le_refl _⟩⟩
          · obtain ⟨e4, s4, w1, w2⟩ := awp_ex x (r2 z j hz)
            refine w2 (fun e s3 => match e with | .normal => _ | e => Q' e s3) ?_
            cases e4 with
            | normal => obtain ⟨m4, hm4, s5, hw5, hR5⟩ := w1; exact ⟨m4, hm4, s5, hw5, .inr ⟨hR5, by omega⟩⟩
            | exit id => exact w1
            | ret => exact w1
        | exit id => exact ⟨.exit id, s2, h1, fun Q' hq => ⟨fun z k => z = s1, 0, rfl, fun z k hz => by subst hz; exact h2 (fun e s3 => match e with | .normal => _ | e => Q' e s3) hq⟩⟩
        | ret => exact ⟨.ret, s2, h1, fun Q' hq => ⟨fun z k => z = s1, 0, rfl, fun z k hz => by subst hz; exact h2 (fun e s3 => match e with | .normal => _ | e => Q' e s3) hq⟩⟩
    obtain ⟨e, s', h1, h2⟩ := key n0 n0 s0 (Nat.le_refl _) hR0
    refine ⟨e, s', h1, fun Q' hq => ?_⟩
    obtain ⟨R', m, r1, r2⟩ := h2 Q' hq
    unfold awp
    exact ⟨R', m, ⟨s0, hw0, r1⟩, r2⟩
  | .exit id, Q, s, h => ⟨.exit id, s, h, fun Q' hq => hq⟩
  | .ret, Q, s, h => ⟨.ret, s, h, fun Q' hq => hq⟩
  | .label .., Q, s, h => by unfold awp at h; exact h.elim
  | .goto .., Q, s, h => by unfold awp at h; exact h.elim
  | .refuse .., Q, s, h => by unfold awp at h; exact h.elim
theorem awp_mono (c : Code) {Q Q' : AEx → ASt → Prop} {s : ASt} (h : awp P c Q s) (hq : ∀ e s', Q e s' → Q' e s') : awp P c Q' s := by
  obtain ⟨e, s', h1, h2⟩ := awp_ex c h
  exact h2 Q' (hq e s' h1)
/-- Cut: what is asked behind the first part is told. -/
theorem awp_cut {a b : Code} {Q : AEx → ASt → Prop} {s : ASt} (R : ASt → Prop) (h : awp P a (thenQ R Q) s) (h2 : ∀ s', R s' → awp P b Q s') : awp P (.seq a b) Q s := by
  unfold awp
  refine awp_mono a h fun e s' hq => ?_
  cases e with
  | normal => exact h2 s' hq
  | exit id => exact hq
  | ret => exact hq
/-- A BODY GIVES A CONTRACT with its one result. -/
theorem dcall_of_body (hm : P.follows .mixedOrders = true) {f : FuncId} {fn : Func} {c : Code} {n : Nat} {rs : List ResultVar} (hf : P.funcs[f]? = some fn) (hb : fn.body = some c) (hn : fn.ntmps = n) (hrs : fn.results = rs.toArray)
    (hname : (fn.name == "runtime.NumGoroutine") = false) {args : List AV} {H : AH} {nx : Nat} {Q : AV → AH → Nat → Prop}
    (h : awp P c (bodyQ P rs Q) ⟨args ++ List.replicate (n - args.length) (.tup []), H, nx⟩) : ACallD P f args H nx Q := by
  obtain ⟨e, s', h1, h2⟩ := awp_ex c h
  have fin : ∃ l, resA P s'.H s'.tmps rs = some l ∧ l.1 ∧ Q (packA l.2) s'.H s'.nx := by
    cases e with
    | exit id => exact h1.elim
    | normal =>
      simp only [bodyQ] at h1
      split at h1
      · rename_i l hl; exact ⟨l, hl, h1.1, h1.2⟩
      · exact h1.elim
    | ret =>
      simp only [bodyQ] at h1
      split at h1
      · rename_i l hl; exact ⟨l, hl, h1.1, h1.2⟩
      · exact h1.elim
  obtain ⟨l, hl, hp, hq⟩ := fin
  refine ⟨_, _, _, call_of_body hm hf hb hn hrs hname (r := packA l.2) (H' := s'.H) (nx' := s'.nx) (h2 _ ?_), hq⟩
  cases e with
  | exit id => exact h1.elim
  | normal => simp only [bodyQ, hl]; exact ⟨hp, trivial, trivial, trivial⟩
  | ret => simp only [bodyQ, hl]; exact ⟨hp, trivial, trivial, trivial⟩
theorem dcall_body (hm : P.follows .mixedOrders = true) {f : FuncId} {fn : Func} (hf : P.funcs[f]? = some fn) (c : Code) (hb : fn.body = some c) {n : Nat} (hn : fn.ntmps = n) {rs : List ResultVar} (hrs : fn.results = rs.toArray)
    (hname : (fn.name == "runtime.NumGoroutine") = false) {args : List AV} {H : AH} {nx : Nat} {Q : AV → AH → Nat → Prop} (hl : args.length ≤ n)
    (h : awp P c (bodyQ P rs Q) ⟨initT n args, H, nx⟩) : ACallD P f args H nx Q :=
  dcall_of_body hm hf hb hn hrs hname (by rw [initT_eq n args hl]; exact h)
theorem ECallB.law {g : FuncId} {args : List AV} {s : ASt} {Q K : AV → AH → Nat → Prop} {w : Box K} (h : ACallD P g args s.H s.nx Q) (k : ∀ r H' nx', Q r H' nx' → K r H' nx') : ECallB P (.fn g []) args s K w :=
  ⟨by simp only [List.append_nil]; exact h.mono k⟩
end
end Go.TH

/-
  TH, part 25: behind a call: new places are numbered anew, or only read from then on.
-/
set_option linter.unusedVariables false
set_option linter.unusedSimpArgs false
namespace Go.TH
open Go

/-- Where a place is kept. -/
def placeL : List (Nat × Nat) → Nat → Nat → Nat → Option Nat
  | [], _, _, _ => none
  | p :: r, k, id, ver => if p.1 = id ∧ p.2 = ver then some k else placeL r (k + 1) id ver
theorem placeL_some : ∀ {L : List (Nat × Nat)} {k id ver j : Nat}, placeL L k id ver = some j → ∃ i, j = k + i ∧ L[i]? = some (id, ver)
  | [], k, id, ver, j, h => by cases h
  | p :: r, k, id, ver, j, h => by
    unfold placeL at h
    split at h
    · rename_i hp
      cases h
      exact ⟨0, by omega, by simp [← hp.1, ← hp.2]⟩
    · obtain ⟨i, h1, h2⟩ := placeL_some h
      exact ⟨i + 1, by omega, by simpa using h2⟩
theorem placeL_none : ∀ {L : List (Nat × Nat)} {k id ver : Nat}, placeL L k id ver = none → (id, ver) ∉ L
  | [], k, id, ver, h => by simp
  | p :: r, k, id, ver, h => by
    unfold placeL at h
    split at h
    · cases h
    · rename_i hp
      have := placeL_none h
      intro hm
      rcases List.mem_cons.1 hm with e | hm
      · exact hp ⟨by rw [← e], by rw [← e]⟩
      · exact this hm
/-- What becomes of a place's name. 'd': how deep places that are not kept are pictured. -/
def keepR (nx : Nat) (L : List (Nat × Nat)) (H : AH) : Nat → AV → AV
  | 0, .ptr id ver off => if id < nx then .ptr id ver off else match placeL L nx id ver with
    | some k => .ptr k 0 off
    | none => .junk
  | 0, .msl id ver sz off n => if id < nx then .msl id ver sz off n else match placeL L nx id ver with
    | some k => .msl k 0 sz off n
    | none => .junk
  | d + 1, .ptr id ver off => if id < nx then .ptr id ver off else match placeL L nx id ver with
    | some k => .ptr k 0 off
    | none => derefA H (List.map (mapRef (keepR nx L H d))) (.ptr id ver off)
  | d + 1, .msl id ver sz off n => if id < nx then .msl id ver sz off n else match placeL L nx id ver with
    | some k => .msl k 0 sz off n
    | none => derefA H (List.map (mapRef (keepR nx L H d))) (.msl id ver sz off n)
  | _, a => a
def keepA (nx : Nat) (L : List (Nat × Nat)) (H : AH) (d : Nat) (a : AV) : AV := mapRef (keepR nx L H d) a

mutual
/-- Names of places below 'n' alone. -/
def refsLt (n : Nat) : AV → Prop
  | .sl _ _ cs => refsLtL n cs
  | .ro cs => refsLtL n cs
  | .agg cs => refsLtL n cs
  | .tup cs => refsLtL n cs
  | .fn _ cs => refsLtL n cs
  | .bfn _ cs => refsLtL n cs
  | .ptr id _ _ => id < n
  | .msl id _ _ _ _ => id < n
  | _ => True
def refsLtL (n : Nat) : List AV → Prop
  | [] => True
  | a :: l => refsLt n a ∧ refsLtL n l
end
theorem refsLtL_iff {n : Nat} : ∀ {l : List AV}, refsLtL n l ↔ ∀ a ∈ l, refsLt n a
  | [] => by simp [refsLtL]
  | a :: l => by simp [refsLtL, refsLtL_iff (l := l)]
theorem Rep.refs {W : World} {M : Nat → Option Ent} {F : Nat → Prop} {n : Nat} (hM : ∀ id, n ≤ id → M id = none) {v : Value} {a : AV} (r : Rep W M F v a) : refsLt n a := by
  have pt : ∀ {vs : List Value} {cells : List AV}, vs.length = cells.length → (∀ (j : Nat) (v : Value) (a : AV), vs[j]? = some v → cells[j]? = some a → refsLt n a) → refsLtL n cells := by
    intro vs cells hl h
    rw [refsLtL_iff]
    intro a ha
    obtain ⟨j, hj⟩ := List.mem_iff_getElem?.1 ha
    have hjl : j < vs.length := by rw [hl]; exact (List.getElem?_eq_some_iff.1 hj).1
    exact h j _ a (List.getElem?_eq_getElem hjl) hj
  have lt : ∀ {id : Nat} {e : Ent}, M id = some e → id < n := fun {id e} h => Nat.lt_of_not_le fun hn => by rw [hM id hn] at h; cases h
  induction r with
  | int k n => simp [refsLt]
  | bool b => simp [refsLt]
  | str s => simp [refsLt]
  | sl ad n c t cells vs hn ht hF hs hl hc hr ih => simp only [refsLt]; exact pt hl ih
  | sl0 A n c t hn ht => simp [refsLt, refsLtL]
  | ro ad cells vs hF hs hl hc hr ih => simp only [refsLt]; exact pt hl ih
  | ptr id ver off b hm => simp only [refsLt]; exact lt hm
  | ptrOld v id ver off e hm hv => simp only [refsLt]; exact lt hm
  | msl id ver sz off n c b cs T fz hm hn hb hcap => simp only [refsLt]; exact lt hm
  | mslNil A id ver sz off b hm => simp only [refsLt]; exact lt hm
  | mslOld v id ver sz off n e hm hv => simp only [refsLt]; exact lt hm
  | agg vs cells hl h1 hr ih => simp only [refsLt]; exact pt hl ih
  | tup vs as hl hr ih => simp only [refsLt]; exact pt hl ih
  | fn f vs as hl hr ih => simp only [refsLt]; exact pt hl ih
  | bfn f vs as hl hr ih => simp only [refsLt]; exact pt hl ih
  | nilp => simp [refsLt]
  | junk v => simp [refsLt]
  | unk b => simp [refsLt]
theorem Rep.low {W : World} {M M' : Nat → Option Ent} {F F' : Nat → Prop} {n : Nat} (hM : ∀ id, id < n → M' id = M id) (hF : ∀ b, F b → F' b) {v : Value} {a : AV} (r : Rep W M F v a) : refsLt n a → Rep W M' F' v a := by
  have pt : ∀ {vs : List Value} {cells : List AV}, refsLtL n cells → (∀ (j : Nat) (v : Value) (a : AV), vs[j]? = some v → cells[j]? = some a → refsLt n a → Rep W M' F' v a) →
      ∀ (j : Nat) (v : Value) (a : AV), vs[j]? = some v → cells[j]? = some a → Rep W M' F' v a :=
    fun {vs cells} h ih j v a h1 h2 => ih j v a h1 h2 (refsLtL_iff.1 h a (List.mem_of_getElem? h2))
  induction r with
  | int k n => exact fun _ => .int k n
  | bool b => exact fun _ => .bool b
  | str s => exact fun _ => .str s
  | sl ad n c t cells vs hn ht hF' hs hl hc hr ih => exact fun h => .sl ad n c t cells vs hn ht (hF _ hF') hs hl hc (pt (by simpa [refsLt] using h) ih)
  | sl0 A n c t hn ht => exact fun _ => .sl0 A n c t hn ht
  | ro ad cells vs hF' hs hl hc hr ih => exact fun h => .ro ad cells vs (hF _ hF') hs hl hc (pt (by simpa [refsLt] using h) ih)
  | ptr id ver off b hm => exact fun h => .ptr id ver off b (by rw [hM id (by simpa [refsLt] using h)]; exact hm)
  | ptrOld v id ver off e hm hv => exact fun h => .ptrOld v id ver off e (by rw [hM id (by simpa [refsLt] using h)]; exact hm) hv
  | msl id ver sz off n c b cs T fz hm hn hb hcap => exact fun h => .msl id ver sz off n c b cs T fz (by rw [hM id (by simpa [refsLt] using h)]; exact hm) hn hb hcap
  | mslNil A id ver sz off b hm => exact fun h => .mslNil A id ver sz off b (by rw [hM id (by simpa [refsLt] using h)]; exact hm)
  | mslOld v id ver sz off n e hm hv => exact fun h => .mslOld v id ver sz off n e (by rw [hM id (by simpa [refsLt] using h)]; exact hm) hv
  | agg vs cells hl h1 hr ih => exact fun h => .agg vs cells hl h1 (pt (by simpa [refsLt] using h) ih)
  | tup vs as hl hr ih => exact fun h => .tup vs as hl (pt (by simpa [refsLt] using h) ih)
  | fn f vs as hl hr ih => exact fun h => .fn f vs as hl (pt (by simpa [refsLt] using h) ih)
  | bfn f vs as hl hr ih => exact fun h => .bfn f vs as hl (pt (by simpa [refsLt] using h) ih)
  | nilp => exact fun _ => .nilp
  | junk v => exact fun _ => .junk v
  | unk b => exact fun _ => .unk b

/-- What is kept is alive, and each place once. -/
structure KeepOk (nx : Nat) (L : List (Nat × Nat)) (H' : AH) : Prop where
  live : ∀ p ∈ L, nx ≤ p.1 ∧ ∃ cells, H' p.1 = .live p.2 cells
  once : (L.map (·.1)).Nodup
/-- The heap behind it. -/
structure KeepH (nx : Nat) (L : List (Nat × Nat)) (d : Nat) (H H' H2 : AH) : Prop where
  old : ∀ i, i < nx → H2 i = .dead ∨ (H2 i = H' i ∧ (H' i = H i ∨ ∃ ver cells, H' i = .live ver cells ∧ pureL cells = true))
  new : ∀ k p, L[k]? = some p → H2 (nx + k) = .dead ∨ ∃ cells, H' p.1 = .live p.2 cells ∧ H2 (nx + k) = .live 0 (cells.map (keepA nx L H' d))
  out : ∀ i, nx + L.length ≤ i → H2 i = .dead ∨ H2 i = H i

section
variable {base nx nx' : Nat} {κ κ' : Cx} {H H' H2 : AH} {L : List (Nat × Nat)} {d : Nat}
def keepM (κ' : Cx) (nx : Nat) (L : List (Nat × Nat)) (i : Nat) : Option Ent :=
  if i < nx then κ'.M i else match L[i - nx]? with
    | some p => (κ'.M p.1).map fun e => ⟨0, e.blk⟩
    | none => none
def keepF (κ' : Cx) (nx : Nat) (L : List (Nat × Nat)) (H' : AH) (b : Nat) : Prop :=
  κ'.F b ∨ ∃ id ver cells e, nx ≤ id ∧ H' id = .live ver cells ∧ placeL L nx id ver = none ∧ κ'.M id = some e ∧ e.blk = some b
def keepC (κ' : Cx) (nx : Nat) (L : List (Nat × Nat)) (H' : AH) : Cx := ⟨κ'.W, keepM κ' nx L, keepF κ' nx L H'⟩
theorem keepM_lt {i : Nat} (h : i < nx) : keepM κ' nx L i = κ'.M i := by simp [keepM, h]
theorem keepM_at {i : Nat} {p : Nat × Nat} (h : L[i]? = some p) : keepM κ' nx L (nx + i) = (κ'.M p.1).map fun e => ⟨0, e.blk⟩ := by
  have : ¬ nx + i < nx := by omega
  simp only [keepM, if_neg this, Nat.add_sub_cancel_left, h]
theorem keep_ref (hi : Inv base κ' H' nx') (hk : KeepOk nx L H') : ∀ (d : Nat) (v : Value) (a : AV), Rep κ'.W κ'.M κ'.F v a → (∃ id ver off, a = .ptr id ver off) ∨ (∃ id ver sz off n, a = .msl id ver sz off n) →
    Rep κ'.W (keepM κ' nx L) (keepF κ' nx L H') v (keepR nx L H' d a) := by
  have kept : ∀ {id ver k : Nat}, placeL L nx id ver = some k → ∃ cells, H' id = .live ver cells ∧ ∀ e, κ'.M id = some e → keepM κ' nx L k = some ⟨0, e.blk⟩ := by
    intro id ver k h
    obtain ⟨i, rfl, h2⟩ := placeL_some h
    obtain ⟨_, cells, h3⟩ := hk.live _ (List.mem_of_getElem? h2)
    refine ⟨cells, h3, fun e he => ?_⟩
    rw [keepM_at h2, he]
    rfl
  have frz : ∀ {id ver : Nat} {cells : List AV} {b : Nat}, ¬ id < nx → placeL L nx id ver = none → H' id = .live ver cells → κ'.M id = some ⟨ver, some b⟩ → keepF κ' nx L H' b :=
    fun {id ver cells b} h1 h2 h3 h4 => .inr ⟨id, ver, cells, _, Nat.le_of_not_lt h1, h3, h2, h4, rfl⟩
  intro d
  induction d with
  | zero =>
    rintro v a hr (⟨id, ver, off, rfl⟩ | ⟨id, ver, sz, off, n, rfl⟩)
    · simp only [keepR]
      split
      · rename_i hlt
        exact hr.low (fun i hi => keepM_lt hi) (fun b hb => .inl hb) hlt
      · split
        · rename_i k hp
          obtain ⟨cells, hl, hm⟩ := kept hp
          obtain ⟨b, rfl, hb⟩ := hi.ptr_inv hl hr
          exact .ptr _ _ _ b (hm _ hb)
        · exact .junk v
    · simp only [keepR]
      split
      · rename_i hlt
        exact hr.low (fun i hi => keepM_lt hi) (fun b hb => .inl hb) hlt
      · split
        · rename_i k hp
          obtain ⟨cells, hl, hm⟩ := kept hp
          rcases hi.msl_inv hl hr with ⟨b, c, cs, T, fz, rfl, hb, hn, hh, hcap⟩ | ⟨A, b, rfl, hb, rfl⟩
          · exact .msl _ _ _ _ _ c b cs T fz (hm _ hb) hn hh hcap
          · exact .mslNil _ _ _ _ _ _ (hm _ hb)
        · exact .junk v
  | succ d ih =>
    have cells : ∀ {vs : List Value} {cs : List AV}, Reps κ' vs cs → Reps (keepC κ' nx L H') vs (cs.map (mapRef (keepR nx L H' d))) := by
      intro vs cs h
      refine ⟨by simp [h.1], fun j v a h1 h2 => ?_⟩
      rw [List.getElem?_map] at h2
      cases hc : cs[j]? with
      | none => rw [hc] at h2; cases h2
      | some x => rw [hc] at h2; cases h2; exact mapRef_rep (fun b hb => .inl hb) _ ih (h.2 j v x h1 hc)
    rintro v a hr (⟨id, ver, off, rfl⟩ | ⟨id, ver, sz, off, n, rfl⟩)
    · simp only [keepR]
      split
      · rename_i hlt
        exact hr.low (fun i hi => keepM_lt hi) (fun b hb => .inl hb) hlt
      · rename_i hlt
        split
        · rename_i k hp
          obtain ⟨cells, hl, hm⟩ := kept hp
          obtain ⟨b, rfl, hb⟩ := hi.ptr_inv hl hr
          exact .ptr _ _ _ b (hm _ hb)
        · rename_i hp
          cases hl : H' id with
          | dead => simp only [derefA, hl]; exact .junk v
          | live v' cs =>
            simp only [derefA, hl]
            split
            · rename_i hv
              subst hv
              obtain ⟨b, rfl, hm⟩ := hi.ptr_inv hl hr
              obtain ⟨_, _, vs, rest, T, hb, h1, hrs⟩ := hi.place hl hm
              have hca := (cellsAt_block (κ := κ') hb h1).drop off
              rw [add_lit, Nat.zero_add] at hca
              exact Rep.ro_mk (κ := keepC κ' nx L H') (frz hlt hp hl hm) hca (cells (hrs.drop off))
            · exact .junk v
    · simp only [keepR]
      split
      · rename_i hlt
        exact hr.low (fun i hi => keepM_lt hi) (fun b hb => .inl hb) hlt
      · rename_i hlt
        split
        · rename_i k hp
          obtain ⟨cells, hl, hm⟩ := kept hp
          rcases hi.msl_inv hl hr with ⟨b, c, cs, T, fz, rfl, hb, hn, hh, hcap⟩ | ⟨A, b, rfl, hb, rfl⟩
          · exact .msl _ _ _ _ _ c b cs T fz (hm _ hb) hn hh hcap
          · exact .mslNil _ _ _ _ _ _ (hm _ hb)
        · rename_i hp
          cases hl : H' id with
          | dead => simp only [derefA, hl]; exact .junk v
          | live v' cs =>
            simp only [derefA, hl]
            split
            · rename_i hv
              subst hv
              rcases hi.msl_inv hl hr with ⟨b, c, cs', T, fz, rfl, hm, hn, hb0, hcap⟩ | ⟨A, b0, rfl, hm, hn⟩
              · obtain ⟨_, _, vs, rest, T', hb, h1, hrs⟩ := hi.place hl hm
                have hca := ((cellsAt_block (κ := κ') hb h1).drop off).take (n * sz)
                rw [add_lit, Nat.zero_add] at hca
                exact Rep.sl_mk (κ := keepC κ' nx L H') hn (fun h => by cases h) (.inr ⟨_, _, rfl, frz hlt hp hl hm, hca, cells ((hrs.drop off).take (n * sz))⟩)
              · subst hn
                simp only [Nat.zero_mul, List.take_zero, List.map_nil]
                exact .sl0 A 0 0 false (Nat.le_refl _) (fun h => by cases h)
            · exact .junk v
theorem keep_rep (hi : Inv base κ' H' nx') (hk : KeepOk nx L H') (d : Nat) {v : Value} {a : AV} (h : Rep κ'.W κ'.M κ'.F v a) : Rep κ'.W (keepM κ' nx L) (keepF κ' nx L H') v (keepA nx L H' d a) :=
  mapRef_rep (fun b hb => .inl hb) _ (keep_ref hi hk d) h
theorem keep_reps (hi : Inv base κ' H' nx') (hk : KeepOk nx L H') (d : Nat) {vs : List Value} {cs : List AV} (h : Reps κ' vs cs) : Reps (keepC κ' nx L H') vs (cs.map (keepA nx L H' d)) := by
  refine ⟨by simp [h.1], fun j v a h1 h2 => ?_⟩
  rw [List.getElem?_map] at h2
  cases hc : cs[j]? with
  | none => rw [hc] at h2; cases h2
  | some x => rw [hc] at h2; cases h2; exact keep_rep hi hk d (h.2 j v x h1 hc)
theorem keep_new {b : Nat} (hi : Inv base κ' H' nx') (h : keepF κ' nx L H' b) : κ'.F b ∨ (base ≤ b ∧ b < κ'.W.heap.size) := by
  rcases h with h | ⟨id, ver, cells, e, h1, h2, h3, h4, h5⟩
  · exact .inl h
  · obtain ⟨e', he', _, hh⟩ := hi.live id ver cells h2
    rw [h4] at he'
    cases he'
    refine .inr ⟨?_, hh.lt h5⟩
    unfold Held at hh
    rw [h5] at hh
    exact hh.1
/-- The state behind it. -/
theorem keep_all (h0 : Inv base κ H nx) (hext : Ext base κ κ') (hi : Inv base κ' H' nx') (hk : KeepOk nx L H') (hh : KeepH nx L d H H' H2) :
    Ext base κ (keepC κ' nx L H') ∧ Inv base (keepC κ' nx L H') H2 (nx + L.length) := by
  have ev : Ev κ (keepC κ' nx L H') := by
    refine ⟨fun b hb => ⟨.inl (hext.ev.fr b hb).1, (hext.ev.fr b hb).2⟩, fun id e he => ?_, hext.ev.shp⟩
    have hlt : id < nx := Nat.lt_of_not_le fun h => by rw [h0.hM id h] at he; cases he
    obtain ⟨e', h1, h2⟩ := hext.ev.pl id e he
    exact ⟨e', (keepM_lt (κ' := κ') (L := L) hlt).trans h1, h2⟩
  -- a block that is held stays so
  have held : ∀ {id ver : Nat} {cells cells2 : List AV} {e : Ent}, H' id = .live ver cells → κ'.M id = some e → Held base κ' e cells → (id < nx ∨ ∃ v, placeL L nx id ver = some v) →
      (∀ vs, Reps κ' vs cells → Reps (keepC κ' nx L H') vs cells2) → (cells = [] → cells2 = []) → ∀ w, Held base (keepC κ' nx L H') ⟨w, e.blk⟩ cells2 := by
    intro id ver cells cells2 e hl hm hd hid hrs hnil w
    unfold Held at *
    cases hb : e.blk with
    | none => rw [hb] at hd; exact hnil hd
    | some b =>
      rw [hb] at hd
      obtain ⟨g1, g2, vs, rest, T, g3, g4, g5⟩ := hd
      refine ⟨g1, ?_, vs, rest, T, g3, g4, hrs vs g5⟩
      rintro (hF | ⟨id2, ver2, cells2, e2, k1, k2, k3, k4, k5⟩)
      · exact g2 hF
      · by_cases he : id2 = id
        · subst he
          rw [hl] at k2
          cases k2
          rcases hid with hid | ⟨v, hv⟩
          · omega
          · rw [hv] at k3; cases k3
        · rcases hi.inj id2 id e2 e b he k4 hm k5 hb with h | h
          · rw [h] at k2; cases k2
          · rw [h] at hl; cases hl
  refine ⟨⟨ev, hext.os, hext.tape, hext.output, hext.size, hext.below, fun b hb => ?_⟩, ⟨fun b hb => ?_, hi.hbase, fun id hid => ?_, fun id ver cells hl => ?_, fun i j ei ej b hij h1 h2 h3 h4 => ?_⟩⟩
  · rcases keep_new hi hb with h | h
    · exact hext.newF b h
    · exact .inr h.1
  · rcases keep_new hi hb with h | h
    · exact hi.hF b h
    · exact h.2
  · have : ¬ id < nx := by omega
    have h2 : L[id - nx]? = none := List.getElem?_eq_none (by omega)
    simp [keepC, keepM, this, h2]
  · by_cases hlt : id < nx
    · rcases hh.old id hlt with h | ⟨h, h'⟩
      · rw [h] at hl; cases hl
      · rw [h] at hl
        obtain ⟨e, he, hv, hd⟩ := hi.live id ver cells hl
        refine ⟨e, (keepM_lt hlt).trans he, hv, ?_⟩
        have key : ∀ vs, Reps κ' vs cells → Reps (keepC κ' nx L H') vs cells := by
          intro vs hvs
          rcases h' with h' | ⟨ver2, cells2, h2, hp⟩
          · rw [h'] at hl
            obtain ⟨e0, he0, hv0, hd0⟩ := h0.live id ver cells hl
            have hrefs : refsLtL nx cells := by
              unfold Held at hd0
              cases hb : e0.blk with
              | none => rw [hb] at hd0; subst hd0; simp [refsLtL]
              | some b =>
                rw [hb] at hd0
                obtain ⟨_, _, vs0, _, _, _, _, hr0⟩ := hd0
                rw [refsLtL_iff]
                intro a ha
                obtain ⟨j, hj⟩ := List.mem_iff_getElem?.1 ha
                have hjl : j < vs0.length := by rw [hr0.1]; exact (List.getElem?_eq_some_iff.1 hj).1
                exact (hr0.2 j _ a (List.getElem?_eq_getElem hjl) hj).refs h0.hM
            exact ⟨hvs.1, fun j v a h1 h2 => (hvs.2 j v a h1 h2).low (fun i hi => keepM_lt hi) (fun b hb => .inl hb) (refsLtL_iff.1 hrefs a (List.mem_of_getElem? h2))⟩
          · rw [h2] at hl
            cases hl
            have hp' : ∀ a ∈ cells, pureA a = true := fun a ha => by
              obtain ⟨j, hj⟩ := List.mem_iff_getElem?.1 ha
              exact pureL_get hp hj
            exact ⟨hvs.1, fun j v a h1 h2 => (((hvs.2 j v a h1 h2).pure (M' := keepM κ' nx L) (hp' a (List.mem_of_getElem? h2)))).low (n := 0) (fun i hi => by omega) (fun b hb => .inl hb)
              ((((hvs.2 j v a h1 h2).pure (M' := fun _ => none) (hp' a (List.mem_of_getElem? h2)))).refs (fun _ _ => rfl))⟩
        have := held hl he hd (.inl hlt) key (fun h => h) e.ver
        exact this
    · obtain ⟨k, rfl⟩ : ∃ k, id = nx + k := ⟨id - nx, by omega⟩
      by_cases hkl : k < L.length
      · have hp : L[k]? = some L[k] := List.getElem?_eq_getElem hkl
        rcases hh.new k _ hp with h | ⟨cells0, h1, h2⟩
        · rw [h] at hl; cases hl
        · rw [h2] at hl
          cases hl
          obtain ⟨e, he, hv, hd⟩ := hi.live _ _ _ h1
          refine ⟨⟨0, e.blk⟩, by show keepM κ' nx L (nx + k) = _; rw [keepM_at hp, he]; rfl, rfl, ?_⟩
          refine held h1 he hd (.inr ?_) (fun vs h => keep_reps hi hk d h) (fun h => by rw [h]; rfl) 0
          cases hpl : placeL L nx L[k].1 L[k].2 with
          | some v => exact ⟨v, rfl⟩
          | none => exact absurd (List.getElem_mem hkl) (placeL_none hpl)
      · rcases hh.out _ (show nx + L.length ≤ nx + k by omega) with h | h
        · rw [h] at hl; cases hl
        · rw [h] at hl
          have := h0.live_lt hl
          omega
  · -- one block, one place
    have src : ∀ {i : Nat} {ei : Ent}, keepM κ' nx L i = some ei → ei.blk = some b → (i < nx ∧ κ'.M i = some ei) ∨ ∃ k p e, i = nx + k ∧ L[k]? = some p ∧ κ'.M p.1 = some e ∧ e.blk = some b := by
      intro i ei hm hb
      unfold keepM at hm
      split at hm
      · rename_i hlt; exact .inl ⟨hlt, hm⟩
      · rename_i hlt
        split at hm
        · rename_i p hp
          cases hq : κ'.M p.1 with
          | none => rw [hq] at hm; cases hm
          | some e =>
            rw [hq] at hm
            cases hm
            exact .inr ⟨i - nx, p, e, by omega, hp, hq, hb⟩
        · cases hm
    rcases src h1 h3 with ⟨i1, i2⟩ | ⟨k, p, e, rfl, p1, p2, p3⟩
    · rcases src h2 h4 with ⟨j1, j2⟩ | ⟨k, p, e, rfl, p1, p2, p3⟩
      · rcases hi.inj i j ei ej b hij i2 j2 h3 h4 with h | h
        · rcases hh.old i i1 with g | ⟨g, _⟩
          · exact .inl g
          · exact .inl (g.trans h)
        · rcases hh.old j j1 with g | ⟨g, _⟩
          · exact .inr g
          · exact .inr (g.trans h)
      · obtain ⟨q1, cells, q2⟩ := hk.live p (List.mem_of_getElem? p1)
        rcases hi.inj i p.1 ei e b (by omega) i2 p2 h3 p3 with h | h
        · rcases hh.old i i1 with g | ⟨g, _⟩
          · exact .inl g
          · exact .inl (g.trans h)
        · rw [h] at q2; cases q2
    · obtain ⟨q1, cells, q2⟩ := hk.live p (List.mem_of_getElem? p1)
      rcases src h2 h4 with ⟨j1, j2⟩ | ⟨k', p', e', rfl, p1', p2', p3'⟩
      · rcases hi.inj j p.1 ej e b (by omega) j2 p2 h4 p3 with h | h
        · rcases hh.old j j1 with g | ⟨g, _⟩
          · exact .inr g
          · exact .inr (g.trans h)
        · rw [h] at q2; cases q2
      · obtain ⟨q1', cells', q2'⟩ := hk.live p' (List.mem_of_getElem? p1')
        have hne : p.1 ≠ p'.1 := by
          intro he
          have hkk : k ≠ k' := fun h => hij (by rw [h])
          have hk1 : k < L.length := (List.getElem?_eq_some_iff.1 p1).1
          have hk2 : k' < L.length := (List.getElem?_eq_some_iff.1 p1').1
          have hnd := hk.once
          unfold List.Nodup at hnd
          rw [List.pairwise_iff_getElem] at hnd
          obtain ⟨_, e1⟩ := List.getElem?_eq_some_iff.1 p1
          obtain ⟨_, e2⟩ := List.getElem?_eq_some_iff.1 p1'
          rcases Nat.lt_or_gt_of_ne hkk with h | h
          · refine hnd k k' (by simpa using hk1) (by simpa using hk2) h ?_
            simp [e1, e2, he]
          · refine hnd k' k (by simpa using hk2) (by simpa using hk1) h ?_
            simp [e1, e2, he]
        rcases hi.inj p.1 p'.1 e e' b hne p2 p2' p3 p3' with h | h
        · rw [h] at q2; cases q2
        · rw [h] at q2'; cases q2'
end
/-- BEHIND A CALL. -/
theorem CallC.keep {P : Program} {f : FuncId} {args : List AV} {H : AH} {nx : Nat} {r : AV} {H' : AH} {nx' : Nat} (h : CallC P f args H nx r H' nx') {L : List (Nat × Nat)} {d : Nat} {H2 : AH}
    (hk : KeepOk nx L H') (hh : KeepH nx L d H H' H2) : CallC P f args H nx (keepA nx L H' d r) H2 (nx + L.length) := by
  refine ⟨h.1, fun base κ vs hi hr => (h.2 base κ vs hi hr).mono ?_⟩
  rintro e W' ⟨v, κ', rfl, rfl, hrep, hext, hinv⟩
  obtain ⟨h1, h2⟩ := keep_all hi hext hinv hk hh
  exact ⟨v, keepC κ' nx L H', rfl, rfl, keep_rep hinv hk d hrep, h1, h2⟩
theorem ACallD.keep {P : Program} {f : FuncId} {args : List AV} {H : AH} {nx : Nat} {Q Q2 : AV → AH → Nat → Prop} (h : ACallD P f args H nx Q)
    (hk : ∀ r H' nx', Q r H' nx' → ∃ L d H2, KeepOk nx L H' ∧ KeepH nx L d H H' H2 ∧ Q2 (keepA nx L H' d r) H2 (nx + L.length)) : ACallD P f args H nx Q2 := by
  obtain ⟨r, H', nx', h1, h2⟩ := h
  obtain ⟨L, d, H2, k1, k2, k3⟩ := hk r H' nx' h2
  exact ⟨_, _, _, h1.keep k1 k2, k3⟩
end Go.TH
