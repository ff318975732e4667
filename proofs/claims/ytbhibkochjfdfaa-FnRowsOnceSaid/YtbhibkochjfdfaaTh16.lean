/-
  TH, part 16: regions that draw their order, sound (the simulation).
-/
import Derived.Test.YtbhibkochjfdfaaTh15
set_option linter.unusedVariables false
set_option linter.unusedSimpArgs false
namespace Go.TH
open Go

/-- What holds when just the operations in 'listed' have been carried out. -/
structure Sim (ops : List Oper) (effs : List Nat) (st : Nat → ASt) (s0 : ASt) (base : Nat) (listed : Array Bool) (κ : Cx) (a : Act) : Prop where
  size : listed.size = ops.length
  closed : Closed ops listed
  heap : ∃ m, m ≤ ops.length ∧ (∀ i, i < ops.length → effs.contains i = true → (listed.getD i false = true ↔ i < m)) ∧ Inv base κ (st m).H (st m).nx
  len : a.tmps.size = s0.tmps.length
  tmps : ∀ t, t < s0.tmps.length → ∃ k, k ≤ ops.length ∧ (∀ (i : Nat) (o : Oper), ops[i]? = some o → o.dst = some t → (listed.getD i false = true ↔ i < k)) ∧ AgreeAt κ a (st k).tmps t
  defers : a.defers = []

theorem getD_set (listed : Array Bool) (j i : Nat) (hj : j < listed.size) : (listed.setIfInBounds j true).getD i false = if i = j then true else listed.getD i false := by
  by_cases h : i = j
  · subst h; simp [hj]
  · simp only [h, if_false]
    exact getD_set_ne false (Ne.symm h)

section
variable {P : Program} {ops : List Oper} {effs frees : List Nat} {S : Nat → Bool} {s0 : ASt} {st : Nat → ASt}

/-- Which of the related ones have been carried out, when 'j' comes up. -/
theorem order_at (hok : drawOk ops effs frees = true) {listed : Array Bool} (hc : Closed ops listed) {j : Nat} {oj : Oper} (hoj : ops[j]? = some oj) (hr : j ∈ Region.ready .any ops.toArray listed) {i : Nat} {oi : Oper} (hoi : ops[i]? = some oi) (hij : i ≠ j)
    (h : conflict ops.toArray oi oj = true ∨ conflict ops.toArray oj oi = true ∨ (effs.contains i = true ∧ effs.contains j = true) ∨ frees.contains i = true ∨ frees.contains j = true) : listed.getD i false = true ↔ i < j := by
  have hjf : listed.getD j false = true → False := by
    intro h1
    have h2 := (mem_ready.1 hr).1
    rcases Nat.lt_or_ge j listed.size with h' | h'
    · simp [h'] at h1 h2; rw [h1] at h2; cases h2
    · simp [Array.getElem?_eq_none h'] at h1
  have sym : ∀ x y, conflict ops.toArray x y = true → conflict ops.toArray y x = true ∨ True := fun _ _ _ => .inr trivial
  rcases Nat.lt_or_gt_of_ne hij with hlt | hgt
  · refine ⟨fun _ => hlt, fun _ => ?_⟩
    have hc' : conflict ops.toArray oi oj = true ∨ (effs.contains i = true ∧ effs.contains j = true) ∨ frees.contains i = true ∨ frees.contains j = true := by
      rcases h with h | h | h
      · exact .inl h
      · left
        unfold conflict at h ⊢
        cases hx : oj.dst with
        | none =>
          cases hy : oi.dst with
          | none => rw [hx, hy] at h; simp at h
          | some d => rw [hx, hy] at h; simp at h ⊢; exact h
        | some d =>
          cases hy : oi.dst with
          | none => rw [hx, hy] at h; simp at h ⊢; exact h
          | some d' =>
            rw [hx, hy] at h
            simp at h ⊢
            rcases h with (h | h) | h
            · exact .inr h
            · exact .inl (.inr h.symm)
            · exact .inl (.inl h)
      · exact .inr h
    exact ((drawOk_spec hok).2.1 i j oi oj hlt hoi hoj hc').ready hc hr
  · refine ⟨fun hi => ?_, fun h' => absurd h' (by omega)⟩
    exfalso
    have hc' : conflict ops.toArray oj oi = true ∨ (effs.contains j = true ∧ effs.contains i = true) ∨ frees.contains j = true ∨ frees.contains i = true := by
      rcases h with h | h | h
      · left
        unfold conflict at h ⊢
        cases hx : oi.dst with
        | none =>
          cases hy : oj.dst with
          | none => rw [hx, hy] at h; simp at h
          | some d => rw [hx, hy] at h; simp at h ⊢; exact h
        | some d =>
          cases hy : oj.dst with
          | none => rw [hx, hy] at h; simp at h ⊢; exact h
          | some d' =>
            rw [hx, hy] at h
            simp at h ⊢
            rcases h with (h | h) | h
            · exact .inr h
            · exact .inl (.inr h.symm)
            · exact .inl (.inl h)
      · exact .inl h
      · exact .inr (h.elim (fun h => .inl ⟨h.2, h.1⟩) fun h => .inr h.symm)
    exact hjf (((drawOk_spec hok).2.1 j i oj oi hgt hoj hoi hc').listed hc hi)

/-- What is looked at stands as in the canonical walk. -/
theorem Sim.looks (tr : Trace P ops effs frees S s0 st) (hok : drawOk ops effs frees = true) {base : Nat} {listed : Array Bool} {κ : Cx} {a : Act} (h : Sim ops effs st s0 base listed κ a) {j : Nat} {oj : Oper} (hoj : ops[j]? = some oj)
    (hr : j ∈ Region.ready .any ops.toArray listed) {t : Nat} (ht : t ∈ oj.looksAt ops.toArray) : AgreeAt κ a (st j).tmps t := by
  have hjn : j < ops.length := (List.getElem?_eq_some_iff.1 hoj).1
  have hjun : listed.getD j false = true → False := by
    intro h1
    have h2 := (mem_ready.1 hr).1
    rcases Nat.lt_or_ge j listed.size with h' | h'
    · simp [h'] at h1 h2; rw [h1] at h2; cases h2
    · simp [Array.getElem?_eq_none h'] at h1
  by_cases htl : t < s0.tmps.length
  · obtain ⟨k, hk, hw, hag⟩ := h.tmps t htl
    have heq : (st k).tmps[t]? = (st j).tmps[t]? := by
      refine tr.stable' hk (by omega) (fun q o hq hd => ?_)
      by_cases hqj : q = j
      · subst hqj
        have := (hw q o hq hd)
        have hn : ¬ q < k := fun h' => hjun (this.2 h')
        omega
      · have hcf : conflict ops.toArray o oj = true := by
          unfold conflict
          rw [hd]
          simp only [List.contains_eq_mem, Bool.or_eq_true, decide_eq_true_eq]
          exact .inl (.inl ht)
        have h1 := order_at hok h.closed hoj hr hq hqj (.inl hcf)
        have h2 := hw q o hq hd
        have : q < k ↔ q < j := h2.symm.trans h1
        omega
    unfold AgreeAt at *
    rw [← heq]
    exact hag
  · left
    refine ⟨Array.getElem?_eq_none (by rw [h.len]; omega), List.getElem?_eq_none (by rw [tr.len j (by omega)]; omega)⟩

/-- 'j' is carried out. -/
theorem Sim.step (tr : Trace P ops effs frees S s0 st) (hok : drawOk ops effs frees = true) {base : Nat} {listed : Array Bool} {κ : Cx} {a : Act} (h : Sim ops effs st s0 base listed κ a) {j : Nat} {oj : Oper} (hoj : ops[j]? = some oj)
    (hr : j ∈ Region.ready .any ops.toArray listed) {κ' : Cx} {v : Value} {r : AV} {H' : AH} {nx' : Nat} (hst : st (j + 1) = ⟨putA (st j).tmps oj.dst r, H', nx'⟩) (hrep : Rep κ'.W κ'.M κ'.F v r) (hext : Ext base κ κ')
    (hheap : (effs.contains j = true ∧ Inv base κ' H' nx') ∨ (effs.contains j = false ∧ ∃ m, m ≤ ops.length ∧ (∀ i, i < ops.length → effs.contains i = true → (listed.getD i false = true ↔ i < m)) ∧ Inv base κ' (st m).H (st m).nx)) :
    Sim ops effs st s0 base (listed.setIfInBounds j true) κ' (a.put oj.dst v) := by
  have hjn : j < ops.length := (List.getElem?_eq_some_iff.1 hoj).1
  have hjs : j < listed.size := by rw [h.size]; exact hjn
  have hg := fun i => getD_set listed j i hjs
  obtain ⟨_, oj', hoj', hdeps⟩ := mem_ready.1 hr
  have : oj' = oj := by
    have h1 : ops[j]? = some oj' := by simpa using hoj'
    rw [hoj] at h1
    exact (Option.some.inj h1).symm
  subst this
  refine ⟨by simp [h.size], fun k o ho hk e he hb => ?_, ?_, ?_, fun t ht => ?_, by rw [put_defers]; exact h.defers⟩
  · rw [hg] at hk ⊢
    split at hk
    · rename_i hkj
      subst hkj
      rw [hoj] at ho
      cases ho
      split
      · rfl
      · exact hdeps e (by simpa using he) hb
    · split
      · rfl
      · exact h.closed k o ho hk e he hb
  · rcases hheap with ⟨he, hi'⟩ | ⟨he, m, hm, hw, hi'⟩
    · refine ⟨j + 1, by omega, fun i hi hei => ?_, by rw [hst]; exact hi'⟩
      rw [hg]
      split
      · rename_i hij; subst hij; simp
      · rename_i hij
        rw [order_at hok h.closed hoj hr (List.getElem?_eq_getElem hi) hij (.inr (.inr (.inl ⟨hei, he⟩)))]
        omega
    · refine ⟨m, hm, fun i hi hei => ?_, hi'⟩
      rw [hg]
      split
      · rename_i hij; subst hij; rw [hei] at he; cases he
      · exact hw i hi hei
  · cases hd : oj'.dst <;> simp [Act.put, h.len]
  · by_cases hd : oj'.dst = some t
    · refine ⟨j + 1, by omega, fun i o ho hdo => ?_, ?_⟩
      · rw [hg]
        split
        · rename_i hij; subst hij; simp
        · rename_i hij
          have hcf : conflict ops.toArray o oj' = true := by
            unfold conflict
            rw [hdo, hd]
            simp
          rw [order_at hok h.closed hoj hr ho hij (.inl hcf)]
          omega
      · right
        refine ⟨v, r, ?_, ?_, hrep⟩
        · rw [hd]
          simp only [Act.put]
          rw [Array.getElem?_setIfInBounds]
          simp [h.len, ht]
        · rw [hst]
          simp only [hd, putA]
          rw [List.getElem?_set]
          have := tr.len j (by omega)
          simp [this, ht]
    · obtain ⟨k, hk, hw, hag⟩ := h.tmps t ht
      refine ⟨k, hk, fun i o ho hdo => ?_, ?_⟩
      · rw [hg]
        split
        · rename_i hij
          subst hij
          rw [hoj] at ho
          cases ho
          exact absurd hdo hd
        · exact hw i o ho hdo
      · have := hag.ev hext.ev
        unfold AgreeAt at *
        have e : (a.put oj'.dst v).tmps[t]? = a.tmps[t]? := by
          cases hq : oj'.dst with
          | none => rfl
          | some d =>
            simp only [Act.put]
            rw [Array.getElem?_setIfInBounds_ne]
            intro e
            exact hd (by rw [hq, e])
        rw [e]
        exact this

/-- All have been carried out. -/
theorem Sim.all (tr : Trace P ops effs frees S s0 st) {base : Nat} {listed : Array Bool} {κ : Cx} {a : Act} (h : Sim ops effs st s0 base listed κ a) (hall : ∀ i, i < ops.length → listed.getD i false = true) : St base κ a (st ops.length) := by
  refine ⟨?_, ?_, h.defers⟩
  · obtain ⟨m, hm, hw, hinv⟩ := h.heap
    have := tr.heap' hm (Nat.le_refl _) (fun q hq he => by
      have := (hw q hq he).1 (hall q hq)
      omega)
    rw [← this.1, ← this.2]
    exact hinv
  · refine ⟨by rw [tr.len _ (Nat.le_refl _)]; simpa using h.len, fun t v x h1 h2 => ?_⟩
    have ht : t < s0.tmps.length := by
      have := (List.getElem?_eq_some_iff.1 h2).1
      rw [tr.len _ (Nat.le_refl _)] at this
      exact this
    obtain ⟨k, hk, hw, hag⟩ := h.tmps t ht
    have heq : (st k).tmps[t]? = (st ops.length).tmps[t]? := tr.stable' hk (Nat.le_refl _) (fun q o hq hd => by
      have hqn := (List.getElem?_eq_some_iff.1 hq).1
      have := (hw q o hq hd).1 (hall q hqn)
      omega)
    have h1' : a.tmps[t]? = some v := by simpa using h1
    rcases hag with ⟨h3, _⟩ | ⟨v', x', h3, h4, h5⟩
    · rw [h1'] at h3; cases h3
    · rw [h1'] at h3
      cases h3
      rw [heq, h2] at h4
      cases h4
      exact h5
/-- Nothing is ready: all has been carried out. -/
theorem all_of_ready (hok : drawOk ops effs frees = true) {listed : Array Bool} (hs : listed.size = ops.length) (h : Region.ready .any ops.toArray listed = []) : ∀ i, i < ops.length → listed.getD i false = true := by
  intro i
  induction i using Nat.strongRecOn with
  | _ i ih =>
    intro hi
    cases hl : listed.getD i false with
    | true => rfl
    | false =>
      exfalso
      have hmem : i ∈ Region.ready .any ops.toArray listed := by
        refine mem_ready.2 ⟨?_, ops[i], by simp [hi], fun e he hb => ?_⟩
        · simpa [hs, hi] using hl
        · have := (drawOk_spec hok).1 i _ (List.getElem?_eq_getElem hi) e (by simpa using he) hb
          exact ih e.on this (by omega)
      rw [h] at hmem
      cases hmem

theorem sim_any (tr : Trace P ops effs frees S s0 st) (hok : drawOk ops effs frees = true) {base : Nat} {Q : Exit → Act → World → Prop} {κ0 : Cx}
    (hQ : ∀ κ a, St base κ a (st ops.length) → Ext base κ0 κ → Q .normal a κ.W) : ∀ (fuel : Nat) (listed : Array Bool) (κ : Cx) (a : Act), cntT (fun i => listed.getD i false) ops.length + fuel = ops.length →
      Ext base κ0 κ → Sim ops effs st s0 base listed κ a → wpAny P .any ops.toArray Q fuel listed a κ.W := by
  have fin : ∀ (listed : Array Bool) (κ : Cx) (a : Act), Ext base κ0 κ → Sim ops effs st s0 base listed κ a → Region.ready .any ops.toArray listed = [] → Q .normal a κ.W :=
    fun listed κ a he h hr => hQ κ a (h.all tr (all_of_ready hok h.size hr)) he
  intro fuel
  induction fuel with
  | zero =>
    intro listed κ a hc he h
    have hall := cntT_all _ _ (by simpa using hc)
    have hr : Region.ready .any ops.toArray listed = [] := by
      cases hq : Region.ready .any ops.toArray listed with
      | nil => rfl
      | cons j l =>
        exfalso
        have hj : j ∈ Region.ready .any ops.toArray listed := by rw [hq]; simp
        obtain ⟨h1, o, ho, _⟩ := mem_ready.1 hj
        have hjn : j < ops.length := by
          have : ops[j]? = some o := by simpa using ho
          exact (List.getElem?_eq_some_iff.1 this).1
        have := hall j hjn
        have hjs : j < listed.size := by rw [h.size]; exact hjn
        simp [hjs] at h1 this
        rw [this] at h1
        cases h1
    exact ⟨hr, fin listed κ a he h hr⟩
  | succ fuel ih =>
    intro listed κ a hc he h
    refine ⟨fin listed κ a he h, fun j hj => ?_⟩
    obtain ⟨hun, oj, hoj0, _⟩ := mem_ready.1 hj
    have hoj : ops[j]? = some oj := by simpa using hoj0
    have hjn : j < ops.length := (List.getElem?_eq_some_iff.1 hoj).1
    have hjs : j < listed.size := by rw [h.size]; exact hjn
    have hcount : cntT (fun i => (listed.setIfInBounds j true).getD i false) ops.length + fuel = ops.length := by
      have := cntT_set (fun i => listed.getD i false) (fun i => (listed.setIfInBounds j true).getD i false) j (by simpa [hjs] using hun) (by simp [hjs]) (fun i hi => getD_set_ne false (Ne.symm hi)) ops.length
      rw [this, if_pos hjn]
      omega
    have looks := fun t ht => h.looks tr hok hoj hj (t := t) ht
    unfold wpOp
    rw [hoj0]
    simp only
    have guardLooks : ∀ j' want, oj.guard = some (j', want) → ∀ d, (ops[j']?).bind (·.dst) = some d → AgreeAt κ a (st j).tmps d := by
      intro j' want hg d hd
      apply looks
      unfold Oper.looksAt
      rw [List.mem_append]
      right
      rw [hg]
      simp only [List.getElem?_toArray, hd]
      simp
    rcases tr.step j oj hoj with ⟨j', want, hg, hga, hst⟩ | ⟨hg, r, H', nx', hst, hcase⟩
    · have hw := guardA_at hga hg (guardLooks j' want hg)
      rw [hw]
      simp only [Bool.false_eq_true, if_false]
      -- it is not wanted
      have hsim : Sim ops effs st s0 base (listed.setIfInBounds j true) κ (a.put oj.dst undef) := by
        refine h.step tr hok hoj hj hst (.tup [] [] rfl (fun j v a h => by simp at h)) (.refl _ _) ?_
        cases hq : effs.contains j with
        | false => exact .inr ⟨rfl, h.heap⟩
        | true =>
          left
          refine ⟨rfl, ?_⟩
          -- the heap is the canonical one there
          obtain ⟨m, hm, hwm, hinv⟩ := h.heap
          have hjf : ¬ listed.getD j false = true := by
            simp [hjs] at hun ⊢
            exact hun
          have := tr.heap' hm (show j ≤ ops.length by omega) (fun q hqn heq => by
            have h1 := hwm q hqn heq
            by_cases hqj : q = j
            · subst hqj
              have : ¬ q < m := fun h' => hjf (h1.2 h')
              omega
            · have h2 := order_at hok h.closed hoj hj (List.getElem?_eq_getElem hqn) hqj (.inr (.inr (.inl ⟨heq, hq⟩)))
              have : q < m ↔ q < j := h1.symm.trans h2
              omega)
          rw [← this.1, ← this.2]
          exact hinv
      exact ih _ κ _ hcount he hsim
    · have hw : Region.wanted oj (yielded ops.toArray a.tmps) = true := by
        rcases hg with hg | ⟨j', want, hg, hga⟩
        · simp [Region.wanted, hg]
        · exact guardA_at hga hg (guardLooks j' want hg)
      rw [hw]
      simp only [if_true]
      left
      have hρ : ∀ x ∈ oj.op.operands.toList, Rep κ.W κ.M κ.F (a.eval x) (evA (st j).tmps x) := by
        intro x hx
        cases x with
        | tmp t =>
          apply AgreeAt.eval
          apply looks
          unfold Oper.looksAt
          rw [List.mem_append]
          left
          rw [List.mem_filterMap]
          exact ⟨.tmp t, hx, rfl⟩
        | const v => exact cstA_rep κ v
        | func f => exact .fn f [] [] rfl (fun j v a h => by simp at h)
        | global g => exact .junk _
      obtain ⟨m, hm, hwm, hinv⟩ := h.heap
      cases hq : effs.contains j with
      | false =>
        rw [hq] at hcase
        simp only [Bool.false_eq_true, if_false] at hcase
        obtain ⟨rfl, rfl, hos⟩ := hcase
        have hjf : ¬ listed.getD j false = true := by
          simp [hjs] at hun ⊢
          exact hun
        have hmask0 := tr.mask' hm (show j ≤ ops.length by omega) (fun q hqn hfq => by
          have h1 := hwm q hqn ((drawOk_spec hok).2.2 q hfq)
          by_cases hqj : q = j
          · subst hqj
            rw [(drawOk_spec hok).2.2 q hfq] at hq; cases hq
          · have h2 := order_at hok h.closed hoj hj (List.getElem?_eq_getElem hqn) hqj (.inr (.inr (.inr (.inl hfq))))
            have : q < m ↔ q < j := h1.symm.trans h2
            omega)
        have hmask : maskH (SF frees S j) (st m).H = maskH (SF frees S j) (st j).H := by
          unfold SF
          split
          · rfl
          · exact hmask0
        refine hos _ _ hmask hinv hρ (fun v κ' hr hext hinv' => ?_)
        refine ih _ κ' _ hcount (he.trans hext) ?_
        exact h.step tr hok hoj hj hst hr hext (.inr ⟨hq, m, hm, hwm, hinv'⟩)
      | true =>
        rw [hq] at hcase
        simp only [if_true] at hcase
        have hjf : ¬ listed.getD j false = true := by
          simp [hjs] at hun ⊢
          exact hun
        have heq := tr.heap' hm (show j ≤ ops.length by omega) (fun q hqn heq => by
          have h1 := hwm q hqn heq
          by_cases hqj : q = j
          · subst hqj
            have : ¬ q < m := fun h' => hjf (h1.2 h')
            omega
          · have h2 := order_at hok h.closed hoj hj (List.getElem?_eq_getElem hqn) hqj (.inr (.inr (.inl ⟨heq, hq⟩)))
            have : q < m ↔ q < j := h1.symm.trans h2
            omega)
        rw [heq.1, heq.2] at hinv
        refine hcase.1 hinv hρ (fun v κ' hr hext hinv' => ?_)
        exact ih _ κ' _ hcount (he.trans hext) (h.step tr hok hoj hj hst hr hext (.inl ⟨hq, hinv'⟩))

/-- A REGION THAT DRAWS ITS ORDER. -/
theorem draw_sound (hm : P.follows .mixedOrders = true) {K : ASt → Prop} {s : ASt} {id : Nat} (h : ADraw P ops K s) {base : Nat} {κ : Cx} {a : Act} (hs : St base κ a s) {Q : Exit → Act → World → Prop}
    (hQ : ∀ a' W', Post base κ K a' W' → Q .normal a' W') : (Code.region id ops.toArray true).wp P Q a κ.W := by
  obtain ⟨effs, frees, S, hok, hd⟩ := h
  obtain ⟨st, h0, hK, hstep⟩ := trace_of ops 0 s hd (by simp)
  have tr : Trace P ops effs frees S s st := ⟨h0, fun i o ho => hstep i o (Nat.zero_le _) ho⟩
  simp only [Nat.zero_add] at hK
  refine wp_region_any hm ?_
  have hd' : ({ κ.W with drawn := κ.W.drawn + 1 } : World) = κ.drew.W := rfl
  rw [hd']
  have hsz : ops.toArray.size = ops.length := by simp
  rw [hsz]
  refine sim_any (κ0 := κ) tr hok (fun κ' a' hst hext => hQ a' κ'.W ⟨st ops.length, κ', rfl, hst, hext, hK⟩) ops.length _ κ.drew a ?_ (.drew base κ) ?_
  · have : cntT (fun i => (Array.replicate ops.length false).getD i false) ops.length = 0 := by
      have key : ∀ n, cntT (fun i => (Array.replicate ops.length false).getD i false) n = 0 := by
        intro n
        induction n with
        | zero => rfl
        | succ n ih =>
          unfold cntT
          rw [ih]
          by_cases hn : n < ops.length <;> simp [hn]
      exact key _
    rw [this]
    simp
  · have hf : ∀ i, (Array.replicate ops.length false).getD i false = true → False := by
      intro i h
      by_cases hn : i < ops.length <;> simp [hn] at h
    refine ⟨by simp, fun j o ho hj => absurd hj (hf j), ⟨0, Nat.zero_le _, fun i hi he => ⟨fun h => absurd h (hf i), fun h => absurd h (Nat.not_lt_zero _)⟩, ?_⟩, ?_, fun t ht => ?_, hs.defers⟩
    · rw [h0]; exact hs.inv.drew
    · have := hs.tmps.1; simpa using this
    · refine ⟨0, Nat.zero_le _, fun i o ho hd => ⟨fun h => absurd h (hf i), fun h => absurd h (Nat.not_lt_zero _)⟩, ?_⟩
      rw [h0]
      obtain ⟨v, hv, hr⟩ := hs.tmps.at (List.getElem?_eq_getElem ht)
      exact .inr ⟨v, s.tmps[t], by simpa using hv, List.getElem?_eq_getElem ht, hr.ev (.drew κ)⟩
end
end Go.TH
