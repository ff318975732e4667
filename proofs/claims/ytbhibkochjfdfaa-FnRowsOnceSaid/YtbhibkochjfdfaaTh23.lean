/-
  TH, part 23: what a caller hands over.
-/
import Derived.Test.YtbhibkochjfdfaaTh22
import Derived.ChangeArms
import Derived.Below
set_option linter.unusedVariables false
set_option linter.unusedSimpArgs false
namespace Go.TH
open Go
section
variable {H : Type} {enc : TypeId × Value → H} {P : Program} {W : World} {spare : Nat → Bool} {held : Bool} {fuel : Nat} {t : TypeId} {cs : List Value} {x : DataW H × List MemPlace}
/-- The state at the entry: all memory is only read. -/
abbrev entry (W : World) : Cx := ⟨W, fun _ => none, fun b => b < W.heap.size⟩
theorem entry_inv (W : World) : Inv W.heap.size (entry W) noH 0 := ⟨fun _ h => h, Nat.le_refl _, fun _ _ => rfl, fun _ _ _ h => by simp [noH] at h, fun i j ei ej b _ h => by cases h⟩
/-- Cells handed over: each is one cell. -/
def In (W : World) (cs : List Value) (as : List AV) : Prop := (∀ v ∈ cs, v.oneCell' = true) ∧ Reps (entry W) cs as
theorem In.append {a b : List Value} {x y : List AV} (h1 : In W a x) (h2 : In W b y) : In W (a ++ b) (x ++ y) :=
  ⟨fun v hv => by rcases List.mem_append.1 hv with h | h; exact h1.1 v h; exact h2.1 v h, h1.2.append h2.2⟩
theorem In.nil : In W [] [] := ⟨fun _ h => by simp at h, Reps.nil _⟩
theorem In.one {v : Value} {a : AV} (h1 : v.oneCell' = true) (h : Rep W (fun _ => none) (fun b => b < W.heap.size) v a) : In W [v] [a] :=
  ⟨fun w hw => by simp at hw; subst hw; exact h1, Reps.cons h (Reps.nil _)⟩
theorem in_int {k : IntKind} (ht : P.underlying t = some (.int k)) (h : DataW.trod enc P W 0 spare held fuel t cs = some x) : ∃ n, (Lit.int k n).wf = true ∧ In W cs [.int k n] := by
  obtain ⟨n, rfl, _, hw⟩ := DataW.trod_int ht h
  exact ⟨n, hw, In.one rfl (.int k n)⟩
theorem in_bool (ht : P.underlying t = some .bool) (h : DataW.trod enc P W 0 spare held fuel t cs = some x) : ∃ b, In W cs [.bool b] := by
  obtain ⟨b, rfl, _⟩ := DataW.trod_bool ht h
  exact ⟨b, In.one rfl (.bool b)⟩
theorem in_str (ht : P.underlying t = some .string) (h : DataW.trod enc P W 0 spare held fuel t cs = some x) : ∃ s : ByteArray, s.size ≤ 9223372036854775807 ∧ In W cs [.str s] := by
  obtain ⟨s, rfl, _, hs⟩ := DataW.trod_string ht h
  exact ⟨s, hs, In.one rfl (.str s)⟩
/-- A struct's fields, from a place on. -/
theorem In.split {o n : Nat} {a b : List AV} (h1 : In W ((cs.drop o).take n) a) (h2 : In W (cs.drop (o + n)) b) : In W (cs.drop o) (a ++ b) := by
  have := h1.append h2
  rwa [← List.drop_drop, List.take_append_drop] at this
theorem In.last {o : Nat} (h : cs.length = o) : In W (cs.drop o) [] := by subst h; rw [List.drop_length]; exact In.nil

theorem cells?_spec {a : Addr} {n : Nat} {cs : List Value} (h : W.cells? 0 a n = some cs) : cs.length = n ∧ ∀ (j : Nat) (v : Value), cs[j]? = some v → W.cell? (a.add j) = some v := by
  unfold World.cells? at h
  rw [if_pos (Nat.zero_le _)] at h
  have hl : cs.length = n := by simpa using mapM_some_length h
  refine ⟨hl, fun j v hv => ?_⟩
  have hj : j < n := by rw [← hl]; exact (List.getElem?_eq_some_iff.1 hv).1
  have := mapM_some_get h j j (by simp [hj])
  rw [this, hv]
theorem in_slice {e : TypeId} (ht : P.underlying t = some (.slice e)) {α : Type} (c : α → List AV) (ok : α → Prop) {sz : Nat} (hsz : P.cellsOf e = sz)
    (hpos : 0 < sz) (he : ∀ fuel cs x, DataW.trod enc P W 0 spare held fuel e cs = some x → ∃ a, ok a ∧ In W cs (c a)) (h : DataW.trod enc P W 0 spare held fuel t cs = some x) :
    ∃ (l : List α) , (∀ a ∈ l, ok a) ∧ l.length ≤ 9223372036854775807 ∧ In W cs [.sl l.length false (l.flatMap c)] := by
  rcases DataW.trod_slice ht h with ⟨rfl, _⟩ | ⟨a, len, cap, elems, rest, n, _, rfl, rfl, hb, hl, hm, hlen, hel, hsp, hns⟩
  · exact ⟨[], fun a h => by simp at h, by simp, In.one rfl (.sl0 none 0 0 false (Nat.le_refl _) (fun h => by cases h))⟩
  · subst hsz
    -- an element at each place
    have each : ∀ i, i < len → ∃ (y : α) (ci : List Value), ok y ∧ W.cells? 0 (a.add (i * P.cellsOf e)) (P.cellsOf e) = some ci ∧ In W ci (c y) := by
      intro i hi
      have h1 := hel i hi
      have : i < elems.length := by omega
      rw [List.getElem?_eq_getElem this, Option.bind_eq_some_iff] at h1
      obtain ⟨ci, h2, h3⟩ := h1
      obtain ⟨y, hy, hin⟩ := he _ _ _ h3
      exact ⟨y, ci, hy, h2, hin⟩
    have hmax : len ≤ 9223372036854775807 := Nat.le_trans hl hm
    rcases Nat.eq_zero_or_pos len with rfl | hlen0
    · exact ⟨[], fun a h => by simp at h, by simp, In.one rfl (.sl0 (some a) 0 cap false hl (fun h => by cases h))⟩
    have hs : a.spot = none ∧ a.block < W.heap.size := by
      obtain ⟨y, ci, _, g2, _⟩ := each 0 hlen0
      obtain ⟨s1, s2⟩ := cells?_spec g2
      have h0 := s2 0 ci[0] (List.getElem?_eq_getElem (by omega))
      have e0 : ((a.add (0 * P.cellsOf e)).add 0) = a := by simp [Addr.add]
      rw [e0] at h0
      unfold World.cell? at h0
      refine ⟨?_, ?_⟩
      · cases hsp' : a.spot with
        | none => rfl
        | some q => rw [hsp'] at h0; simp at h0; split at h0 <;> simp at h0
      · rcases Nat.lt_or_ge a.block W.heap.size with h | h
        · exact h
        · rw [Array.getElem?_eq_none h] at h0; simp at h0
    -- all of them, front to back
    have all : ∀ k, k ≤ len → ∃ (l : List α) (vs : List Value), l.length = k ∧ (∀ y ∈ l, ok y) ∧ vs.length = k * P.cellsOf e ∧ In W vs (l.flatMap c) ∧ ∀ (j : Nat) (v : Value), vs[j]? = some v → W.cell? (a.add j) = some v := by
      intro k
      induction k with
      | zero => exact fun _ => ⟨[], [], rfl, fun y h => by simp at h, by simp, In.nil, fun j v h => by simp at h⟩
      | succ k ih =>
        intro hk
        obtain ⟨l, vs, h1, h2, h3, h4, h6⟩ := ih (by omega)
        obtain ⟨y, ci, g1, g2, g3⟩ := each k (by omega)
        obtain ⟨s1, s2⟩ := cells?_spec g2
        refine ⟨l ++ [y], vs ++ ci, by simp [h1], ?_, ?_, ?_, ?_⟩
        · intro z hz
          rcases List.mem_append.1 hz with h | h
          · exact h2 z h
          · simp at h; subst h; exact g1
        · rw [List.length_append, h3, s1, Nat.add_mul, Nat.one_mul]
        · simpa using h4.append g3
        · intro j v hv
          by_cases hj : j < vs.length
          · rw [List.getElem?_append_left hj] at hv; exact h6 j v hv
          · rw [List.getElem?_append_right (by omega)] at hv
            have := s2 _ v hv
            rwa [add_add a hs.1, h3, show k * P.cellsOf e + (j - k * P.cellsOf e) = j from by omega] at this
    obtain ⟨l, vs, h1, h2, h3, h4, h6⟩ := all len (Nat.le_refl _)
    refine ⟨l, h2, by omega, In.one rfl ?_⟩
    rw [h1]
    exact .sl a len cap false _ vs hl (fun h => by cases h) hs.2 hs.1 h4.2.1 (fun j v hj => ⟨h6 j v hj, h4.1 v (List.mem_of_getElem? hj)⟩) h4.2.2
end
theorem callQ_body {P : Program} (hm : P.follows .mixedOrders = true) {f : FuncId} {fn : Func} (hf : P.funcs[f]? = some fn) (c : Code) (hb : fn.body = some c) {n : Nat} (hn : fn.ntmps = n) {rs : List ResultVar} (hrs : fn.results = rs.toArray)
    (hname : (fn.name == "runtime.NumGoroutine") = false) {args : List AV} {H : AH} {nx : Nat} {Q : AV → AH → Nat → Prop} (hl : args.length ≤ n)
    (h : awp P c (bodyQ P rs Q) ⟨initT n args, H, nx⟩) : CallQ P f args H nx Q :=
  callQ_of_body hm hf hb hn hrs hname (by rw [initT_eq n args hl]; exact h)
/-- A law that answers true. -/
theorem law_calls {P : Program} {f : FuncId} {as : List AV} (h : CallQ P f as noH 0 fun r _ _ => r = .bool true) {W : World} {vs : List Value} (hr : In W vs as) :
    Calls P f vs.toArray W fun e W' => e = .returned (.bool true) ∧ Go.RowKit.Below W.heap.size W W' := by
  refine (h.2 _ _ vs (entry_inv W) hr.2).mono ?_
  rintro e W' ⟨r, H', nx', rfl, v, κ', rfl, rfl, hrep, hext, _⟩
  obtain rfl := hrep.bool_inv
  exact ⟨rfl, hext.os, hext.tape, hext.output, hext.size, hext.below⟩
end Go.TH
