/-
  TH, part 28: rows of equal parts of which just so much is known.
-/
import Derived.Test.YtbhibkochjfdfaaThD
set_option linter.unusedVariables false
set_option linter.unusedSimpArgs false
namespace Go.TH
open Go
theorem flat_append {α : Type} (c : α → List AV) (a b : List α) : flat c (a ++ b) = flat c a ++ flat c b := by simp [flat]
def Flat {α : Type} (c : α → List AV) (P : α → Prop) (cells : List AV) (n : Nat) : Prop := ∃ l : List α, cells = flat c l ∧ n = l.length ∧ ∀ a ∈ l, P a
section
variable {α : Type} {c : α → List AV} {P : α → Prop} {cells cells' : List AV} {n m : Nat}
theorem Flat.nil : Flat c P [] 0 := ⟨[], rfl, rfl, fun a h => by simp at h⟩
theorem Flat.snoc (h : Flat c P cells n) (a : α) (ha : P a) : Flat c P (cells ++ c a) (n + 1) := by
  obtain ⟨l, rfl, rfl, hl⟩ := h
  refine ⟨l ++ [a], by rw [flat_append, flat_cons, flat_nil, List.append_nil], by simp, fun b hb => ?_⟩
  rcases List.mem_append.1 hb with hb | hb
  · exact hl b hb
  · simp at hb; subst hb; exact ha
theorem Flat.cat (h : Flat c P cells n) (k : Flat c P cells' m) : Flat c P (cells ++ cells') (n + m) := by
  obtain ⟨l, rfl, rfl, hl⟩ := h
  obtain ⟨l', rfl, rfl, hl'⟩ := k
  exact ⟨l ++ l', by rw [flat_append], by simp, fun b hb => (List.mem_append.1 hb).elim (hl b) (hl' b)⟩
theorem Flat.len {sz : Nat} (hc : ∀ a, (c a).length = sz) (h : Flat c P cells n) : cells.length = n * sz := by
  obtain ⟨l, rfl, rfl, _⟩ := h
  exact flat_len hc l
theorem Flat.pure (hc : ∀ a, pureL (c a) = true) (h : Flat c P cells n) : pureL cells = true := by
  obtain ⟨l, rfl, rfl, _⟩ := h
  exact flat_pure hc l
theorem Flat.mono {Q : α → Prop} (h : Flat c P cells n) (hq : ∀ a, P a → Q a) : Flat c Q cells n := by
  obtain ⟨l, h1, h2, h3⟩ := h
  exact ⟨l, h1, h2, fun a ha => hq a (h3 a ha)⟩
/-- One part is put anew. -/
theorem Flat.put {sz : Nat} (hc : ∀ a, (c a).length = sz) (h : Flat c P cells n) {i : Nat} (hi : i < n) (a : α) (ha : P a) : Flat c P (cells.take (i * sz) ++ c a ++ cells.drop (i * sz + sz)) n := by
  obtain ⟨l, rfl, rfl, hl⟩ := h
  refine ⟨l.set i a, ?_, by simp, fun b hb => ?_⟩
  · unfold flat
    rw [List.map_set]
    refine flatten_set (sz := sz) (fun x hx => ?_) (hc a) (by simpa using hi)
    obtain ⟨b, _, rfl⟩ := List.mem_map.1 hx
    exact hc b
  · rcases List.mem_or_eq_of_mem_set hb with hb | rfl
    · exact hl b hb
    · exact ha
/-- The part at a place. -/
theorem Flat.at {sz : Nat} (hc : ∀ a, (c a).length = sz) (h : Flat c P cells n) {i : Nat} (hi : i < n) : ∃ a, P a ∧ cells.drop (i * sz) = c a ++ cells.drop ((i + 1) * sz) := by
  obtain ⟨l, rfl, rfl, hl⟩ := h
  refine ⟨l[i], hl _ (List.getElem_mem _), ?_⟩
  rw [flat_at hc hi, ← flat_drop hc l (i + 1)]
theorem Flat.take {sz : Nat} (hc : ∀ a, (c a).length = sz) (h : Flat c P cells n) {i : Nat} (hi : i ≤ n) : Flat c P (cells.take (i * sz)) i := by
  obtain ⟨l, rfl, rfl, hl⟩ := h
  refine ⟨l.take i, ?_, by simp; omega, fun b hb => hl b (List.mem_of_mem_take hb)⟩
  have e : flat c l = flat c (l.take i) ++ flat c (l.drop i) := by rw [← flat_append, List.take_append_drop]
  have hl2 : (flat c (l.take i)).length = i * sz := by rw [flat_len hc]; congr 1; simp; omega
  rw [e, ← hl2, List.take_left]
end
/-- A slice that is only read, of which just so much is known. -/
def SlP {α : Type} (c : α → List AV) (P : α → Prop) (n : Nat) (a : AV) : Prop := ∃ l : List α, a = .sl l.length false (flat c l) ∧ n = l.length ∧ ∀ x ∈ l, P x

/-! ### Columns -/
structure GCol where
  k : Int
  e : Bool
  deriving DecidableEq
def GCol.c (v : GCol) : List AV := [.int .i64 v.k, .bool v.e]
@[simp] theorem GCol.len (v : GCol) : (GCol.c v).length = 2 := rfl
@[simp] theorem GCol.pure (v : GCol) : pureL (GCol.c v) = true := rfl
@[go_sem] theorem GCol.flen (l : List GCol) : (flat GCol.c l).length = l.length * 2 := flat_len GCol.len l
@[go_sem] theorem GCol.fat {l : List GCol} {i : Nat} (h : i < l.length) : (flat GCol.c l).drop (i * 2) = .int .i64 l[i].k :: .bool l[i].e :: flat GCol.c (l.drop (i + 1)) := flat_at GCol.len h
def colsA (l : List GCol) : AV := .sl l.length false (flat GCol.c l)
@[go_sem] theorem colsA_len {P : Program} {H : AH} {t : TypeId} {l : List GCol} : lenT P H t (colsA l) = if (tySl P t).isSome then some (True, .int .i64 l.length) else none := rfl
@[go_sem] theorem colsA_cells {H : AH} {l : List GCol} : cellsA H (colsA l) = some [colsA l] := rfl
@[simp] theorem colsA_pure (l : List GCol) : pureA (colsA l) = true := by simp [colsA, pureA, flat_pure GCol.pure]
@[go_sem] theorem colsA_snap {d : Nat} {H : AH} {l : List GCol} : snapA d H (colsA l) = colsA l := snapA_id d H _ (colsA_pure l)
@[go_sem] theorem colsA_keep {nx d : Nat} {L : List (Nat × Nat)} {H : AH} {l : List GCol} : keepA nx L H d (colsA l) = colsA l := keepA_pure (colsA_pure l)
@[go_sem] theorem rowA_keep {nx d : Nat} {L : List (Nat × Nat)} {H : AH} {l : GRow} : keepA nx L H d (rowA l) = rowA l := keepA_pure (rowA_pure l)
theorem Flat.snocC {P : GCol → Prop} {cells : List AV} {n : Nat} (h : Flat GCol.c P cells n) {k : Int} {e : Bool} (ha : P ⟨k, e⟩) : Flat GCol.c P (cells ++ [.int .i64 k, .bool e]) (n + 1) := h.snoc ⟨k, e⟩ ha
theorem Flat.snocV {P : GVal → Prop} {cells : List AV} {n : Nat} (h : Flat GVal.c P cells n) {k m : Int} {s : ByteArray} (ha : P ⟨k, m, s⟩) : Flat GVal.c P (cells ++ [.int .i64 k, .int .i64 m, .str s]) (n + 1) := h.snoc ⟨k, m, s⟩ ha
theorem Flat.snoc3C {P : GCol → Prop} {cells : List AV} {n : Nat} (h : Flat GCol.c P cells n) {k k' k2 : Int} {e e' e2 : Bool} (ha : P ⟨k, e⟩) (hb : P ⟨k', e'⟩) (hc : P ⟨k2, e2⟩) :
    Flat GCol.c P (cells ++ [.int .i64 k, .bool e, .int .i64 k', .bool e', .int .i64 k2, .bool e2]) (n + 3) := by
  have := ((h.snocC ha).snocC hb).snocC hc
  simpa using this
theorem Flat.snoc3V {P : GVal → Prop} {cells : List AV} {n : Nat} (h : Flat GVal.c P cells n) {a b c : GVal} (ha : P a) (hb : P b) (hc : P c) :
    Flat GVal.c P (cells ++ [.int .i64 a.k, .int .i64 a.n, .str a.s, .int .i64 b.k, .int .i64 b.n, .str b.s, .int .i64 c.k, .int .i64 c.n, .str c.s]) (n + 3) := by
  have := ((h.snoc a ha).snoc b hb).snoc c hc
  simpa [GVal.c] using this
@[go_sem] theorem GCol.keepL {nx d : Nat} {L : List (Nat × Nat)} {H : AH} {l : List GCol} : (flat GCol.c l).map (keepA nx L H d) = flat GCol.c l := map_keep (flat_pure GCol.pure l)
@[go_sem] theorem GVal.keepL {nx d : Nat} {L : List (Nat × Nat)} {H : AH} {l : List GVal} : (flat GVal.c l).map (keepA nx L H d) = flat GVal.c l := map_keep (flat_pure GVal.pure l)
theorem getD_strs (l : List ByteArray) (x : Nat) (h : x < l.length) : ∃ m ∈ l, (l.map AV.str).getD x .junk = .str m :=
  ⟨l[x], List.getElem_mem h, by simp [List.getD, h]⟩
theorem allTake {α : Type} {P : α → Prop} {l : List α} {k : Nat} (h : k < l.length) (ha : ∀ c ∈ l.take k, P c) (hp : P l[k]) : ∀ c ∈ l.take (k + 1), P c := by
  intro c hc
  rw [List.take_succ_eq_append_getElem h] at hc
  rcases List.mem_append.1 hc with hc | hc
  · exact ha c hc
  · simp at hc; subst hc; exact hp
theorem allTake0 {α : Type} {P : α → Prop} {l : List α} : ∀ c ∈ l.take 0, P c := fun c h => by simp at h
theorem allEnd {α : Type} {P : α → Prop} {l : List α} {k : Nat} (h : l.length ≤ k) (ha : ∀ c ∈ l.take k, P c) : ∀ c ∈ l, P c := by rwa [List.take_of_length_le h] at ha
def colsOk (l : List GCol) : Prop := l.length ≤ 4 ∧ ∀ c ∈ l, inR c.k 1 3
def fitP (v : GVal) (c : GCol) : Prop := v.k = c.k ∨ (v.k = 0 ∧ c.e = true)
def rowFits (cols : List GCol) (row : GRow) : Prop := colsOk cols ∧ rowOk row ∧ row.length = cols.length ∧ ∀ i (h : i < row.length) (h' : i < cols.length), fitP row[i] cols[i]
def rowsOk (cols : List GCol) (rows : List GRow) : Prop := colsOk cols ∧ ∀ r ∈ rows, rowFits cols r
instance (l : List GCol) : Decidable (colsOk l) := by unfold colsOk; infer_instance
noncomputable instance (c : List GCol) (r : GRow) : Decidable (rowFits c r) := Classical.propDecidable _
noncomputable instance (c : List GCol) (r : List GRow) : Decidable (rowsOk c r) := Classical.propDecidable _
/-! ### Rows of rows -/
def cR (r : GRow) : List AV := [rowA r]
@[simp] theorem cR_len (r : GRow) : (cR r).length = 1 := rfl
@[simp] theorem cR_pure (r : GRow) : pureL (cR r) = true := by simp [cR, pureL]
@[go_sem] theorem cR_flen (l : List GRow) : (flat cR l).length = l.length := by rw [flat_len cR_len]; omega
@[go_sem] theorem cR_fat {l : List GRow} {i : Nat} (h : i < l.length) : (flat cR l).drop i = rowA l[i] :: flat cR (l.drop (i + 1)) := by
  have := flat_at cR_len h
  rwa [Nat.mul_one] at this
@[go_sem] theorem cR_keepL {nx d : Nat} {L : List (Nat × Nat)} {H : AH} {l : List GRow} : (flat cR l).map (keepA nx L H d) = flat cR l := map_keep (flat_pure cR_pure l)
def rowsA (l : List GRow) : AV := .sl l.length false (flat cR l)
@[go_sem] theorem rowsA_len {P : Program} {H : AH} {t : TypeId} {l : List GRow} : lenT P H t (rowsA l) = if (tySl P t).isSome then some (True, .int .i64 l.length) else none := rfl
@[go_sem] theorem rowsA_cells {H : AH} {l : List GRow} : cellsA H (rowsA l) = some [rowsA l] := rfl
@[simp] theorem rowsA_pure (l : List GRow) : pureA (rowsA l) = true := by simp [rowsA, pureA, flat_pure cR_pure]
@[go_sem] theorem rowsA_snap {d : Nat} {H : AH} {l : List GRow} : snapA d H (rowsA l) = rowsA l := snapA_id d H _ (rowsA_pure l)
@[go_sem] theorem rowsA_keep {nx d : Nat} {L : List (Nat × Nat)} {H : AH} {l : List GRow} : keepA nx L H d (rowsA l) = rowsA l := keepA_pure (rowsA_pure l)
@[go_sem] theorem cR_snapL {d : Nat} {H : AH} {l : List GRow} : (flat cR l).map (snapA d H) = flat cR l := map_snap d H (flat_pure cR_pure l)
@[go_sem] theorem GCol.snapL {d : Nat} {H : AH} {l : List GCol} : (flat GCol.c l).map (snapA d H) = flat GCol.c l := map_snap d H (flat_pure GCol.pure l)
@[go_sem] theorem GVal.snapL {d : Nat} {H : AH} {l : List GVal} : (flat GVal.c l).map (snapA d H) = flat GVal.c l := map_snap d H (flat_pure GVal.pure l)
theorem Flat.snocR {P : GRow → Prop} {cells : List AV} {n : Nat} (h : Flat cR P cells n) {r : GRow} (ha : P r) : Flat cR P (cells ++ [rowA r]) (n + 1) := h.snoc r ha
@[go_sem] theorem GCol.takeL {l : List GCol} : (flat GCol.c l).take (l.length * 2) = flat GCol.c l := takeAll (by rw [flat_len GCol.len]; omega)
@[go_sem] theorem GVal.takeL {l : List GVal} : (flat GVal.c l).take (l.length * 3) = flat GVal.c l := takeAll (by rw [flat_len GVal.len]; omega)
@[go_sem] theorem GVer.takeL {l : List GVer} : (flat GVer.c l).take (l.length * 4) = flat GVer.c l := takeAll (by rw [flat_len GVer.len]; omega)
@[go_sem] theorem cR_takeL {l : List GRow} : (flat cR l).take l.length = flat cR l := takeAll (by rw [flat_len cR_len]; omega)
@[go_sem] theorem cR_getD {l : List GRow} {i : Nat} (h : i < l.length) : (flat cR l).getD i .junk = rowA l[i] := by
  have := cR_fat h
  rw [← getD_drop, this]
  rfl
end Go.TH
