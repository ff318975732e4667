/-
  TH: the data of the laws, in plain Lean.
-/
import Derived.Test.YtbhibkochjfdfaaTh27
set_option linter.unusedVariables false
set_option linter.unusedSimpArgs false
namespace Go.TH
open Go

/-! ### Rows of equal parts -/
def flat {α : Type} (c : α → List AV) (l : List α) : List AV := (l.map c).flatten
section
variable {α : Type} {c : α → List AV} {sz : Nat}
theorem flat_nil : flat c [] = [] := rfl
theorem flat_cons {a : α} {l : List α} : flat c (a :: l) = c a ++ flat c l := by simp [flat]
theorem flat_flatMap (l : List α) : l.flatMap c = flat c l := by simp [flat, List.flatMap]
theorem flat_len (hc : ∀ a, (c a).length = sz) : ∀ l : List α, (flat c l).length = l.length * sz
  | [] => by simp [flat]
  | a :: l => by rw [flat_cons, List.length_append, hc, flat_len hc l, List.length_cons, Nat.add_mul]; omega
theorem flat_drop (hc : ∀ a, (c a).length = sz) : ∀ (l : List α) (i : Nat), (flat c l).drop (i * sz) = flat c (l.drop i)
  | l, 0 => by simp
  | [], i + 1 => by simp [flat]
  | a :: l, i + 1 => by
    rw [flat_cons, show (i + 1) * sz = (c a).length + i * sz from by rw [hc, Nat.add_mul]; omega, List.drop_length_add_append, List.drop_succ_cons]
    exact flat_drop hc l i
theorem flat_at (hc : ∀ a, (c a).length = sz) {l : List α} {i : Nat} (h : i < l.length) : (flat c l).drop (i * sz) = c l[i] ++ flat c (l.drop (i + 1)) := by
  rw [flat_drop hc, List.drop_eq_getElem_cons h, flat_cons]
theorem flat_pure (hc : ∀ a, pureL (c a) = true) : ∀ l : List α, pureL (flat c l) = true
  | [] => rfl
  | a :: l => by rw [flat_cons, pureL_append, hc, flat_pure hc l]; rfl
theorem map_snap : ∀ {l : List AV} (d : Nat) (H : AH), pureL l = true → l.map (snapA d H) = l
  | [], d, H, _ => rfl
  | a :: l, d, H, h => by
    simp only [pureL, Bool.and_eq_true] at h
    rw [List.map_cons, snapA_id d H a h.1, map_snap d H h.2]
end
theorem pureL_take : ∀ {l : List AV} (n : Nat), pureL l = true → pureL (l.take n) = true
  | _, 0, _ => by simp [pureL]
  | [], n + 1, _ => by simp [pureL]
  | a :: l, n + 1, h => by simp only [pureL, Bool.and_eq_true] at h; simp [pureL, h.1, pureL_take n h.2]
/-- One part is written anew. -/
theorem flatten_set {sz : Nat} : ∀ {xs : List (List AV)} {i : Nat} {y : List AV}, (∀ x ∈ xs, x.length = sz) → y.length = sz → i < xs.length →
    xs.flatten.take (i * sz) ++ y ++ xs.flatten.drop (i * sz + sz) = (xs.set i y).flatten
  | x :: xs, 0, y, h, hy, hi => by
    have hx := h x List.mem_cons_self
    simp [List.drop_append, hx]
  | x :: xs, i + 1, y, h, hy, hi => by
    have hx := h x List.mem_cons_self
    have ih := flatten_set (xs := xs) (i := i) (y := y) (fun z hz => h z (List.mem_cons_of_mem _ hz)) hy (by simpa using hi)
    rw [List.set_cons_succ, List.flatten_cons, List.flatten_cons, ← ih, show (i + 1) * sz = x.length + i * sz from by rw [hx, Nat.add_mul]; omega, List.take_length_add_append,
      show x.length + i * sz + sz = x.length + (i * sz + sz) from by omega, List.drop_length_add_append]
    simp
theorem set_fill {α : Type} (c : α → List AV) (z : List AV) (l : List α) {i : Nat} (h : i < l.length) :
    (((l.take i).map c) ++ List.replicate (l.length - i) z).set i (c l[i]) = ((l.take (i + 1)).map c) ++ List.replicate (l.length - (i + 1)) z := by
  have hl : ((l.take i).map c).length = i := by simp; omega
  rw [List.set_append_right _ _ (by omega), hl, Nat.sub_self, show l.length - i = (l.length - (i + 1)) + 1 from by omega, List.replicate_succ, List.set_cons_zero, List.take_succ_eq_append_getElem h, List.map_append, List.append_assoc]
  rfl

/-- Parts that are written one by one: 'i' of them are. -/
def fillL {α : Type} (c : α → List AV) (z : List AV) (l : List α) (i : Nat) : List AV := (((l.take i).map c) ++ List.replicate (l.length - i) z).flatten
section
variable {α : Type} {c : α → List AV} {z : List AV} {sz : Nat}
theorem fillL_sizes (hc : ∀ a, (c a).length = sz) (hz : z.length = sz) (l : List α) (i : Nat) : ∀ x ∈ ((l.take i).map c) ++ List.replicate (l.length - i) z, x.length = sz := by
  intro x hx
  rcases List.mem_append.1 hx with h | h
  · obtain ⟨a, _, rfl⟩ := List.mem_map.1 h; exact hc a
  · rw [List.eq_of_mem_replicate h]; exact hz
theorem flatten_size {sz : Nat} : ∀ {xs : List (List AV)}, (∀ x ∈ xs, x.length = sz) → xs.flatten.length = xs.length * sz
  | [], _ => by simp
  | x :: xs, h => by rw [List.flatten_cons, List.length_append, h x List.mem_cons_self, flatten_size (fun y hy => h y (List.mem_cons_of_mem _ hy)), List.length_cons, Nat.add_mul]; omega
theorem fillL_len (hc : ∀ a, (c a).length = sz) (hz : z.length = sz) {l : List α} {i : Nat} (hi : i ≤ l.length) : (fillL c z l i).length = l.length * sz := by
  unfold fillL
  rw [flatten_size (fillL_sizes hc hz l i)]
  congr 1
  simp
  omega
theorem fillL_zero (l : List α) : (List.replicate l.length z).flatten = fillL c z l 0 := by simp [fillL]
theorem fillL_all (l : List α) : fillL c z l l.length = flat c l := by simp [fillL, flat]
theorem fillL_set (hc : ∀ a, (c a).length = sz) (hz : z.length = sz) {l : List α} {i : Nat} (h : i < l.length) :
    (fillL c z l i).take (i * sz) ++ c l[i] ++ (fillL c z l i).drop (i * sz + sz) = fillL c z l (i + 1) := by
  unfold fillL
  rw [flatten_set (fillL_sizes hc hz l i) (hc _) (by simp; omega), set_fill c z l h]
end

/-! ### Values, versions -/
structure GVal where
  (k n : Int)
  s : ByteArray
  deriving DecidableEq
def GVal.c (v : GVal) : List AV := [.int .i64 v.k, .int .i64 v.n, .str v.s]
@[simp] theorem GVal.len (v : GVal) : (GVal.c v).length = 3 := rfl
@[simp] theorem GVal.pure (v : GVal) : pureL (GVal.c v) = true := rfl
@[go_sem] theorem GVal.flen (l : List GVal) : (flat GVal.c l).length = l.length * 3 := flat_len GVal.len l
@[go_sem] theorem GVal.fat {l : List GVal} {i : Nat} (h : i < l.length) : (flat GVal.c l).drop (i * 3) = .int .i64 l[i].k :: .int .i64 l[i].n :: .str l[i].s :: flat GVal.c (l.drop (i + 1)) := flat_at GVal.len h
abbrev GRow := List GVal
def rowA (l : GRow) : AV := .sl l.length false (flat GVal.c l)
@[go_sem] theorem rowA_len {P : Program} {H : AH} {t : TypeId} {l : GRow} : lenT P H t (rowA l) = if (tySl P t).isSome then some (True, .int .i64 l.length) else none := rfl
@[go_sem] theorem rowA_cells {H : AH} {l : GRow} : cellsA H (rowA l) = some [rowA l] := rfl
@[go_sem] theorem rowA_snap {d : Nat} {H : AH} {l : GRow} : snapA d H (rowA l) = rowA l := snapA_id d H _ (by simp [rowA, pureA, flat_pure GVal.pure])
@[simp] theorem rowA_pure (l : GRow) : pureA (rowA l) = true := by simp [rowA, pureA, flat_pure GVal.pure]
structure GVer where
  (key born died : Int)
  row : GRow
  deriving DecidableEq
def GVer.c (v : GVer) : List AV := [.int .i64 v.key, .int .i64 v.born, .int .i64 v.died, rowA v.row]
@[simp] theorem GVer.len (v : GVer) : (GVer.c v).length = 4 := rfl
@[simp] theorem GVer.pure (v : GVer) : pureL (GVer.c v) = true := by simp [GVer.c, pureL, pureA]
@[go_sem] theorem GVer.flen (l : List GVer) : (flat GVer.c l).length = l.length * 4 := flat_len GVer.len l
@[go_sem] theorem GVer.fat {l : List GVer} {i : Nat} (h : i < l.length) : (flat GVer.c l).drop (i * 4) = .int .i64 l[i].key :: .int .i64 l[i].born :: .int .i64 l[i].died :: rowA l[i].row :: flat GVer.c (l.drop (i + 1)) := flat_at GVer.len h
def versA (l : List GVer) : AV := .sl l.length false (flat GVer.c l)
@[go_sem] theorem versA_len {P : Program} {H : AH} {t : TypeId} {l : List GVer} : lenT P H t (versA l) = if (tySl P t).isSome then some (True, .int .i64 l.length) else none := rfl
@[go_sem] theorem versA_cells {H : AH} {l : List GVer} : cellsA H (versA l) = some [versA l] := rfl
@[go_sem] theorem versA_snap {d : Nat} {H : AH} {l : List GVer} : snapA d H (versA l) = versA l := snapA_id d H _ (by simp [versA, pureA, flat_pure GVer.pure])
@[simp] theorem versA_pure (l : List GVer) : pureA (versA l) = true := by simp [versA, pureA, flat_pure GVer.pure]

abbrev zVal : List AV := [.int .i64 0, .int .i64 0, .str ⟨#[]⟩]
@[go_sem] theorem fillV_len {l : List GVal} {i : Nat} (hi : i ≤ l.length) : (fillL GVal.c zVal l i).length = l.length * 3 := fillL_len GVal.len rfl hi
@[go_sem] theorem fillV_set {l : List GVal} {i : Nat} (h : i < l.length) : (fillL GVal.c zVal l i).take (i * 3) ++ [.int .i64 l[i].k, .int .i64 l[i].n, .str l[i].s] ++ (fillL GVal.c zVal l i).drop (i * 3 + 3) = fillL GVal.c zVal l (i + 1) := fillL_set GVal.len rfl h
def inR (n low high : Int) : Prop := low ≤ n ∧ n ≤ high
instance (n low high : Int) : Decidable (inR n low high) := inferInstanceAs (Decidable (_ ∧ _))
/-- A text's bytes. -/
def bAt (s : ByteArray) (i : Nat) : Nat := (s.data.toList.getD i 0).toNat
theorem bAt_lt {s : ByteArray} {i : Nat} : bAt s i < 256 := (s.data.toList.getD i 0).toNat_lt
@[go_sem] theorem bAt_eq {s : ByteArray} {i : Nat} : (s.data.toList.getD i 0).toNat = bAt s i := rfl
def lettersP (s : ByteArray) : Prop := ∀ i, i < s.size → 97 ≤ bAt s i ∧ bAt s i ≤ 122
instance (s : ByteArray) : Decidable (lettersP s) := by unfold lettersP; infer_instance
@[go_sem] theorem bytesCells_len (s : ByteArray) : (bytesCells s).length = s.size := by simp [bytesCells]
@[go_sem] theorem bytesCells_at {s : ByteArray} {i : Nat} (h : i < s.size) : (bytesCells s).drop i = .int .u8 (bAt s i) :: (bytesCells s).drop (i + 1) := by
  rw [List.drop_eq_getElem_cons (by rw [bytesCells_len]; exact h)]
  congr 1
  have h1 : i < s.data.size := h
  simp [bytesCells, bAt, Array.getElem?_eq_getElem h1]
theorem bytesCells_pure (s : ByteArray) : pureL (bytesCells s) = true := by
  unfold bytesCells
  induction s.data.toList with
  | nil => rfl
  | cons a l ih => simp [pureL, pureA, ih]
def GVal.Ok (v : GVal) : Prop :=
  (v.k = 0 ∧ v.n = 0 ∧ v.s.size = 0) ∨ (v.k = 1 ∧ inR v.n (-9999) 9999 ∧ v.s.size = 0) ∨ (v.k = 2 ∧ v.n = 0 ∧ v.s.size ≤ 6 ∧ lettersP v.s) ∨ (v.k = 3 ∧ inR v.n 0 1 ∧ v.s.size = 0)
instance (v : GVal) : Decidable v.Ok := by unfold GVal.Ok; infer_instance
def rowOk (l : GRow) : Prop := l.length ≤ 4 ∧ ∀ v ∈ l, v.Ok
instance (l : GRow) : Decidable (rowOk l) := by unfold rowOk; infer_instance
@[simp] theorem size_nil : (⟨#[]⟩ : ByteArray).size = 0 := rfl
theorem size_zero {s : ByteArray} : s = ⟨#[]⟩ ↔ s.size = 0 := by
  constructor
  · rintro rfl; rfl
  · intro h
    obtain ⟨d⟩ := s
    have : d.size = 0 := h
    simp at this
    rw [this]
def szVal (v : GVal) (left : Int) : Int := if left - v.s.size < 0 then -1 else left - v.s.size
def szVals : GRow → Int → Int
  | [], left => left
  | v :: r, left => if left - v.s.size < 0 then -1 else szVals r (left - v.s.size)
def szRow (l : GRow) (left : Int) : Int := if left - l.length < 0 then -1 else szVals l (left - l.length)
theorem szVals_lo : ∀ (l : GRow) {left : Int}, 0 ≤ left → -1 ≤ szVals l left ∧ szVals l left ≤ left ∧ (szVals l left < 0 → szVals l left = -1)
  | [], left, h => by simp only [szVals]; omega
  | v :: r, left, h => by
    simp only [szVals]
    split
    · omega
    · have := szVals_lo r (left := left - v.s.size) (by omega)
      omega
theorem szRow_lo (l : GRow) {left : Int} (h : 0 ≤ left) : -1 ≤ szRow l left ∧ szRow l left ≤ left ∧ (szRow l left < 0 → szRow l left = -1) ∧ (0 ≤ szRow l left → l.length ≤ left) := by
  unfold szRow
  split
  · omega
  · have := szVals_lo l (left := left - l.length) (by omega)
    omega
def szVerL : List GVer → Int → Int
  | [], left => left
  | v :: r, left => if szRow v.row left < 0 then -1 else szVerL r (szRow v.row left)
def szVers (l : List GVer) (left : Int) : Int := if left - l.length < 0 then -1 else szVerL l (left - l.length)
abbrev zVer : List AV := [.int .i64 0, .int .i64 0, .int .i64 0, .sl 0 true []]
@[go_sem] theorem fillVer_len {l : List GVer} {i : Nat} (hi : i ≤ l.length) : (fillL GVer.c zVer l i).length = l.length * 4 := fillL_len GVer.len rfl hi
@[go_sem] theorem fillVer_set {l : List GVer} {i : Nat} (h : i < l.length) : (fillL GVer.c zVer l i).take (i * 4) ++ [.int .i64 l[i].key, .int .i64 l[i].born, .int .i64 l[i].died, rowA l[i].row] ++ (fillL GVer.c zVer l i).drop (i * 4 + 4) = fillL GVer.c zVer l (i + 1) := fillL_set GVer.len rfl h
/-- The first place where a test holds, or -1. -/
def idxF {α : Type} (p : α → Bool) (l : List α) : Int := match l.findIdx? p with | some i => i | none => -1
theorem idxF_ge {α : Type} {p : α → Bool} {l : List α} : (0 ≤ idxF p l) ↔ l.any p = true := by
  unfold idxF
  cases h : l.findIdx? p with
  | none => simp only [List.findIdx?_eq_none_iff] at h; simp; exact fun x hx => by simpa using h x hx
  | some i =>
    simp only
    have := (List.findIdx?_eq_some_iff_getElem.1 h)
    obtain ⟨h1, h2, _⟩ := this
    simp only [Int.natCast_nonneg, true_iff, List.any_eq_true]
    exact ⟨_, List.getElem_mem h1, h2⟩
theorem idxF_at {α : Type} {p : α → Bool} {l : List α} {i : Nat} (h : i < l.length) (hp : p l[i] = true) (hn : ∀ j (hj : j < l.length), j < i → p l[j] = false) : idxF p l = i := by
  unfold idxF
  rw [List.findIdx?_eq_some_iff_getElem.2 ⟨h, hp, fun j hj => by simpa using hn j (by omega) hj⟩]
theorem idxF_none {α : Type} {p : α → Bool} {l : List α} (hn : ∀ j (hj : j < l.length), p l[j] = false) : idxF p l = -1 := by
  unfold idxF
  rw [List.findIdx?_eq_none_iff.2 fun x hx => by
    obtain ⟨j, hj, rfl⟩ := List.getElem_of_mem hx
    exact hn j hj]
theorem rowOk_iff (l : GRow) : decide (rowOk l) = (decide (l.length ≤ 4) && !(l.any fun v => !decide v.Ok)) := by
  rw [Bool.eq_iff_iff, decide_eq_true_iff]
  simp [rowOk]
def GVer.Ok (v : GVer) : Prop := inR v.key 0 4 ∧ inR v.born 1 40 ∧ (v.died = 0 ∨ inR v.died (v.born + 1) 40) ∧ rowOk v.row
instance (v : GVer) : Decidable v.Ok := by unfold GVer.Ok; infer_instance
def ordP (w v : GVer) : Prop := w.key < v.key ∨ (w.key = v.key ∧ w.died ≠ 0 ∧ w.died ≤ v.born)
def versOk (l : List GVer) : Prop := (∀ j (h : j < l.length), l[j].Ok) ∧ (∀ j (h : j + 1 < l.length), ordP l[j] l[j + 1]) ∧ l.length ≤ 60
noncomputable instance (l : List GVer) : Decidable (versOk l) := Classical.propDecidable _
/-! ### Orders -/
def cI (n : Int) : List AV := [.int .i64 n]
@[go_sem] theorem cI_flen (l : List Int) : (flat cI l).length = l.length := by rw [flat_len (c := cI) (sz := 1) (fun _ => rfl)]; omega
@[go_sem] theorem cI_fat {l : List Int} {i : Nat} (h : i < l.length) : (flat cI l).drop i = .int .i64 l[i] :: flat cI (l.drop (i + 1)) := by
  have := flat_at (c := cI) (sz := 1) (fun _ => rfl) h
  rwa [Nat.mul_one] at this
theorem cI_pure (l : List Int) : pureL (flat cI l) = true := flat_pure (fun _ => rfl) l
def cmpI (a b : Int) : Int := if a < b then -1 else if b < a then 1 else 0
def cmpS (a b : ByteArray) : Int := if Op.bytesLess a.data.toList b.data.toList then -1 else if a = b then 0 else 1
/-- The first that is not 0. -/
def orF : List Int → Int
  | [] => 0
  | a :: l => if a = 0 then orF l else a
def GVal.ord (v w : GVal) : Int := orF [cmpI v.k w.k, cmpI v.n w.n, cmpS v.s w.s]
def cmpL (g : GVal → GVal → Int) : GRow → GRow → Int
  | [], [] => 0
  | [], _ :: _ => -1
  | _ :: _, [] => 1
  | v :: l, w :: m => if g v w = 0 then cmpL g l m else g v w
/-- In pairs, then by length. -/
def zipL (g : GVal → GVal → Int) : GRow → GRow → Int
  | v :: l, w :: m => if g v w = 0 then zipL g l m else g v w
  | _, _ => 0
theorem cmpL_or (g : GVal → GVal → Int) : ∀ l m : GRow, orF [cmpL g l m, cmpI l.length m.length] = cmpL g l m
  | [], [] => by simp [cmpL, orF, cmpI]
  | [], _ :: _ => by simp [cmpL, orF]
  | _ :: _, [] => by simp [cmpL, orF]
  | v :: l, w :: m => by
    have := cmpL_or g l m
    simp only [cmpL]
    split
    · rw [← this]
      simp only [List.length_cons, orF, cmpI]
      have e1 : (((l.length + 1 : Nat) : Int) < ((m.length + 1 : Nat) : Int)) ↔ ((l.length : Int) < m.length) := by omega
      have e2 : (((m.length + 1 : Nat) : Int) < ((l.length + 1 : Nat) : Int)) ↔ ((m.length : Int) < l.length) := by omega
      simp only [e1, e2]
      split <;> simp_all
    · rename_i h; simp [orF, h]
def rowOrd (l m : GRow) : Int := cmpL GVal.ord l m
def valOrd (v w : GVal) : Int := if v.Ok ∧ w.Ok then v.ord w else 0
def rowOrdOk (l m : GRow) : Int := if rowOk l ∧ rowOk m then rowOrd l m else 0
theorem cmpL_congr {g g' : GVal → GVal → Int} : ∀ {l m : GRow}, (∀ v ∈ l, ∀ w ∈ m, g v w = g' v w) → cmpL g l m = cmpL g' l m
  | [], [], _ => rfl
  | [], _ :: _, _ => rfl
  | _ :: _, [], _ => rfl
  | v :: l, w :: m, h => by
    simp only [cmpL, h v List.mem_cons_self w List.mem_cons_self]
    rw [cmpL_congr (fun x hx y hy => h x (List.mem_cons_of_mem _ hx) y (List.mem_cons_of_mem _ hy))]
theorem cmpL_end {g : GVal → GVal → Int} {l m : GRow} {k : Nat} (h1 : k ≤ l.length) (h2 : k ≤ m.length) (h : l.length ≤ k ∨ m.length ≤ k) : cmpL g (l.drop k) (m.drop k) = cmpI l.length m.length := by
  have e1 : (l.drop k).length = l.length - k := List.length_drop
  have e2 : (m.drop k).length = m.length - k := List.length_drop
  unfold cmpI
  cases hl : l.drop k with
  | nil =>
    rw [hl] at e1
    cases hm : m.drop k with
    | nil =>
      rw [hm] at e2
      simp only [List.length_nil] at e1 e2
      rw [cmpL, if_neg (by omega), if_neg (by omega)]
    | cons x r =>
      rw [hm] at e2
      simp only [List.length_nil, List.length_cons] at e1 e2
      rw [cmpL, if_pos (by omega)]
  | cons x r =>
    rw [hl] at e1
    cases hm : m.drop k with
    | nil =>
      rw [hm] at e2
      simp only [List.length_nil, List.length_cons] at e1 e2
      rw [cmpL, if_neg (by omega), if_pos (by omega)]
    | cons y s =>
      rw [hm] at e2
      simp only [List.length_cons] at e1 e2
      omega
end Go.TH
