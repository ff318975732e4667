/-
  TH, part 4: equality of structs; the quiet operations, one after the other.
-/
import Derived.Test.YtbhibkochjfdfaaTh3
import Derived.Laws.StructEq
import Derived.Laws.BytesString
set_option linter.unusedVariables false
set_option linter.unusedSimpArgs false
namespace Go.TH
open Go

theorem beq_list_eq (a b : ByteArray) : (a.toList == b.toList) = decide (a = b) := by
  rw [ByteArray.toList_eq, ByteArray.toList_eq]
  obtain ⟨⟨x⟩⟩ := a
  obtain ⟨⟨y⟩⟩ := b
  by_cases h : x = y
  · subst h; simp
  · have : ¬ ((⟨⟨x⟩⟩ : ByteArray) = ⟨⟨y⟩⟩) := fun e => h (by injection e with e; injection e)
    simp [h]

theorem eqL_cons {k : LK} {ls : List LK} {xs ys : List AV} {r : Bool} (h : eqL (k :: ls) xs ys = some r) :
    ∃ x xs' y ys' a b, xs = x :: xs' ∧ ys = y :: ys' ∧ eq1 k x y = some a ∧ eqL ls xs' ys' = some b ∧ r = (a && b) := by
  cases xs with
  | nil => simp [eqL] at h
  | cons x xs =>
    cases ys with
    | nil => simp [eqL] at h
    | cons y ys =>
      simp only [eqL] at h
      split at h
      · rename_i a b h1 h2
        cases h
        exact ⟨x, xs, y, ys, a, b, rfl, rfl, h1, h2, rfl⟩
      · cases h
theorem eqL_append : ∀ (a b : List LK) (xs ys : List AV) (r : Bool), eqL (a ++ b) xs ys = some r →
    ∃ r1 r2, eqL a (xs.take a.length) (ys.take a.length) = some r1 ∧ eqL b (xs.drop a.length) (ys.drop a.length) = some r2 ∧ r = (r1 && r2)
  | [], b, xs, ys, r, h => ⟨true, r, by simp [eqL], by simpa using h, by simp⟩
  | k :: a, b, xs, ys, r, h => by
    obtain ⟨x, xs', y, ys', p, q, rfl, rfl, h1, h2, rfl⟩ := eqL_cons (by simpa using h)
    obtain ⟨r1, r2, e1, e2, rfl⟩ := eqL_append a b xs' ys' q h2
    exact ⟨p && r1, r2, by simp [eqL, h1, e1], by simpa using e2, by simp [Bool.and_assoc]⟩
theorem eqL_len : ∀ (ls : List LK) (xs ys : List AV) (r : Bool), eqL ls xs ys = some r → xs.length = ls.length ∧ ys.length = ls.length
  | [], xs, ys, r, h => by
    cases xs <;> cases ys <;> simp_all [eqL]
  | k :: ls, xs, ys, r, h => by
    obtain ⟨x, xs', y, ys', p, q, rfl, rfl, h1, h2, rfl⟩ := eqL_cons h
    have := eqL_len ls xs' ys' q h2
    simp [this.1, this.2]
theorem eqL_one {k : LK} {xs ys : List AV} {r : Bool} (h : eqL [k] xs ys = some r) : ∃ x y, xs = [x] ∧ ys = [y] ∧ eq1 k x y = some r := by
  obtain ⟨x, xs', y, ys', p, q, rfl, rfl, h1, h2, rfl⟩ := eqL_cons h
  have hl := eqL_len _ _ _ _ h2
  have e1 : xs' = [] := List.eq_nil_of_length_eq_zero hl.1
  have e2 : ys' = [] := List.eq_nil_of_length_eq_zero hl.2
  subst e1
  subst e2
  simp [eqL] at h2
  subst h2
  exact ⟨x, y, rfl, rfl, by simpa using h1⟩

theorem eq1_bool {x y : AV} {r : Bool} (h : eq1 .bool x y = some r) : ∃ a b, x = .bool a ∧ y = .bool b ∧ r = (a == b) := by
  unfold eq1 at h
  split at h
  · rename_i h1; cases h1
  · cases h; exact ⟨_, _, rfl, rfl, rfl⟩
  · rename_i h1; cases h1
  · cases h
theorem eq1_int {k : IntKind} {x y : AV} {r : Bool} (h : eq1 (.int k) x y = some r) : ∃ a b, x = .int k a ∧ y = .int k b ∧ r = (a == b) := by
  unfold eq1 at h
  split at h
  · rename_i k' k1 a k2 b h1
    split at h
    · rename_i h2
      cases h1
      obtain ⟨rfl, rfl⟩ := h2
      cases h
      exact ⟨a, b, rfl, rfl, rfl⟩
    · cases h
  · rename_i h1; cases h1
  · rename_i h1; cases h1
  · cases h
theorem eq1_str {x y : AV} {r : Bool} (h : eq1 .str x y = some r) : ∃ a b, x = .str a ∧ y = .str b ∧ r = decide (a = b) := by
  unfold eq1 at h
  split at h
  · rename_i h1; cases h1
  · rename_i h1; cases h1
  · cases h; exact ⟨_, _, rfl, rfl, rfl⟩
  · cases h

/-- A value out of its cells. -/
def pk (P : Program) (t : TypeId) (us : List Value) : Value :=
  match P.underlying t with
  | some (.struct _) => .agg us.toArray
  | _ => us.getD 0 undef

theorem info_of_underlying {P : Program} {t : TypeId} {d : TypeDesc} (h : P.underlying t = some d) : ∃ i, P.info? t = some i := by
  unfold Program.underlying at h
  cases hi : P.info? t with
  | none => rw [hi] at h; cases h
  | some i => exact ⟨i, rfl⟩

theorem run_part {P : Program} {t : TypeId} {d : TypeDesc} (hd : P.underlying t = some d) (hs : ∀ n e, d ≠ .array n e) (W : World) (us : List Value) (off : Nat) (hl : off + P.cellsOf t ≤ us.length) (hc : P.cellsOf t ≠ 0) :
    (part t us.toArray off).run P W = .ok (pk P t ((us.drop off).take (P.cellsOf t))) W := by
  obtain ⟨i, hi⟩ := info_of_underlying hd
  have hcell : P.cellsOf t = i.size := by simp [Program.cellsOf, hi]
  rw [hcell] at hl hc ⊢
  unfold part pk
  rw [hd]
  by_cases hst : ∃ fs, d = .struct fs
  · obtain ⟨fs, rfl⟩ := hst
    simp only [Sem.run_bind, run_isAgg hd, TypeDesc.isRow, Result.andThen_ok, if_true, run_sizeOf hi, Sem.run_pure]
    congr 2
    apply Array.ext'
    simp
  · have hrow : d.isRow = false := by
      cases d <;> first | rfl | (exfalso; exact hst ⟨_, rfl⟩) | (exfalso; exact hs _ _ rfl)
    have h0 : off < us.length := by omega
    simp only [Sem.run_bind, run_isAgg hd, hrow, Result.andThen_ok, Bool.false_eq_true, if_false, List.getElem?_toArray, List.getElem?_eq_getElem h0, Sem.run_pure]
    cases d <;> first
      | (exfalso; exact hst ⟨_, rfl⟩)
      | (simp only [List.getD, List.getElem?_take, List.getElem?_drop, Nat.add_zero, List.getElem?_eq_getElem h0, if_pos (Nat.pos_of_ne_zero hc), Option.getD_some])

theorem leafK_len {P : Program} {m : Nat} {t : TypeId} {ls : List LK} (h : leafK P (m + 1) t = some ls) : ∃ d, P.underlying t = some d ∧ (∀ n e, d ≠ .array n e) := by
  unfold leafK at h
  split at h
  · rename_i h1; exact ⟨_, h1, fun _ _ h => by cases h⟩
  · rename_i h1; exact ⟨_, h1, fun _ _ h => by cases h⟩
  · rename_i h1; exact ⟨_, h1, fun _ _ h => by cases h⟩
  · rename_i h1; exact ⟨_, h1, fun _ _ h => by cases h⟩
  · cases h

theorem eq_run {P : Program} : ∀ (m : Nat) (t : TypeId) (ls : List LK), leafK P m t = some ls → ∀ (d : Nat), m ≤ d → ∀ {κ : Cx} (us vs : List Value) (xs ys : List AV) (r : Bool), Reps κ us xs → Reps κ vs ys →
    eqL ls xs ys = some r → (Op.equalIn d t (pk P t us) (pk P t vs)).run P κ.W = .ok r κ.W
  | 0, t, ls, h, d, hd, κ, us, vs, xs, ys, r, hu, hv, he => by cases h
  | m + 1, t, ls, h, d, hd, κ, us, vs, xs, ys, r, hu, hv, he => by
    obtain ⟨d, rfl⟩ : ∃ k, d = k + 1 := ⟨d - 1, by omega⟩
    unfold leafK at h
    split at h
    · rename_i h1
      cases h
      obtain ⟨x, y, rfl, rfl, he1⟩ := eqL_one he
      obtain ⟨u, us', rfl, hru, hu'⟩ := hu.uncons
      obtain ⟨w, vs', rfl, hrv, hv'⟩ := hv.uncons
      obtain ⟨a, b, rfl, rfl, rfl⟩ := eq1_bool he1
      obtain rfl := hru.bool_inv
      obtain rfl := hrv.bool_inv
      simpa [pk, h1] using run_equalIn_bool' (P := P) κ.W d t a b h1
    · rename_i k h1
      cases h
      obtain ⟨x, y, rfl, rfl, he1⟩ := eqL_one he
      obtain ⟨u, us', rfl, hru, hu'⟩ := hu.uncons
      obtain ⟨w, vs', rfl, hrv, hv'⟩ := hv.uncons
      obtain ⟨a, b, rfl, rfl, rfl⟩ := eq1_int he1
      obtain rfl := hru.int_inv
      obtain rfl := hrv.int_inv
      simpa [pk, h1] using run_equalIn_int (P := P) κ.W d t _ _ a b h1
    · rename_i h1
      cases h
      obtain ⟨x, y, rfl, rfl, he1⟩ := eqL_one he
      obtain ⟨u, us', rfl, hru, hu'⟩ := hu.uncons
      obtain ⟨w, vs', rfl, hrv, hv'⟩ := hv.uncons
      obtain ⟨a, b, rfl, rfl, rfl⟩ := eq1_str he1
      obtain rfl := hru.str_inv
      obtain rfl := hrv.str_inv
      have := run_equalIn_string (P := P) κ.W d t a b h1
      rw [beq_list_eq] at this
      simpa [pk, h1] using this
    · rename_i fs h1
      split at h
      · cases h
      · rename_i hst
        have hf : P.fieldsOf t = fs := by simp [Program.fieldsOf, h1]
        have hagg := run_equalIn_agg (P := P) κ.W d t us.toArray vs.toArray (by rw [hf]; exact h1) (by simpa using hst)
        rw [hf] at hagg
        simp only [pk, h1]
        rw [hagg]
        have key : ∀ (l : List Field) (off : Nat) (ls : List LK) (r : Bool), leafFs (leafK P m) (P.cellsOf ·) l off = some ls → eqL ls (xs.drop off) (ys.drop off) = some r →
            (Op.eqFields d us.toArray vs.toArray l).run P κ.W = .ok r κ.W := by
          intro l
          induction l with
          | nil =>
            intro off ls r h he
            simp only [leafFs, Option.some.injEq] at h
            subst h
            have hl := eqL_len _ _ _ _ he
            rw [List.eq_nil_of_length_eq_zero hl.1, List.eq_nil_of_length_eq_zero hl.2] at he
            simp [eqL] at he
            subst he
            simp [Op.eqFields]
          | cons f l ih =>
            intro off ls r h he
            simp only [leafFs] at h
            split at h
            · cases h
            · rename_i hnm
              split at h
              · cases h
              · rename_i hoff
                have hc0 : P.cellsOf f.type ≠ 0 := fun h => hoff (.inr h)
                have hoff : f.offset = off := Decidable.byContradiction fun h => hoff (.inl h)
                split at h
                · rename_i a b ha hb
                  split at h
                  · rename_i hal
                    cases h
                    obtain ⟨r1, r2, e1, e2, rfl⟩ := eqL_append a b _ _ _ he
                    obtain ⟨m', rfl⟩ : ∃ k, m = k + 1 := by
                      cases m with
                      | zero => cases ha
                      | succ k => exact ⟨k, rfl⟩
                    obtain ⟨df, hdf, hna⟩ := leafK_len ha
                    have hlen := eqL_len _ _ _ _ e1
                    rw [hal] at e1 e2 hlen
                    have hux : off + P.cellsOf f.type ≤ us.length := by rw [hu.1]; have := hlen.1; simp at this; omega
                    have hvy : off + P.cellsOf f.type ≤ vs.length := by rw [hv.1]; have := hlen.2; simp at this; omega
                    have hp1 := run_part (P := P) hdf hna κ.W us off hux hc0
                    have hp2 := run_part (P := P) hdf hna κ.W vs off hvy hc0
                    have hee := eq_run (m' + 1) f.type a ha d (by omega) _ _ _ _ r1 ((hu.drop off).take (P.cellsOf f.type)) ((hv.drop off).take (P.cellsOf f.type)) e1
                    have hih := ih _ b r2 hb (by simpa [List.drop_drop] using e2)
                    simp only [Op.eqFields, if_pos (show f.name ≠ "_" from hnm), Sem.run_bind, hoff, hp1, hp2, hee, Result.andThen_ok]
                    cases r1
                    · simp
                    · simpa using hih
                  · cases h
                · cases h
        exact key fs.toList 0 ls r h (by simpa using he)
    · cases h
end Go.TH
