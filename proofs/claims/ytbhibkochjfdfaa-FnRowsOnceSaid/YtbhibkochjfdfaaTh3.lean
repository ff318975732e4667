/-
  TH, part 3: the operations of part 2 are what the model does.
-/
import Derived.Test.YtbhibkochjfdfaaTh2
set_option linter.unusedVariables false
set_option linter.unusedSimpArgs false
namespace Go.TH
open Go

section inv
variable {W : World} {M : Nat → Option Ent} {F : Nat → Prop} {v : Value}
theorem Rep.int_inv {k : IntKind} {n : Int} (h : Rep W M F v (.int k n)) : v = .int k n := by cases h; rfl
theorem Rep.bool_inv {b : Bool} (h : Rep W M F v (.bool b)) : v = .bool b := by cases h; rfl
theorem Rep.str_inv {s : ByteArray} (h : Rep W M F v (.str s)) : v = .string s := by cases h; rfl
theorem Rep.agg_inv {cells : List AV} (h : Rep W M F v (.agg cells)) : ∃ vs : List Value, v = .agg vs.toArray ∧ (∀ x ∈ vs, x.oneCell' = true) ∧ Reps ⟨W, M, F⟩ vs cells := by
  cases h with
  | agg vs cells hl h1 hr => exact ⟨vs, rfl, h1, hl, hr⟩
theorem Rep.tup_inv {as : List AV} (h : Rep W M F v (.tup as)) : ∃ vs : List Value, v = .tuple vs.toArray ∧ Reps ⟨W, M, F⟩ vs as := by
  cases h with
  | tup vs as hl hr => exact ⟨vs, rfl, hl, hr⟩
theorem Rep.fn_inv {f : FuncId} {as : List AV} (h : Rep W M F v (.fn f as)) : ∃ vs : List Value, v = .func (.func f) #[] vs.toArray ∧ Reps ⟨W, M, F⟩ vs as := by
  cases h with
  | fn f vs as hl hr => exact ⟨vs, rfl, hl, hr⟩
end inv

/-- Cells that can be read from an address on. -/
def CellsAt (κ : Cx) (ad : Addr) (vs : List Value) : Prop := ad.spot = none ∧ ∀ (j : Nat) (v : Value), vs[j]? = some v → κ.W.cell? (ad.add j) = some v ∧ v.oneCell' = true
theorem add_add (ad : Addr) (hs : ad.spot = none) (i j : Nat) : (ad.add i).add j = ad.add (i + j) := by
  obtain ⟨b, o, s⟩ := ad
  simp only at hs
  subst hs
  unfold Addr.add
  by_cases hi : i = 0 <;> by_cases hj : j = 0 <;> simp [hi, hj]; omega
theorem add_spot (ad : Addr) (hs : ad.spot = none) (i : Nat) : (ad.add i).spot = none := by unfold Addr.add; split <;> simp_all
theorem add_lit (b o j : Nat) : (⟨b, o, none⟩ : Addr).add j = ⟨b, o + j, none⟩ := by unfold Addr.add; split <;> simp_all
theorem add_zero (ad : Addr) : ad.add 0 = ad := by simp [Addr.add]
theorem CellsAt.drop {κ : Cx} {ad : Addr} {vs : List Value} (h : CellsAt κ ad vs) (n : Nat) : CellsAt κ (ad.add n) (vs.drop n) := by
  refine ⟨add_spot ad h.1 n, fun j v hv => ?_⟩
  rw [add_add ad h.1]
  exact h.2 _ v (by simpa using hv)
theorem CellsAt.take {κ : Cx} {ad : Addr} {vs : List Value} (h : CellsAt κ ad vs) (n : Nat) : CellsAt κ ad (vs.take n) := by
  refine ⟨h.1, fun j v hv => h.2 j v ?_⟩
  rw [List.getElem?_take] at hv
  split at hv <;> simp_all
theorem CellsAt.one {κ : Cx} {ad : Addr} {vs : List Value} (h : CellsAt κ ad vs) : ∀ v ∈ vs, v.oneCell' = true := fun v hv => by
  obtain ⟨j, hj⟩ := List.mem_iff_getElem?.1 hv
  exact (h.2 j v hj).2

theorem Rep.ro_inv {κ : Cx} {v : Value} {cells : List AV} (h : Rep κ.W κ.M κ.F v (.ro cells)) : ∃ ad vs, v = .pointer (some ad) ∧ κ.F ad.block ∧ CellsAt κ ad vs ∧ Reps κ vs cells := by
  cases h with
  | ro ad cells vs hF hs hl hc hr => exact ⟨ad, vs, rfl, hF, ⟨hs, hc⟩, hl, hr⟩
theorem Rep.ro_mk {κ : Cx} {ad : Addr} {vs : List Value} {cells : List AV} (hF : κ.F ad.block) (hc : CellsAt κ ad vs) (hr : Reps κ vs cells) : Rep κ.W κ.M κ.F (.pointer (some ad)) (.ro cells) :=
  .ro ad cells vs hF hc.1 hr.1 hc.2 hr.2
theorem Rep.sl_inv {κ : Cx} {v : Value} {n : Nat} {t : Bool} {cells : List AV} (h : Rep κ.W κ.M κ.F v (.sl n t cells)) :
    ∃ A c, v = .slice A n c ∧ n ≤ c ∧ (t = true → c = n) ∧ ((cells = []) ∨ ∃ ad vs, A = some ad ∧ κ.F ad.block ∧ CellsAt κ ad vs ∧ Reps κ vs cells) := by
  cases h with
  | sl ad n c t cells vs hn ht hF hs hl hc hr => exact ⟨_, c, rfl, hn, ht, .inr ⟨ad, vs, rfl, hF, ⟨hs, hc⟩, hl, hr⟩⟩
  | sl0 A n c t hn ht => exact ⟨A, c, rfl, hn, ht, .inl rfl⟩
theorem Rep.sl_mk {κ : Cx} {A : Option Addr} {n c : Nat} {t : Bool} {cells : List AV} (hn : n ≤ c) (ht : t = true → c = n) (h : (cells = []) ∨ ∃ ad vs, A = some ad ∧ κ.F ad.block ∧ CellsAt κ ad vs ∧ Reps κ vs cells) :
    Rep κ.W κ.M κ.F (.slice A n c) (.sl n t cells) := by
  rcases h with rfl | ⟨ad, vs, rfl, hF, hc, hr⟩
  · exact .sl0 A n c t hn ht
  · exact .sl ad n c t cells vs hn ht hF hc.1 hr.1 hc.2 hr.2

/-- What a live place's block holds. -/
theorem Inv.place {base nx : Nat} {κ : Cx} {H : AH} (hi : Inv base κ H nx) {id ver b : Nat} {cells : List AV} (hl : H id = .live ver cells) (hm : κ.M id = some ⟨ver, some b⟩) :
    base ≤ b ∧ ¬ κ.F b ∧ ∃ (vs rest : List Value) (T : TypeId), κ.W.heap[b]? = some (Obj.cells (vs ++ rest).toArray T (0, 0)) ∧ (∀ v ∈ vs, v.oneCell' = true) ∧ Reps κ vs cells := by
  obtain ⟨e, he, hv, hh⟩ := hi.live id ver cells hl
  rw [hm] at he
  cases he
  exact hh
theorem Inv.ptr_inv {base nx : Nat} {κ : Cx} {H : AH} (hi : Inv base κ H nx) {id ver off : Nat} {cells : List AV} (hl : H id = .live ver cells) {v : Value} (h : Rep κ.W κ.M κ.F v (.ptr id ver off)) :
    ∃ b, v = .pointer (some ⟨b, off, none⟩) ∧ κ.M id = some ⟨ver, some b⟩ := by
  cases h with
  | ptr id ver off b h => exact ⟨b, rfl, h⟩
  | ptrOld v id ver off e h hv =>
    obtain ⟨e', he, hv', _⟩ := hi.live id ver cells hl
    rw [h] at he
    cases he
    omega
theorem Inv.msl_inv {base nx : Nat} {κ : Cx} {H : AH} (hi : Inv base κ H nx) {id ver sz off n : Nat} {cells : List AV} (hl : H id = .live ver cells) {v : Value} (h : Rep κ.W κ.M κ.F v (.msl id ver sz off n)) :
    (∃ b c cs T fz, v = .slice (some ⟨b, off, none⟩) n c ∧ κ.M id = some ⟨ver, some b⟩ ∧ n ≤ c ∧ κ.W.heap[b]? = some (Obj.cells cs T fz) ∧ off + c * sz ≤ cs.size) ∨
    (∃ A b, v = .slice A 0 0 ∧ κ.M id = some ⟨ver, b⟩ ∧ n = 0) := by
  cases h with
  | msl id ver sz off n c b cs T fz h hn hb hcap => exact .inl ⟨b, c, cs, T, fz, rfl, h, hn, hb, hcap⟩
  | mslNil A id ver sz off b h => exact .inr ⟨A, b, rfl, h, rfl⟩
  | mslOld v id ver sz off n e h hv =>
    obtain ⟨e', he, hv', _⟩ := hi.live id ver cells hl
    rw [h] at he
    cases he
    omega
theorem cellsAt_block {κ : Cx} {b : Nat} {vs rest : List Value} {T : TypeId} {fz : Nat × Nat} (hb : κ.W.heap[b]? = some (Obj.cells (vs ++ rest).toArray T fz)) (h1 : ∀ v ∈ vs, v.oneCell' = true) : CellsAt κ ⟨b, 0, none⟩ vs := by
  refine ⟨rfl, fun j v hv => ⟨?_, h1 v (List.mem_iff_getElem?.2 ⟨j, hv⟩)⟩⟩
  rw [add_lit]
  have hj : j < vs.length := (List.getElem?_eq_some_iff.1 hv).1
  simp [World.cell?, hb, List.getElem?_append_left hj, hv]
/-- The cells behind a live pointer. -/
theorem Inv.ptr_cells {base nx : Nat} {κ : Cx} {H : AH} (hi : Inv base κ H nx) {id ver off : Nat} {cells : List AV} (hl : H id = .live ver cells) {v : Value} (h : Rep κ.W κ.M κ.F v (.ptr id ver off)) :
    ∃ b vs, v = .pointer (some ⟨b, off, none⟩) ∧ CellsAt κ ⟨b, off, none⟩ (vs.drop off) ∧ Reps κ vs cells := by
  obtain ⟨b, rfl, hm⟩ := hi.ptr_inv hl h
  obtain ⟨_, _, vs, rest, T, hb, h1, hr⟩ := hi.place hl hm
  refine ⟨b, vs, rfl, ?_, hr⟩
  have := (cellsAt_block hb h1).drop off
  rwa [add_lit, Nat.zero_add] at this

theorem run_isAgg {P : Program} {t : TypeId} {d : TypeDesc} (h : P.underlying t = some d) (W : World) : (isAgg t).run P W = .ok d.isRow W := by
  unfold isAgg
  rw [Sem.run_bind, run_underlying h W]
  cases d <;> rfl
theorem tyAS_spec {P : Program} {t : TypeId} {g : Bool} {n : Nat} (h : tyAS P t = some (g, n)) : ∃ d i, P.underlying t = some d ∧ P.info? t = some i ∧ d.isRow = g ∧ i.size = n := by
  unfold tyAS at h
  split at h
  · rename_i d i h1 h2
    cases h
    exact ⟨d, i, h1, h2, rfl, rfl⟩
  · cases h
theorem tySl_spec {P : Program} {t e n m : Nat} (h : tySl P t = some (e, n, m)) : P.underlying t = some (.slice e) ∧ ∃ i, P.info? e = some i ∧ i.size = n ∧ i.bytes = m := by
  unfold tySl at h
  split at h
  · rename_i e' h1
    cases hi : P.info? e' with
    | none => rw [hi] at h; cases h
    | some i =>
      rw [hi] at h
      simp only [Option.map_some, Option.some.injEq, Prod.mk.injEq] at h
      obtain ⟨rfl, rfl, rfl⟩ := h
      exact ⟨h1, i, hi, rfl, rfl⟩
  · cases h
theorem tyInt_spec {P : Program} {t : TypeId} {k : IntKind} (h : tyInt P t = some k) : P.underlying t = some (.int k) := by
  unfold tyInt at h
  split at h
  · rename_i k' h1; cases h; exact h1
  · cases h
theorem tyStr_spec {P : Program} {t : TypeId} (h : tyStr P t = true) : P.underlying t = some .string := by
  unfold tyStr at h
  split at h
  · rename_i h1; exact h1
  · cases h
theorem tyBool_spec {P : Program} {t : TypeId} (h : tyBool P t = true) : P.underlying t = some .bool := by
  unfold tyBool at h
  split at h
  · rename_i h1; exact h1
  · cases h
theorem run_sizeOf {P : Program} {t : TypeId} {i : TypeInfo} (h : P.info? t = some i) (W : World) : (sizeOf t).run P W = .ok i.size W := by simp [sizeOf, typeInfo, h]

/-- What is read at an address. -/
theorem run_load_cells {P : Program} {t : TypeId} {g : Bool} {n : Nat} (ht : tyAS P t = some (g, n)) {κ : Cx} {ad : Addr} {vs : List Value} (hc : CellsAt κ ad vs) {cells : List AV} (hr : Reps κ vs cells)
    (hp : (loadA cells 0 (g, n)).1) : ∃ v, (loadVar t ad).run P κ.W = .ok v κ.W ∧ Rep κ.W κ.M κ.F v (loadA cells 0 (g, n)).2 := by
  obtain ⟨d, i, hd, hi, hg, hn⟩ := tyAS_spec ht
  cases g with
  | true =>
    simp only [loadA, Nat.zero_add, List.drop_zero] at hp ⊢
    have hl : (vs.take n).length = n := by rw [List.length_take, hr.1]; omega
    have hrun := run_loadCells_list (P := P) κ.W ad (vs.take n) (fun j v hv => ((hc.take n).2 j v hv).1)
    rw [hl] at hrun
    refine ⟨.agg (vs.take n).toArray, ?_, .agg _ _ (hr.take n).1 (hc.take n).one (hr.take n).2⟩
    simp [loadVar, Sem.run_bind, run_isAgg hd, hg, run_sizeOf hi, hn, hrun]
  | false =>
    simp only [loadA] at hp ⊢
    have h0 : cells[0]? = some (cells.getD 0 .junk) := by simp [List.getD, List.getElem?_eq_getElem hp]
    obtain ⟨v, hv, hrv⟩ := hr.at h0
    have := (hc.2 0 v hv).1
    rw [add_zero] at this
    refine ⟨v, ?_, hrv⟩
    simp [loadVar, Sem.run_bind, run_isAgg hd, hg, this]
theorem loadA_drop (cells : List AV) (off : Nat) (s : Bool × Nat) : (loadA cells off s).1 → (loadA (cells.drop off) 0 s).1 ∧ (loadA (cells.drop off) 0 s).2 = (loadA cells off s).2 := by
  obtain ⟨g, n⟩ := s
  cases g <;> simp only [loadA]
  · intro h
    refine ⟨by simp; omega, ?_⟩
    simp [List.getD, List.getElem?_drop]
  · intro h
    refine ⟨by simp; omega, ?_⟩
    simp

theorem tyFld_spec {P : Program} {t : TypeId} {j off n : Nat} {g : Bool} (h : tyFld P t j = some (off, n, g)) :
    ∃ (fs : Array Field) (f : Field), P.underlying t = some (.struct fs) ∧ fs[j]? = some f ∧ f.offset = off ∧ n ≠ 0 ∧ tyAS P f.type = some (g, n) := by
  unfold tyFld at h
  split at h
  · rename_i fs h1
    split at h
    · rename_i f h2
      split at h
      · rename_i g' n' h3
        split at h
        · cases h
        · rename_i hn
          cases h
          exact ⟨fs, f, h1, h2, rfl, hn, h3⟩
      · cases h
    · cases h
  · cases h
theorem run_fieldPlace {P : Program} {t : TypeId} {j off n : Nat} {g : Bool} (h : tyFld P t j = some (off, n, g)) (ad : Addr) (W : World) :
    (Instr.fieldAt t (.pointer (some ad)) j).run P W = .ok (.pointer (some (ad.add off))) W := by
  obtain ⟨fs, f, h1, h2, h3, h4, h5⟩ := tyFld_spec h
  obtain ⟨d, i, _, hi, _, hn⟩ := tyAS_spec h5
  subst h3
  have : i.size ≠ 0 := by omega
  simp [Instr.fieldAt, Sem.run_bind, run_underlying h1, h2, Instr.sureAddr, fieldPlace, run_sizeOf hi, this]
end Go.TH
