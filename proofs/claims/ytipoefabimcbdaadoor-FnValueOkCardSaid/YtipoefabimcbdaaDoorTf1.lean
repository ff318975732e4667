/- The framework of this proof, part 1: abstract values and what they stand for in a world. -/
import Derived.Calls
import Derived.Orders
import Derived.Below
import Derived.Deep.AppendSrc
import Derived.Deep.MidRow
import Derived.KernelRfl
import Derived.Lib.LaidTab
import Derived.Lib.ItoaMem
import Derived.Laws.StructEq
import Derived.Laws.BytesString
import Derived.Laws.MakeOwn
import Derived.Lib.ConvBytes
import Derived.Tactics
/-
  TH, part 1: abstract values, what they stand for in a world, and that this lasts.
-/
set_option linter.unusedVariables false
namespace Go.TH
open Go

/-- Abstract values. Slices and structs are lists of flat cells. -/
inductive AV where
  | int (k : IntKind) (n : Int)
  | bool (b : Bool)
  | str (s : ByteArray)
  | sl (n : Nat) (t : Bool) (cells : List AV)
  | ro (cells : List AV)
  | ptr (id ver off : Nat)
  | msl (id ver sz off n : Nat)
  | agg (cells : List AV)
  | tup (vs : List AV)
  | fn (f : FuncId) (cap : List AV)
  | bfn (f : FuncId) (bnd : List AV)
  | nilp
  | junk
  | unk
  deriving Inhabited

structure Ent where
  ver : Nat
  blk : Option Nat

/-- A concrete state: the world, where the abstract blocks lie, which blocks will not turn any more. -/
structure Cx where
  W : World
  M : Nat → Option Ent
  F : Nat → Prop

inductive Rep (W : World) (M : Nat → Option Ent) (F : Nat → Prop) : Value → AV → Prop
  | int (k : IntKind) (n : Int) : Rep W M F (.int k n) (.int k n)
  | bool (b : Bool) : Rep W M F (.bool b) (.bool b)
  | str (s : ByteArray) : Rep W M F (.string s) (.str s)
  | sl (ad : Addr) (n c : Nat) (t : Bool) (cells : List AV) (vs : List Value) (hn : n ≤ c) (ht : t = true → c = n)
      (hF : F ad.block) (hs : ad.spot = none) (hl : vs.length = cells.length)
      (hc : ∀ (j : Nat) (v : Value), vs[j]? = some v → W.cell? (ad.add j) = some v ∧ v.oneCell' = true)
      (hr : ∀ (j : Nat) (v : Value) (a : AV), vs[j]? = some v → cells[j]? = some a → Rep W M F v a) : Rep W M F (.slice (some ad) n c) (.sl n t cells)
  | sl0 (A : Option Addr) (n c : Nat) (t : Bool) (hn : n ≤ c) (ht : t = true → c = n) : Rep W M F (.slice A n c) (.sl n t [])
  | ro (ad : Addr) (cells : List AV) (vs : List Value) (hF : F ad.block) (hs : ad.spot = none) (hl : vs.length = cells.length)
      (hc : ∀ (j : Nat) (v : Value), vs[j]? = some v → W.cell? (ad.add j) = some v ∧ v.oneCell' = true)
      (hr : ∀ (j : Nat) (v : Value) (a : AV), vs[j]? = some v → cells[j]? = some a → Rep W M F v a) : Rep W M F (.pointer (some ad)) (.ro cells)
  | ptr (id ver off b : Nat) (h : M id = some ⟨ver, some b⟩) : Rep W M F (.pointer (some ⟨b, off, none⟩)) (.ptr id ver off)
  | ptrOld (v : Value) (id ver off : Nat) (e : Ent) (h : M id = some e) (hv : ver < e.ver) : Rep W M F v (.ptr id ver off)
  | msl (id ver sz off n c b : Nat) (cs : Array Value) (T : TypeId) (fz : Nat × Nat) (h : M id = some ⟨ver, some b⟩) (hn : n ≤ c)
      (hb : W.heap[b]? = some (.cells cs T fz)) (hcap : off + c * sz ≤ cs.size) : Rep W M F (.slice (some ⟨b, off, none⟩) n c) (.msl id ver sz off n)
  | mslNil (A : Option Addr) (id ver sz off : Nat) (b : Option Nat) (h : M id = some ⟨ver, b⟩) : Rep W M F (.slice A 0 0) (.msl id ver sz off 0)
  | mslOld (v : Value) (id ver sz off n : Nat) (e : Ent) (h : M id = some e) (hv : ver < e.ver) : Rep W M F v (.msl id ver sz off n)
  | agg (vs : List Value) (cells : List AV) (hl : vs.length = cells.length) (h1 : ∀ v ∈ vs, v.oneCell' = true)
      (hr : ∀ (j : Nat) (v : Value) (a : AV), vs[j]? = some v → cells[j]? = some a → Rep W M F v a) : Rep W M F (.agg vs.toArray) (.agg cells)
  | tup (vs : List Value) (as : List AV) (hl : vs.length = as.length)
      (hr : ∀ (j : Nat) (v : Value) (a : AV), vs[j]? = some v → as[j]? = some a → Rep W M F v a) : Rep W M F (.tuple vs.toArray) (.tup as)
  | fn (f : FuncId) (vs : List Value) (as : List AV) (hl : vs.length = as.length)
      (hr : ∀ (j : Nat) (v : Value) (a : AV), vs[j]? = some v → as[j]? = some a → Rep W M F v a) : Rep W M F (.func (.func f) #[] vs.toArray) (.fn f as)
  | bfn (f : FuncId) (vs : List Value) (as : List AV) (hl : vs.length = as.length)
      (hr : ∀ (j : Nat) (v : Value) (a : AV), vs[j]? = some v → as[j]? = some a → Rep W M F v a) : Rep W M F (.func (.func f) vs.toArray #[]) (.bfn f as)
  | nilp : Rep W M F (.pointer none) .nilp
  | junk (v : Value) : Rep W M F v .junk
  | unk (b : Bool) : Rep W M F (.bool b) .unk

/-- Pointwise. -/
def Reps (κ : Cx) (vs : List Value) (as : List AV) : Prop :=
  vs.length = as.length ∧ ∀ (j : Nat) (v : Value) (a : AV), vs[j]? = some v → as[j]? = some a → Rep κ.W κ.M κ.F v a

theorem Reps.nil (κ : Cx) : Reps κ [] [] := ⟨rfl, fun j v a h => by simp at h⟩
theorem Reps.cons {κ : Cx} {v : Value} {a : AV} {vs : List Value} {as : List AV} (h : Rep κ.W κ.M κ.F v a) (hs : Reps κ vs as) : Reps κ (v :: vs) (a :: as) := by
  refine ⟨by simp [hs.1], fun j v' a' h1 h2 => ?_⟩
  cases j with
  | zero => simp at h1 h2; subst h1; subst h2; exact h
  | succ j => exact hs.2 j v' a' (by simpa using h1) (by simpa using h2)
theorem Reps.uncons {κ : Cx} {vs : List Value} {a : AV} {as : List AV} (h : Reps κ vs (a :: as)) : ∃ v vs', vs = v :: vs' ∧ Rep κ.W κ.M κ.F v a ∧ Reps κ vs' as := by
  cases vs with
  | nil => simp [Reps] at h
  | cons v vs' =>
    refine ⟨v, vs', rfl, h.2 0 v a rfl rfl, by simpa using h.1, fun j v' a' h1 h2 => h.2 (j + 1) v' a' (by simpa using h1) (by simpa using h2)⟩
theorem Reps.unnil {κ : Cx} {vs : List Value} (h : Reps κ vs []) : vs = [] := List.eq_nil_of_length_eq_zero h.1
theorem Reps.append {κ : Cx} {vs vs' : List Value} {as as' : List AV} (h : Reps κ vs as) (h' : Reps κ vs' as') : Reps κ (vs ++ vs') (as ++ as') := by
  refine ⟨by simp [h.1, h'.1], fun j v a h1 h2 => ?_⟩
  by_cases hj : j < vs.length
  · rw [List.getElem?_append_left hj] at h1
    rw [List.getElem?_append_left (h.1 ▸ hj)] at h2
    exact h.2 j v a h1 h2
  · rw [List.getElem?_append_right (by omega)] at h1
    rw [List.getElem?_append_right (by rw [← h.1]; omega)] at h2
    rw [← h.1] at h2
    exact h'.2 _ v a h1 h2
theorem Reps.drop {κ : Cx} {vs : List Value} {as : List AV} (h : Reps κ vs as) (n : Nat) : Reps κ (vs.drop n) (as.drop n) :=
  ⟨by simp [h.1], fun j v a h1 h2 => h.2 (n + j) v a (by simpa using h1) (by simpa using h2)⟩
theorem Reps.take {κ : Cx} {vs : List Value} {as : List AV} (h : Reps κ vs as) (n : Nat) : Reps κ (vs.take n) (as.take n) := by
  refine ⟨by simp [h.1], fun j v a h1 h2 => h.2 j v a ?_ ?_⟩
  · rw [List.getElem?_take] at h1; split at h1 <;> simp_all
  · rw [List.getElem?_take] at h2; split at h2 <;> simp_all
theorem Reps.at {κ : Cx} {vs : List Value} {as : List AV} (h : Reps κ vs as) {j : Nat} {a : AV} (ha : as[j]? = some a) : ∃ v, vs[j]? = some v ∧ Rep κ.W κ.M κ.F v a := by
  have hj : j < vs.length := by rw [h.1]; exact (List.getElem?_eq_some_iff.1 ha).1
  exact ⟨vs[j], List.getElem?_eq_getElem hj, h.2 j _ a (List.getElem?_eq_getElem hj) ha⟩
theorem Reps.set {κ : Cx} {vs : List Value} {as : List AV} (h : Reps κ vs as) (i : Nat) {v : Value} {a : AV} (hv : Rep κ.W κ.M κ.F v a) : Reps κ (vs.set i v) (as.set i a) := by
  refine ⟨by simp [h.1], fun j v' a' h1 h2 => ?_⟩
  rw [List.getElem?_set] at h1 h2
  by_cases hij : i = j
  · subst hij
    simp at h1 h2
    obtain ⟨_, rfl⟩ := h1
    obtain ⟨_, rfl⟩ := h2
    exact hv
  · simp [hij] at h1 h2
    exact h.2 j v' a' h1 h2

/-- What lasts from one state to a later one. -/
structure Ev (κ κ' : Cx) : Prop where
  fr : ∀ b : Nat, κ.F b → κ'.F b ∧ κ'.W.heap[b]? = κ.W.heap[b]?
  pl : ∀ id e, κ.M id = some e → ∃ e', κ'.M id = some e' ∧ (e.ver < e'.ver ∨ e' = e)
  shp : ∀ (b : Nat) (cs : Array Value) (T : TypeId) (fz : Nat × Nat), κ.W.heap[b]? = some (Obj.cells cs T fz) → ∃ (cs' : Array Value) (fz' : Nat × Nat), κ'.W.heap[b]? = some (Obj.cells cs' T fz') ∧ cs'.size = cs.size

theorem Ev.refl (κ : Cx) : Ev κ κ := ⟨fun _ h => ⟨h, rfl⟩, fun _ e h => ⟨e, h, .inr rfl⟩, fun _ cs _ fz h => ⟨cs, fz, h, rfl⟩⟩
theorem Ev.trans {a b c : Cx} (h : Ev a b) (k : Ev b c) : Ev a c := by
  refine ⟨fun x hx => ?_, fun id e he => ?_, fun x cs T fz hx => ?_⟩
  · obtain ⟨h1, h2⟩ := h.fr x hx
    obtain ⟨k1, k2⟩ := k.fr x h1
    exact ⟨k1, k2.trans h2⟩
  · obtain ⟨e1, h1, h2⟩ := h.pl id e he
    obtain ⟨e2, k1, k2⟩ := k.pl id e1 h1
    refine ⟨e2, k1, ?_⟩
    rcases h2 with h2 | rfl
    · rcases k2 with k2 | rfl
      · exact .inl (by omega)
      · exact .inl h2
    · exact k2
  · obtain ⟨cs1, fz1, h1, h2⟩ := h.shp x cs T fz hx
    obtain ⟨cs2, fz2, k1, k2⟩ := k.shp x cs1 T fz1 h1
    exact ⟨cs2, fz2, k1, k2.trans h2⟩

theorem cell_of_heap {w w' : World} {a : Addr} (h : w'.heap[a.block]? = w.heap[a.block]?) : w'.cell? a = w.cell? a := World.cell?_of_block h
theorem add_block (a : Addr) (n : Nat) : (a.add n).block = a.block := by unfold Addr.add; split <;> rfl

theorem Rep.ev {κ κ' : Cx} (h : Ev κ κ') {v : Value} {a : AV} (r : Rep κ.W κ.M κ.F v a) : Rep κ'.W κ'.M κ'.F v a := by
  induction r with
  | int k n => exact .int k n
  | bool b => exact .bool b
  | str s => exact .str s
  | sl ad n c t cells vs hn ht hF hs hl hc hr ih =>
    obtain ⟨h1, h2⟩ := h.fr _ hF
    refine .sl ad n c t cells vs hn ht h1 hs hl (fun j v hv => ?_) ih
    rw [cell_of_heap (w := κ.W) (by rw [add_block]; exact h2)]
    exact hc j v hv
  | sl0 A n c t hn ht => exact .sl0 A n c t hn ht
  | ro ad cells vs hF hs hl hc hr ih =>
    obtain ⟨h1, h2⟩ := h.fr _ hF
    refine .ro ad cells vs h1 hs hl (fun j v hv => ?_) ih
    rw [cell_of_heap (w := κ.W) (by rw [add_block]; exact h2)]
    exact hc j v hv
  | ptr id ver off b hm =>
    obtain ⟨e', h1, h2⟩ := h.pl _ _ hm
    rcases h2 with h2 | rfl
    · exact .ptrOld _ _ _ _ e' h1 h2
    · exact .ptr _ _ _ _ h1
  | ptrOld v id ver off e hm hv =>
    obtain ⟨e', h1, h2⟩ := h.pl _ _ hm
    refine .ptrOld _ _ _ _ e' h1 ?_
    rcases h2 with h2 | rfl <;> omega
  | msl id ver sz off n c b cs T fz hm hn hb hcap =>
    obtain ⟨e', h1, h2⟩ := h.pl _ _ hm
    rcases h2 with h2 | rfl
    · exact .mslOld _ _ _ _ _ _ e' h1 h2
    · obtain ⟨cs', fz', h3, h4⟩ := h.shp b cs T fz hb
      exact .msl _ _ _ _ _ _ _ cs' T fz' h1 hn h3 (by omega)
  | mslNil A id ver sz off b hm =>
    obtain ⟨e', h1, h2⟩ := h.pl _ _ hm
    rcases h2 with h2 | rfl
    · exact .mslOld _ _ _ _ _ _ e' h1 h2
    · exact .mslNil _ _ _ _ _ _ h1
  | mslOld v id ver sz off n e hm hv =>
    obtain ⟨e', h1, h2⟩ := h.pl _ _ hm
    refine .mslOld _ _ _ _ _ _ e' h1 ?_
    rcases h2 with h2 | rfl <;> omega
  | agg vs cells hl h1 hr ih => exact .agg vs cells hl h1 ih
  | tup vs as hl hr ih => exact .tup vs as hl ih
  | fn f vs as hl hr ih => exact .fn f vs as hl ih
  | bfn f vs as hl hr ih => exact .bfn f vs as hl ih
  | nilp => exact .nilp
  | junk v => exact .junk v
  | unk b => exact .unk b

theorem Reps.ev {κ κ' : Cx} (h : Ev κ κ') {vs : List Value} {as : List AV} (r : Reps κ vs as) : Reps κ' vs as :=
  ⟨r.1, fun j v a h1 h2 => (r.2 j v a h1 h2).ev h⟩

/-- Abstract blocks. -/
inductive ABlk where
  | dead
  | live (ver : Nat) (cells : List AV)
  deriving Inhabited

abbrev AH := Nat → ABlk
def noH : AH := fun _ => .dead
def upd (H : AH) (i : Nat) (b : ABlk) : AH := fun j => if j = i then b else H j
theorem upd_same (H : AH) (i : Nat) (b : ABlk) : upd H i b i = b := by simp [upd]
theorem upd_ne (H : AH) {i j : Nat} (b : ABlk) (h : j ≠ i) : upd H i b j = H j := by simp [upd, h]
theorem upd_upd (H : AH) (i : Nat) (b c : ABlk) : upd (upd H i b) i c = upd H i c := by funext j; simp only [upd]; split <;> rfl

/-- What stands in a place's block. -/
def Held (base : Nat) (κ : Cx) (e : Ent) (cells : List AV) : Prop :=
  match e.blk with
  | none => cells = []
  | some b => base ≤ b ∧ ¬ κ.F b ∧ ∃ (vs rest : List Value) (T : TypeId), κ.W.heap[b]? = some (Obj.cells (vs ++ rest).toArray T (0, 0)) ∧
      (∀ v ∈ vs, v.oneCell' = true) ∧ Reps κ vs cells

/-- A variable of the program that stands below base: the powers of ten. -/
def tabG : Nat := 0
def tabCs : Array Value := (Go.Lib.pow10Tab.map fun z => Value.int .u64 z).toArray
def Tab (base : Nat) (W : World) : Prop := tabG < base ∧ ∃ T fz, W.heap[tabG]? = some (.cells tabCs T fz)
theorem Tab.keep {base : Nat} {W W' : World} (h : Tab base W) (k : ∀ b : Nat, b < base → W'.heap[b]? = W.heap[b]?) : Tab base W' :=
  ⟨h.1, by obtain ⟨T, fz, e⟩ := h.2; exact ⟨T, fz, (k _ h.1).trans e⟩⟩
theorem Tab.up {base base' : Nat} {W : World} (h : Tab base W) (k : base ≤ base') : Tab base' W := ⟨Nat.lt_of_lt_of_le h.1 k, h.2⟩
/-- The concrete state bears the abstract heap. -/
structure Inv (base : Nat) (κ : Cx) (H : AH) (nx : Nat) : Prop where
  hF : ∀ b, κ.F b → b < κ.W.heap.size
  hbase : base ≤ κ.W.heap.size
  hM : ∀ id, nx ≤ id → κ.M id = none
  live : ∀ id ver cells, H id = .live ver cells → ∃ e, κ.M id = some e ∧ e.ver = ver ∧ Held base κ e cells
  inj : ∀ i j ei ej b, i ≠ j → κ.M i = some ei → κ.M j = some ej → ei.blk = some b → ej.blk = some b → H i = .dead ∨ H j = .dead
  tab : Tab base κ.W

/-- Steps. -/
structure Ext (base : Nat) (κ κ' : Cx) : Prop where
  ev : Ev κ κ'
  os : κ'.W.os = κ.W.os
  tape : κ'.W.tape = κ.W.tape
  output : κ'.W.output = κ.W.output
  size : κ.W.heap.size ≤ κ'.W.heap.size
  below : ∀ b : Nat, b < base → κ'.W.heap[b]? = κ.W.heap[b]?
  newF : ∀ b, κ'.F b → κ.F b ∨ base ≤ b

theorem Ext.refl (base : Nat) (κ : Cx) : Ext base κ κ := ⟨.refl κ, rfl, rfl, rfl, Nat.le_refl _, fun _ _ => rfl, fun _ h => .inl h⟩
theorem Ext.trans {base : Nat} {a b c : Cx} (h : Ext base a b) (k : Ext base b c) : Ext base a c :=
  ⟨h.ev.trans k.ev, k.os.trans h.os, k.tape.trans h.tape, k.output.trans h.output, Nat.le_trans h.size k.size, fun x hx => (k.below x hx).trans (h.below x hx),
   fun x hx => (k.newF x hx).elim (fun h' => h.newF x h') .inr⟩

theorem Inv.live_lt {base nx : Nat} {κ : Cx} {H : AH} (h : Inv base κ H nx) {id ver : Nat} {cells : List AV} (hl : H id = .live ver cells) : id < nx := by
  rcases Nat.lt_or_ge id nx with h1 | h1
  · exact h1
  · obtain ⟨e, he, _⟩ := h.live id ver cells hl
    rw [h.hM id h1] at he
    cases he

/-- The state behind a new block. -/
def Cx.alloc (κ : Cx) (nx : Nat) (o : Obj) : Cx := { W := κ.W.alloc o, M := fun i => if i = nx then some ⟨0, some κ.W.heap.size⟩ else κ.M i, F := κ.F }
theorem heap_alloc_lt (w : World) (o : Obj) {b : Nat} (h : b < w.heap.size) : (w.alloc o).heap[b]? = w.heap[b]? := by
  show (w.heap.push o)[b]? = _
  rw [Array.getElem?_push, if_neg (by omega)]
theorem heap_alloc_at (w : World) (o : Obj) : (w.alloc o).heap[w.heap.size]? = some o := by
  show (w.heap.push o)[w.heap.size]? = _
  simp
theorem heap_some_lt {w : World} {b : Nat} {o : Obj} (h : w.heap[b]? = some o) : b < w.heap.size := (Array.getElem?_eq_some_iff.1 h).1
theorem Cx.alloc_ev {base nx : Nat} {κ : Cx} {H : AH} (hi : Inv base κ H nx) (o : Obj) : Ev κ (κ.alloc nx o) := by
  refine ⟨fun b hb => ⟨hb, heap_alloc_lt _ _ (hi.hF b hb)⟩, fun id e he => ⟨e, ?_, .inr rfl⟩, fun b cs T fz hb => ⟨cs, fz, ?_, rfl⟩⟩
  · have : id ≠ nx := fun h => by rw [h, hi.hM nx (Nat.le_refl _)] at he; cases he
    simp [Cx.alloc, this, he]
  · exact (heap_alloc_lt _ _ (heap_some_lt hb)).trans hb
theorem Cx.alloc_ext {base nx : Nat} {κ : Cx} {H : AH} (hi : Inv base κ H nx) (o : Obj) : Ext base κ (κ.alloc nx o) :=
  ⟨κ.alloc_ev hi o, rfl, rfl, rfl, by simp [Cx.alloc], fun b hb => heap_alloc_lt _ _ (Nat.lt_of_lt_of_le hb hi.hbase), fun _ h => .inl h⟩
theorem Held.ev {base : Nat} {κ κ' : Cx} {e : Ent} {cells : List AV} (h : Held base κ e cells) (hv : Ev κ κ') (hF : ∀ b, e.blk = some b → base ≤ b → ¬ κ.F b → ¬ κ'.F b)
    (hb : ∀ b, e.blk = some b → κ'.W.heap[b]? = κ.W.heap[b]?) : Held base κ' e cells := by
  unfold Held at *
  cases hq : e.blk with
  | none => rw [hq] at h; exact h
  | some b =>
    rw [hq] at h
    obtain ⟨h1, h2, vs, rest, T, h3, h4, h5⟩ := h
    exact ⟨h1, hF b hq h1 h2, vs, rest, T, (hb b hq).trans h3, h4, h5.ev hv⟩
theorem Held.lt {base : Nat} {κ : Cx} {e : Ent} {cells : List AV} (h : Held base κ e cells) {b : Nat} (hb : e.blk = some b) : b < κ.W.heap.size := by
  unfold Held at h
  rw [hb] at h
  obtain ⟨_, _, vs, rest, T, h3, _⟩ := h
  exact heap_some_lt h3

/-- A new abstract block. -/
theorem Inv.alloc {base nx : Nat} {κ : Cx} {H : AH} (hi : Inv base κ H nx) (vs rest : List Value) (T : TypeId) (cells : List AV) (h1 : ∀ v ∈ vs, v.oneCell' = true) (hr : Reps κ vs cells) :
    Inv base (κ.alloc nx (.cells (vs ++ rest).toArray T)) (upd H nx (.live 0 cells)) (nx + 1) := by
  have hev := κ.alloc_ev hi (.cells (vs ++ rest).toArray T)
  have hMne : ∀ id, id ≠ nx → (κ.alloc nx (.cells (vs ++ rest).toArray T)).M id = κ.M id := fun id h => by simp [Cx.alloc, h]
  have hMeq : (κ.alloc nx (.cells (vs ++ rest).toArray T)).M nx = some ⟨0, some κ.W.heap.size⟩ := by simp [Cx.alloc]
  refine ⟨fun b hb => ?_, ?_, fun id hid => ?_, fun id ver cs hl => ?_, fun i j ei ej b hij hi1 hj1 hib hjb => ?_, hi.tab.keep fun b hb => heap_alloc_lt _ _ (Nat.lt_of_lt_of_le hb hi.hbase)⟩
  · exact Nat.lt_of_lt_of_le (hi.hF b hb) (by simp [Cx.alloc])
  · exact Nat.le_trans hi.hbase (by simp [Cx.alloc])
  · rw [hMne id (by omega)]; exact hi.hM id (by omega)
  · by_cases hid : id = nx
    · subst hid
      rw [upd_same] at hl
      cases hl
      refine ⟨_, hMeq, rfl, ?_⟩
      refine ⟨hi.hbase, fun h => absurd (hi.hF _ h) (Nat.lt_irrefl _), vs, rest, T, heap_alloc_at _ _, h1, hr.ev hev⟩
    · rw [upd_ne _ _ hid] at hl
      obtain ⟨e, he, hv, hh⟩ := hi.live id ver cs hl
      refine ⟨e, by rw [hMne id hid]; exact he, hv, hh.ev hev (fun _ _ _ h => h) (fun b hb => heap_alloc_lt _ _ (hh.lt hb))⟩
  · -- one of them is new: its block is new
    by_cases hin : i = nx
    · subst hin
      have hjn : j ≠ i := Ne.symm hij
      rw [hMeq] at hi1
      cases hi1
      rw [hMne j hjn] at hj1
      right
      rw [upd_ne _ _ hjn]
      cases hH : H j with
      | dead => rfl
      | live ver cs =>
        obtain ⟨e, he, _, hh⟩ := hi.live j ver cs hH
        rw [hj1] at he
        cases he
        have := hh.lt hjb
        simp at hib
        omega
    · by_cases hjn : j = nx
      · subst hjn
        rw [hMeq] at hj1
        cases hj1
        rw [hMne i hin] at hi1
        left
        rw [upd_ne _ _ hin]
        cases hH : H i with
        | dead => rfl
        | live ver cs =>
          obtain ⟨e, he, _, hh⟩ := hi.live i ver cs hH
          rw [hi1] at he
          cases he
          have := hh.lt hib
          simp at hjb
          omega
      · rw [hMne i hin] at hi1
        rw [hMne j hjn] at hj1
        rw [upd_ne _ _ hin, upd_ne _ _ hjn]
        exact hi.inj i j ei ej b hij hi1 hj1 hib hjb

/-- A draw. -/
def Cx.drew (κ : Cx) : Cx := { κ with W := κ.W.drew }
theorem Ev.drew (κ : Cx) : Ev κ κ.drew := ⟨fun _ h => ⟨h, rfl⟩, fun _ e h => ⟨e, h, .inr rfl⟩, fun _ cs _ fz h => ⟨cs, fz, h, rfl⟩⟩
theorem Ext.drew (base : Nat) (κ : Cx) : Ext base κ κ.drew := ⟨.drew κ, rfl, rfl, rfl, Nat.le_refl _, fun _ _ => rfl, fun _ h => .inl h⟩
theorem Inv.drew {base nx : Nat} {κ : Cx} {H : AH} (hi : Inv base κ H nx) : Inv base κ.drew H nx :=
  ⟨hi.hF, hi.hbase, hi.hM, fun id ver cells hl => let ⟨e, he, hv, hh⟩ := hi.live id ver cells hl; ⟨e, he, hv, hh.ev (.drew κ) (fun _ _ _ h => h) (fun _ _ => rfl)⟩, hi.inj, hi.tab⟩

/-- A new block whose cells will not turn any more. -/
def Cx.allocF (κ : Cx) (o : Obj) : Cx := { W := κ.W.alloc o, M := κ.M, F := fun b => κ.F b ∨ b = κ.W.heap.size }
theorem Cx.allocF_ev {base nx : Nat} {κ : Cx} {H : AH} (hi : Inv base κ H nx) (o : Obj) : Ev κ (κ.allocF o) :=
  ⟨fun b hb => ⟨.inl hb, heap_alloc_lt _ _ (hi.hF b hb)⟩, fun _ e he => ⟨e, he, .inr rfl⟩, fun _ cs _ fz hb => ⟨cs, fz, (heap_alloc_lt _ _ (heap_some_lt hb)).trans hb, rfl⟩⟩
theorem Cx.allocF_ext {base nx : Nat} {κ : Cx} {H : AH} (hi : Inv base κ H nx) (o : Obj) : Ext base κ (κ.allocF o) :=
  ⟨κ.allocF_ev hi o, rfl, rfl, rfl, by simp [Cx.allocF], fun b hb => heap_alloc_lt _ _ (Nat.lt_of_lt_of_le hb hi.hbase),
   fun _ h => h.elim .inl (fun e => .inr (e ▸ hi.hbase))⟩
theorem Inv.allocF {base nx : Nat} {κ : Cx} {H : AH} (hi : Inv base κ H nx) (o : Obj) : Inv base (κ.allocF o) H nx := by
  refine ⟨fun b hb => ?_, Nat.le_trans hi.hbase (by simp [Cx.allocF]), hi.hM, fun id ver cells hl => ?_, hi.inj, hi.tab.keep fun b hb => heap_alloc_lt _ _ (Nat.lt_of_lt_of_le hb hi.hbase)⟩
  · rcases hb with hb | rfl
    · exact Nat.lt_of_lt_of_le (hi.hF b hb) (by simp [Cx.allocF])
    · simp [Cx.allocF]
  · obtain ⟨e, he, hv, hh⟩ := hi.live id ver cells hl
    exact ⟨e, he, hv, hh.ev (κ.allocF_ev hi o) (fun b hb _ h hc => hc.elim h (fun e => by have := hh.lt hb; omega)) (fun b hb => heap_alloc_lt _ _ (hh.lt hb))⟩

/-- The cells of a live block are written anew. -/
def Cx.setRow (κ : Cx) (b : Nat) (cs : Array Value) : Cx := { κ with W := κ.W.setRow b cs }
theorem setRow_ev {κ : Cx} {b : Nat} {old cs : Array Value} {T : TypeId} {fz : Nat × Nat} (hb : κ.W.heap[b]? = some (Obj.cells old T fz)) (hF : ¬ κ.F b) (hs : cs.size = old.size) : Ev κ (κ.setRow b cs) := by
  refine ⟨fun x hx => ⟨hx, setRow_other _ _ _ _ (fun e => hF (e ▸ hx))⟩, fun _ e he => ⟨e, he, .inr rfl⟩, fun x cs' T' fz' hx => ?_⟩
  by_cases hxb : x = b
  · subst hxb
    rw [hb] at hx
    cases hx
    exact ⟨cs, fz, setRow_heap _ _ _ _ _ _ hb, hs⟩
  · exact ⟨cs', fz', (setRow_other _ _ _ _ hxb).trans hx, rfl⟩
theorem setRow_ext {base : Nat} {κ : Cx} {b : Nat} {old cs : Array Value} {T : TypeId} {fz : Nat × Nat} (hb : κ.W.heap[b]? = some (Obj.cells old T fz)) (hF : ¬ κ.F b) (hs : cs.size = old.size) (hbase : base ≤ b) : Ext base κ (κ.setRow b cs) :=
  ⟨setRow_ev hb hF hs, rfl, rfl, rfl, by simp [Cx.setRow], fun x hx => setRow_other _ _ _ _ (by omega), fun _ h => .inl h⟩
theorem Inv.setRow {base nx : Nat} {κ : Cx} {H : AH} (hi : Inv base κ H nx) {id ver b : Nat} {cells cells' : List AV} (hl : H id = .live ver cells) (hm : κ.M id = some ⟨ver, some b⟩)
    {old : Array Value} {T : TypeId} (hb : κ.W.heap[b]? = some (Obj.cells old T (0, 0))) (hF : ¬ κ.F b) (vs rest : List Value) (hs : (vs ++ rest).length = old.size)
    (h1 : ∀ v ∈ vs, v.oneCell' = true) (hr : Reps κ vs cells') :
    Inv base (κ.setRow b (vs ++ rest).toArray) (upd H id (.live ver cells')) nx := by
  have hsz : (vs ++ rest).toArray.size = old.size := by simpa using hs
  have hev : Ev κ (κ.setRow b (vs ++ rest).toArray) := setRow_ev hb hF hsz
  have hbb : base ≤ b := by
    obtain ⟨e, he, _, hh⟩ := hi.live id ver cells hl
    rw [hm] at he
    cases he
    exact hh.1
  refine ⟨fun x hx => ?_, ?_, hi.hM, fun j vj cj hj => ?_, fun i j ei ej x hij h1 h2 h3 h4 => ?_, hi.tab.keep fun x hx => setRow_other _ _ _ _ (by omega)⟩
  · simpa [Cx.setRow] using hi.hF x hx
  · simpa [Cx.setRow] using hi.hbase
  · by_cases hji : j = id
    · subst hji
      rw [upd_same] at hj
      cases hj
      exact ⟨_, hm, rfl, hbb, hF, vs, rest, T, setRow_heap _ _ _ _ _ _ hb, h1, hr.ev hev⟩
    · rw [upd_ne _ _ hji] at hj
      obtain ⟨e, he, hv, hh⟩ := hi.live j vj cj hj
      refine ⟨e, he, hv, hh.ev hev (fun _ _ _ h => h) (fun x hx => setRow_other _ _ _ _ (fun e' => ?_))⟩
      subst e'
      rcases hi.inj j id e _ x hji he hm hx rfl with h | h
      · rw [h] at hj; cases hj
      · rw [h] at hl; cases hl
  · have := hi.inj i j ei ej x hij h1 h2 h3 h4
    by_cases hii : i = id
    · subst hii
      rcases this with h | h
      · rw [h] at hl; cases hl
      · right; rw [upd_ne _ _ (Ne.symm hij)]; exact h
    · by_cases hjj : j = id
      · subst hjj
        rcases this with h | h
        · left; rw [upd_ne _ _ hij]; exact h
        · rw [h] at hl; cases hl
      · rw [upd_ne _ _ hii, upd_ne _ _ hjj]; exact this

/-- A block moves: the place gets a new number of the version. -/
def Cx.move (κ : Cx) (id ver : Nat) (b : Option Nat) : Cx := { κ with M := fun i => if i = id then some ⟨ver + 1, b⟩ else κ.M i }
theorem move_ev {κ : Cx} {id ver : Nat} {b b' : Option Nat} (h : κ.M id = some ⟨ver, b⟩) : Ev κ (κ.move id ver b') := by
  refine ⟨fun _ h => ⟨h, rfl⟩, fun i e he => ?_, fun _ cs _ fz h => ⟨cs, fz, h, rfl⟩⟩
  by_cases hi : i = id
  · subst hi
    rw [h] at he
    cases he
    exact ⟨⟨ver + 1, b'⟩, by simp [Cx.move], .inl (Nat.lt_succ_self _)⟩
  · exact ⟨e, by simp [Cx.move, hi, he], .inr rfl⟩
theorem move_ext {base : Nat} {κ : Cx} {id ver : Nat} {b b' : Option Nat} (h : κ.M id = some ⟨ver, b⟩) : Ext base κ (κ.move id ver b') :=
  ⟨move_ev h, rfl, rfl, rfl, Nat.le_refl _, fun _ _ => rfl, fun _ h => .inl h⟩

/-- What a place's block becomes. 'hfresh': the block is the old one, or belongs to no place that lives. -/
theorem Inv.move {base nx : Nat} {κ : Cx} {H : AH} (hi : Inv base κ H nx) {id ver : Nat} {b b' : Option Nat} {cells cells' : List AV} (hl : H id = .live ver cells) (hm : κ.M id = some ⟨ver, b⟩)
    (hh' : Held base (κ.move id ver b') ⟨ver + 1, b'⟩ cells') (hfresh : ∀ j e x, j ≠ id → κ.M j = some e → e.blk = some x → b' = some x → H j = .dead) :
    Inv base (κ.move id ver b') (upd H id (.live (ver + 1) cells')) nx := by
  have hlt := hi.live_lt hl
  refine ⟨hi.hF, hi.hbase, fun i h => ?_, fun j vj cj hj => ?_, fun i j ei ej x hij h1 h2 h3 h4 => ?_, hi.tab⟩
  · have : i ≠ id := by omega
    simp [Cx.move, this, hi.hM i h]
  · by_cases hji : j = id
    · subst hji
      rw [upd_same] at hj
      cases hj
      exact ⟨⟨ver + 1, b'⟩, by simp [Cx.move], rfl, hh'⟩
    · rw [upd_ne _ _ hji] at hj
      obtain ⟨e, he, hv, hh⟩ := hi.live j vj cj hj
      exact ⟨e, by simp [Cx.move, hji, he], hv, hh.ev (move_ev hm) (fun _ _ _ h => h) (fun _ _ => rfl)⟩
  · by_cases hii : i = id
    · subst hii
      have hji : j ≠ i := Ne.symm hij
      simp [Cx.move] at h1
      subst h1
      simp [Cx.move, hji] at h2
      right
      rw [upd_ne _ _ hji]
      exact hfresh j ej x hji h2 h4 h3
    · by_cases hjj : j = id
      · subst hjj
        simp [Cx.move] at h2
        subst h2
        simp [Cx.move, hii] at h1
        left
        rw [upd_ne _ _ hii]
        exact hfresh i ei x hii h1 h3 h4
      · simp [Cx.move, hii] at h1
        simp [Cx.move, hjj] at h2
        rw [upd_ne _ _ hii, upd_ne _ _ hjj]
        exact hi.inj i j ei ej x hij h1 h2 h3 h4

/-- What is known may be forgotten. -/
theorem Inv.sub {base nx : Nat} {κ : Cx} {H H' : AH} (hi : Inv base κ H nx) (h : ∀ i, H' i = H i ∨ H' i = .dead) : Inv base κ H' nx := by
  refine ⟨hi.hF, hi.hbase, hi.hM, fun id ver cells hl => ?_, fun i j ei ej b hij h1 h2 h3 h4 => ?_, hi.tab⟩
  · rcases h id with h' | h'
    · exact hi.live id ver cells (h' ▸ hl)
    · rw [h'] at hl; cases hl
  · rcases h i with hi' | hi'
    · rcases h j with hj' | hj'
      · rw [hi', hj']; exact hi.inj i j ei ej b hij h1 h2 h3 h4
      · exact .inr hj'
    · exact .inl hi'
end Go.TH

/-
  TH, part 2: operations that leave the world alone: what they answer on abstract values.
-/
set_option linter.unusedVariables false
namespace Go.TH
open Go

/-! ### Types, asked once -/
def tyAS (P : Program) (t : TypeId) : Option (Bool × Nat) :=
  match P.underlying t, P.info? t with
  | some d, some i => some (d.isRow, i.size)
  | _, _ => none
def tySl (P : Program) (t : TypeId) : Option (TypeId × Nat × Nat) :=
  match P.underlying t with
  | some (.slice e) => (P.info? e).map fun i => (e, i.size, i.bytes)
  | _ => none
def tyInt (P : Program) (t : TypeId) : Option IntKind :=
  match P.underlying t with
  | some (.int k) => some k
  | _ => none
def tyStr (P : Program) (t : TypeId) : Bool :=
  match P.underlying t with
  | some .string => true
  | _ => false
def tyBool (P : Program) (t : TypeId) : Bool :=
  match P.underlying t with
  | some .bool => true
  | _ => false
/-- A field: where it begins, how many cells, an aggregate? -/
def tyFld (P : Program) (t : TypeId) (j : Nat) : Option (Nat × Nat × Bool) :=
  match P.underlying t with
  | some (.struct fs) =>
    match fs[j]? with
    | some f =>
      match tyAS P f.type with
      | some (g, n) => if n = 0 then none else some (f.offset, n, g)
      | none => none
    | none => none
  | _ => none

def cst1 : Value → AV
  | .int k n => .int k n
  | .bool b => .bool b
  | .string s => .str s
  | .slice none 0 0 => .sl 0 true []
  | .pointer none => .nilp
  | _ => .junk
def cstA : Value → AV
  | .agg cs => if cs.all (·.oneCell') then .agg (cs.toList.map cst1) else .junk
  | v => cst1 v
theorem cst1_rep (κ : Cx) (v : Value) : Rep κ.W κ.M κ.F v (cst1 v) := by
  unfold cst1
  split
  · exact .int _ _
  · exact .bool _
  · exact .str _
  · exact .sl0 _ _ _ _ (Nat.le_refl _) (fun _ => rfl)
  · exact .nilp
  · exact .junk _
theorem cst_reps (κ : Cx) (vs : List Value) : Reps κ vs (vs.map cst1) := by
  refine ⟨by simp, fun j v a h1 h2 => ?_⟩
  rw [List.getElem?_map, h1] at h2
  cases h2
  exact cst1_rep κ v
theorem cstA_rep (κ : Cx) (v : Value) : Rep κ.W κ.M κ.F v (cstA v) := by
  unfold cstA
  split
  · rename_i cs
    split
    · rename_i hc
      have := Rep.agg (W := κ.W) (M := κ.M) (F := κ.F) cs.toList (cs.toList.map cst1) (by simp) (fun v hv => by
        have := (Array.all_eq_true_iff_forall_mem.1 hc) v (by simpa using hv)
        exact this) (cst_reps κ _).2
      simpa using this
    · exact .junk _
  · exact cst1_rep κ _

/-- The zero value's cells. -/
def tyZ (P : Program) (t : TypeId) : Option (List AV) :=
  match P.info? t with
  | some i =>
    match i.zero with
    | some z => if z.cells.all (·.oneCell') && z.cells.size == i.size then some (z.cells.toList.map cst1) else none
    | none => none
  | none => none

/-- The fields' places. -/
def tyFs (P : Program) (t : TypeId) : Option (List (Nat × Nat)) :=
  match P.underlying t with
  | some (.struct fields) => fields.toList.mapM (fun f => (P.info? f.type).map fun i => (f.offset, i.size))
  | _ => none

/-- A value's cells. -/
def cellsA (H : AH) : AV → Option (List AV)
  | .agg cs => some cs
  | .junk => none
  | .tup _ => none
  | .ptr id ver off => (match H id with | .live v _ => if v = ver then some [.ptr id ver off] else none | .dead => none)
  | .msl id ver sz off n => (match H id with | .live v _ => if v = ver then some [.msl id ver sz off n] else none | .dead => none)
  | a => some [a]

/-! ### Equality of structs -/
inductive LK where
  | int (k : IntKind)
  | bool
  | str
def leafFs (leaf : TypeId → Option (List LK)) (size : TypeId → Nat) : List Field → Nat → Option (List LK)
  | [], _ => some []
  | f :: fs, off =>
    if f.name = "_" then none else
    if f.offset ≠ off ∨ size f.type = 0 then none else
    match leaf f.type, leafFs leaf size fs (off + size f.type) with
    | some a, some b => if a.length = size f.type then some (a ++ b) else none
    | _, _ => none
def leafK (P : Program) : Nat → TypeId → Option (List LK)
  | 0, _ => none
  | d + 1, t =>
    match P.underlying t with
    | some .bool => some [.bool]
    | some (.int k) => some [.int k]
    | some .string => some [.str]
    | some (.struct fs) => if P.stoodInHeld t then none else leafFs (leafK P d) (P.cellsOf ·) fs.toList 0
    | _ => none
/-- The kinds of a struct's cells, where '==' asks just these. -/
def tyEq (P : Program) (t : TypeId) : Option (List LK) :=
  match P.underlying t with
  | some (.struct _) => if P.eqGuardType P.depth t then none else leafK P 20 t
  | _ => none
def eq1 : LK → AV → AV → Option Bool
  | .int k, .int k1 a, .int k2 b => if k1 = k ∧ k2 = k then some (a == b) else none
  | .bool, .bool a, .bool b => some (a == b)
  | .str, .str a, .str b => some (decide (a = b))
  | _, _, _ => none
def eqL : List LK → List AV → List AV → Option Bool
  | [], [], [] => some true
  | k :: ls, x :: xs, y :: ys => (match eq1 k x y, eqL ls xs ys with | some a, some b => some (a && b) | _, _ => none)
  | _, _, _ => none

/-! ### Whole numbers, texts -/
def intBin (op : BinOp) (k : IntKind) (a b : Int) : Option (Prop × AV) :=
  match op with
  | .add => some (True, .int k (k.wrap (a + b)))
  | .sub => some (True, .int k (k.wrap (a - b)))
  | .mul => some (True, .int k (k.wrap (a * b)))
  | .quo => some (b ≠ 0, .int k (k.wrap (a.tdiv b)))
  | .rem => some (b ≠ 0, .int k (a.tmod b))
  | .and => some (True, .int k (k.wrap ((BitVec.ofInt k.bits a &&& BitVec.ofInt k.bits b).toNat)))
  | .or => some (True, .int k (k.wrap ((BitVec.ofInt k.bits a ||| BitVec.ofInt k.bits b).toNat)))
  | .xor => some (True, .int k (k.wrap ((BitVec.ofInt k.bits a ^^^ BitVec.ofInt k.bits b).toNat)))
  | .eql => some (True, .bool (a == b))
  | .neq => some (True, .bool (a != b))
  | .lss => some (True, .bool (decide (a < b)))
  | .leq => some (True, .bool (decide (a ≤ b)))
  | .gtr => some (True, .bool (decide (b < a)))
  | .geq => some (True, .bool (decide (b ≤ a)))
  | _ => none
def shiftA (op : BinOp) (k : IntKind) (a b : Int) : Option (Prop × AV) :=
  match op with
  | .shl => some (0 ≤ b, .int k (k.wrap (a * 2 ^ (min b.toNat k.bits))))
  | .shr => some (0 ≤ b, .int k (a.fdiv (2 ^ (min b.toNat k.bits))))
  | _ => none
def strBin (op : BinOp) (a b : ByteArray) : Option (Prop × AV) :=
  match op with
  | .add => some ((a.size : Int) + b.size ≤ 9223372036854775807, .str (a ++ b))
  | .eql => some (True, .bool (decide (a = b)))
  | .neq => some (True, .bool (!decide (a = b)))
  | .lss => some (True, .bool (Op.bytesLess a.data.toList b.data.toList))
  | .leq => some (True, .bool (Op.bytesLess a.data.toList b.data.toList || decide (a = b)))
  | .gtr => some (True, .bool (!(Op.bytesLess a.data.toList b.data.toList || decide (a = b))))
  | .geq => some (True, .bool (!Op.bytesLess a.data.toList b.data.toList))
  | _ => none
def isShift : BinOp → Bool
  | .shl | .shr => true
  | _ => false
def binA (P : Program) (op : BinOp) (t : TypeId) : AV → AV → Option (Prop × AV)
  | .int k a, .int k' b => if isShift op then shiftA op k a b else if k = k' then intBin op k a b else none
  | .str a, .str b => strBin op a b
  | .bool a, .bool b => if tyBool P t then (match op with | .eql => some (True, .bool (a == b)) | .neq => some (True, .bool (!(a == b))) | _ => none) else none
  | .agg xs, .agg ys =>
    match tyEq P t with
    | some ls => match eqL ls xs ys with
      | some r => (match op with | .eql => some (True, .bool r) | .neq => some (True, .bool (!r)) | _ => none)
      | none => none
    | none => none
  | _, _ => none
def unA (op : UnOp) : AV → Option (Prop × AV)
  | .int k n => (match op with | .neg => some (True, .int k (k.wrap (0 - n))) | _ => none)
  | .bool b => (match op with | .not => some (True, .bool (!b)) | _ => none)
  | _ => none

/-! ### Is a slice nil: not known -/
def isNilC : Operand → Bool
  | .const (.slice none 0 0) => true
  | _ => false
def isEqN : BinOp → Bool
  | .eql => true
  | .neq => true
  | _ => false
def nilS (H : AH) (neg : Bool) : AV → Option (Prop × AV)
  | .sl _ _ cells => some (True, if 0 < cells.length then .bool neg else .unk)
  | .msl id ver _ _ n => (match H id with | .live v _ => some (v = ver, if 0 < n then .bool neg else .unk) | .dead => none)
  | _ => none
def isNeq : BinOp → Bool
  | .neq => true
  | _ => false
def binB (P : Program) (H : AH) (op : BinOp) (t : TypeId) (c : Bool) (x y : AV) : Option (Prop × AV) :=
  match c with
  | true => if isEqN op = true ∧ (tySl P t).isSome = true then nilS H (isNeq op) x else none
  | false => binA P op t x y

/-! ### Bytes -/
def isU8 : AV → Bool
  | .int .u8 _ => true
  | _ => false
def u8of : AV → UInt8
  | .int _ n => UInt8.ofNat n.toNat
  | _ => 0
def bytesA (cells : List AV) : ByteArray := ⟨(cells.map u8of).toArray⟩

/-- A slice that is read: how many elements, and its cells. -/
def rdSl (H : AH) : AV → Option (Nat × List AV)
  | .sl n _ cells => some (n, cells)
  | .msl id ver sz off n => match H id with
    | .live v cells => if v = ver then some (n, (cells.drop off).take (n * sz)) else none
    | .dead => none
  | _ => none

def optInt : Option AV → Option (Option Int)
  | none => some none
  | some (.int _ n) => some (some n)
  | _ => none

def sliceA (H : AH) (sz : Nat) (x : AV) (lo hi mx : Option Int) : Option (Prop × AV) :=
  match x with
  | .sl n t cells =>
    match mx with
    | none => some (0 ≤ lo.getD 0 ∧ lo.getD 0 ≤ hi.getD n ∧ hi.getD n ≤ n,
        .sl (hi.getD n - lo.getD 0).toNat (t && decide (hi.getD n = n)) ((cells.drop ((lo.getD 0).toNat * sz)).take ((hi.getD n - lo.getD 0).toNat * sz)))
    | some m =>
      match hi with
      | none => none
      | some h => some (0 ≤ lo.getD 0 ∧ lo.getD 0 ≤ h ∧ h ≤ m ∧ m ≤ n,
        .sl (h - lo.getD 0).toNat (decide (m = h)) ((cells.drop ((lo.getD 0).toNat * sz)).take ((h - lo.getD 0).toNat * sz)))
  | .msl id ver sz' off n =>
    match H id with
    | .dead => none
    | .live v _ =>
      match mx with
      | none => some (v = ver ∧ sz' = sz ∧ 0 ≤ lo.getD 0 ∧ lo.getD 0 ≤ hi.getD n ∧ hi.getD n ≤ n,
        .msl id ver sz' (off + (lo.getD 0).toNat * sz) (hi.getD n - lo.getD 0).toNat)
      | some m =>
        match hi with
        | none => none
        | some h => some (v = ver ∧ sz' = sz ∧ 0 ≤ lo.getD 0 ∧ lo.getD 0 ≤ h ∧ h ≤ m ∧ m ≤ n,
          .msl id ver sz' (off + (lo.getD 0).toNat * sz) (h - lo.getD 0).toNat)
  | _ => none
def sliceS (s : ByteArray) (lo hi : Option Int) : Option (Prop × AV) :=
  some (0 ≤ lo.getD 0 ∧ lo.getD 0 ≤ hi.getD s.size ∧ hi.getD s.size ≤ s.size, .str (s.extract (lo.getD 0).toNat (hi.getD s.size).toNat))

/-- Parts put into a struct. -/
def fillA (H : AH) (places : List (Nat × Nat)) (cells : List AV) : List (Nat × AV) → Option (List AV)
  | [] => some cells
  | (i, a) :: rest =>
    match places[i]?, cellsA H a with
    | some (off, size), some cs => if cs.length = size ∧ off + size ≤ cells.length then fillA H places (cells.take off ++ cs ++ cells.drop (off + size)) rest else none
    | _, _ => none

def loadA (cells : List AV) (off : Nat) : Bool × Nat → Prop × AV
  | (true, n) => (off + n ≤ cells.length, .agg ((cells.drop off).take n))
  | (false, _) => (off < cells.length, cells.getD off .junk)

def lenT (P : Program) (H : AH) (t : TypeId) : AV → Option (Prop × AV)
  | .str s => if tyStr P t then some (True, .int .i64 s.size) else none
  | .sl n _ _ => if (tySl P t).isSome then some (True, .int .i64 n) else none
  | .msl id ver _ _ n => if (tySl P t).isSome then (match H id with
    | .live v _ => some (v = ver, .int .i64 n)
    | .dead => none) else none
  | _ => none
def foldI (f : Int → Int → Int) (k : IntKind) : Int → List AV → Option Int
  | x, [] => some x
  | x, .int k' y :: r => if k' = k then foldI f k (f x y) r else none
  | _, _ => none
def builtA (P : Program) (H : AH) (b : Builtin) (argTypes : List TypeId) (args : List AV) : Option (Prop × AV) :=
  match b, argTypes, args with
  | .len, [t], [x] => lenT P H t x
  | .max, _, .int k x :: r => (foldI (fun a b => if b > a then b else a) k x r).map fun n => (True, .int k n)
  | .min, _, .int k x :: r => (foldI (fun a b => if b < a then b else a) k x r).map fun n => (True, .int k n)
  | _, _, _ => none

/-- OPERATIONS THAT LEAVE THE WORLD ALONE. -/
def qstep (P : Program) (E : Operand → AV) (H : AH) : Op → Option (Prop × AV)
  | .move x => some (True, E x)
  | .assign x => some (True, E x)
  | .pick c a b => (match E c with | .bool q => some (True, if q then E a else E b) | _ => none)
  | .build t parts => (match tyZ P t, tyFs P t with
      | some z, some places => (fillA H places z (parts.toList.map fun x => (x.1, E x.2))).map fun cs => (True, .agg cs)
      | _, _ => none)
  | .load t x => (match tyAS P t with
      | some s => (match E x with
          | .ro cells => some (loadA cells 0 s)
          | .ptr id ver off => (match H id with
              | .live v cells => some (v = ver ∧ (loadA cells off s).1, (loadA cells off s).2)
              | .dead => none)
          | _ => none)
      | none => none)
  | .nilCheck x => (match E x with
      | .ro cells => some (True, .ro cells)
      | .ptr id ver off => (match H id with
          | .live v _ => some (v = ver, .ptr id ver off)
          | .dead => none)
      | _ => none)
  | .binOp op t x y _ => binB P H op t (isNilC y) (E x) (E y)
  | .unOp op _ x => unA op (E x)
  | .convert src dst x => (match E x with
      | .int _ n => (match tyInt P dst with | some k => if (P.underlying src).isSome then some (True, .int k (k.wrap n)) else none | none => none)
      | .str s => if tyStr P dst ∧ (P.underlying src).isSome then some (True, .str s) else none
      | a => (match tySl P src with
          | some (e, _, _) => if tyInt P e = some .u8 ∧ tyStr P dst = true then (match rdSl H a with
              | some (n, cells) => some (n ≤ cells.length ∧ (cells.take n).all isU8 = true, .str (bytesA (cells.take n)))
              | none => none) else none
          | none => none))
  | .makeFunc (.func f) first captured => if first.size = 0 then some (True, .fn f (captured.toList.map E)) else if captured.size = 0 then some (True, .bfn f (first.toList.map E)) else none
  | .slice t x lo hi mx => (match optInt (lo.map E), optInt (hi.map E), optInt (mx.map E) with
      | some l, some h, some m => (match E x with
          | .str s => if tyStr P t ∧ m = none then sliceS s l h else none
          | a => (match tySl P t with | some (_, sz, _) => sliceA H sz a l h m | none => none))
      | _, _, _ => none)
  | .fieldAddr t x j => (match tyFld P t j with
      | some (off, _, _) => (match E x with
          | .ro cells => some (True, .ro (cells.drop off))
          | .ptr id ver o => (match H id with
              | .live v _ => some (v = ver, .ptr id ver (o + off))
              | .dead => none)
          | _ => none)
      | none => none)
  | .field t x j => (match tyFld P t j with
      | some (off, n, g) => (match E x with | .agg cells => some (loadA cells off (g, n)) | _ => none)
      | none => none)
  | .indexAddr t x i => (match tySl P t, E i with
      | some (_, sz, _), .int _ k => (match E x with
          | .sl n _ cells => some (0 ≤ k ∧ k < n ∧ k.toNat * sz < cells.length, .ro (cells.drop (k.toNat * sz)))
          | .msl id ver sz' off n => (match H id with
              | .live v cells => some (v = ver ∧ sz' = sz ∧ 0 ≤ k ∧ k < n, .ptr id ver (off + k.toNat * sz))
              | .dead => none)
          | _ => none)
      | _, _ => none)
  | .index t x i => (match E x, E i with
      | .str s, .int _ k => if tyStr P t then some (0 ≤ k ∧ k < s.size, .int .u8 ((s.data.toList.getD k.toNat 0).toNat)) else none
      | _, _ => none)
  | .extract x j => (match E x with | .tup as => some (j < as.length, as.getD j .junk) | _ => none)
  | .call c => (match c.callee with
      | .builtin b => builtA P H b c.argTypes.toList (c.args.toList.map E)
      | _ => none)
  | _ => none
end Go.TH

/-
  TH, part 3: the operations of part 2 are what the model does.
-/
set_option linter.unusedVariables false
set_option linter.unusedSimpArgs false
namespace Go.TH
open Go

section inv
variable {W : World} {M : Nat → Option Ent} {F : Nat → Prop} {v : Value}
theorem Rep.int_inv {k : IntKind} {n : Int} (h : Rep W M F v (.int k n)) : v = .int k n := by cases h; rfl
theorem Rep.bool_inv {b : Bool} (h : Rep W M F v (.bool b)) : v = .bool b := by cases h; rfl
theorem Rep.str_inv {s : ByteArray} (h : Rep W M F v (.str s)) : v = .string s := by cases h; rfl
theorem Rep.agg_inv {cells : List AV} (h : Rep W M F v (.agg cells)) : ∃ vs : List Value, v = .agg vs.toArray ∧ (∀ x ∈ vs, x.oneCell' = true) ∧ Reps ⟨W, M, F⟩ vs cells := by
  cases h with
  | agg vs cells hl h1 hr => exact ⟨vs, rfl, h1, hl, hr⟩
theorem Rep.tup_inv {as : List AV} (h : Rep W M F v (.tup as)) : ∃ vs : List Value, v = .tuple vs.toArray ∧ Reps ⟨W, M, F⟩ vs as := by
  cases h with
  | tup vs as hl hr => exact ⟨vs, rfl, hl, hr⟩
theorem Rep.fn_inv {f : FuncId} {as : List AV} (h : Rep W M F v (.fn f as)) : ∃ vs : List Value, v = .func (.func f) #[] vs.toArray ∧ Reps ⟨W, M, F⟩ vs as := by
  cases h with
  | fn f vs as hl hr => exact ⟨vs, rfl, hl, hr⟩
theorem Rep.bfn_inv {f : FuncId} {as : List AV} (h : Rep W M F v (.bfn f as)) : ∃ vs : List Value, v = .func (.func f) vs.toArray #[] ∧ Reps ⟨W, M, F⟩ vs as := by
  cases h with
  | bfn f vs as hl hr => exact ⟨vs, rfl, hl, hr⟩
end inv

/-- Cells that can be read from an address on. -/
def CellsAt (κ : Cx) (ad : Addr) (vs : List Value) : Prop := ad.spot = none ∧ ∀ (j : Nat) (v : Value), vs[j]? = some v → κ.W.cell? (ad.add j) = some v ∧ v.oneCell' = true
theorem add_add (ad : Addr) (hs : ad.spot = none) (i j : Nat) : (ad.add i).add j = ad.add (i + j) := by
  obtain ⟨b, o, s⟩ := ad
  simp only at hs
  subst hs
  unfold Addr.add
  by_cases hi : i = 0 <;> by_cases hj : j = 0 <;> simp [hi, hj]; omega
theorem add_spot (ad : Addr) (hs : ad.spot = none) (i : Nat) : (ad.add i).spot = none := by unfold Addr.add; split <;> simp_all
theorem add_lit (b o j : Nat) : (⟨b, o, none⟩ : Addr).add j = ⟨b, o + j, none⟩ := by unfold Addr.add; split <;> simp_all
theorem add_zero (ad : Addr) : ad.add 0 = ad := by simp [Addr.add]
theorem CellsAt.drop {κ : Cx} {ad : Addr} {vs : List Value} (h : CellsAt κ ad vs) (n : Nat) : CellsAt κ (ad.add n) (vs.drop n) := by
  refine ⟨add_spot ad h.1 n, fun j v hv => ?_⟩
  rw [add_add ad h.1]
  exact h.2 _ v (by simpa using hv)
theorem CellsAt.take {κ : Cx} {ad : Addr} {vs : List Value} (h : CellsAt κ ad vs) (n : Nat) : CellsAt κ ad (vs.take n) := by
  refine ⟨h.1, fun j v hv => h.2 j v ?_⟩
  rw [List.getElem?_take] at hv
  split at hv <;> simp_all
theorem CellsAt.one {κ : Cx} {ad : Addr} {vs : List Value} (h : CellsAt κ ad vs) : ∀ v ∈ vs, v.oneCell' = true := fun v hv => by
  obtain ⟨j, hj⟩ := List.mem_iff_getElem?.1 hv
  exact (h.2 j v hj).2

theorem Rep.ro_inv {κ : Cx} {v : Value} {cells : List AV} (h : Rep κ.W κ.M κ.F v (.ro cells)) : ∃ ad vs, v = .pointer (some ad) ∧ κ.F ad.block ∧ CellsAt κ ad vs ∧ Reps κ vs cells := by
  cases h with
  | ro ad cells vs hF hs hl hc hr => exact ⟨ad, vs, rfl, hF, ⟨hs, hc⟩, hl, hr⟩
theorem Rep.ro_mk {κ : Cx} {ad : Addr} {vs : List Value} {cells : List AV} (hF : κ.F ad.block) (hc : CellsAt κ ad vs) (hr : Reps κ vs cells) : Rep κ.W κ.M κ.F (.pointer (some ad)) (.ro cells) :=
  .ro ad cells vs hF hc.1 hr.1 hc.2 hr.2
theorem Rep.sl_inv {κ : Cx} {v : Value} {n : Nat} {t : Bool} {cells : List AV} (h : Rep κ.W κ.M κ.F v (.sl n t cells)) :
    ∃ A c, v = .slice A n c ∧ n ≤ c ∧ (t = true → c = n) ∧ ((cells = []) ∨ ∃ ad vs, A = some ad ∧ κ.F ad.block ∧ CellsAt κ ad vs ∧ Reps κ vs cells) := by
  cases h with
  | sl ad n c t cells vs hn ht hF hs hl hc hr => exact ⟨_, c, rfl, hn, ht, .inr ⟨ad, vs, rfl, hF, ⟨hs, hc⟩, hl, hr⟩⟩
  | sl0 A n c t hn ht => exact ⟨A, c, rfl, hn, ht, .inl rfl⟩
theorem Rep.sl_mk {κ : Cx} {A : Option Addr} {n c : Nat} {t : Bool} {cells : List AV} (hn : n ≤ c) (ht : t = true → c = n) (h : (cells = []) ∨ ∃ ad vs, A = some ad ∧ κ.F ad.block ∧ CellsAt κ ad vs ∧ Reps κ vs cells) :
    Rep κ.W κ.M κ.F (.slice A n c) (.sl n t cells) := by
  rcases h with rfl | ⟨ad, vs, rfl, hF, hc, hr⟩
  · exact .sl0 A n c t hn ht
  · exact .sl ad n c t cells vs hn ht hF hc.1 hr.1 hc.2 hr.2

/-- What a live place's block holds. -/
theorem Inv.place {base nx : Nat} {κ : Cx} {H : AH} (hi : Inv base κ H nx) {id ver b : Nat} {cells : List AV} (hl : H id = .live ver cells) (hm : κ.M id = some ⟨ver, some b⟩) :
    base ≤ b ∧ ¬ κ.F b ∧ ∃ (vs rest : List Value) (T : TypeId), κ.W.heap[b]? = some (Obj.cells (vs ++ rest).toArray T (0, 0)) ∧ (∀ v ∈ vs, v.oneCell' = true) ∧ Reps κ vs cells := by
  obtain ⟨e, he, hv, hh⟩ := hi.live id ver cells hl
  rw [hm] at he
  cases he
  exact hh
theorem Inv.ptr_inv {base nx : Nat} {κ : Cx} {H : AH} (hi : Inv base κ H nx) {id ver off : Nat} {cells : List AV} (hl : H id = .live ver cells) {v : Value} (h : Rep κ.W κ.M κ.F v (.ptr id ver off)) :
    ∃ b, v = .pointer (some ⟨b, off, none⟩) ∧ κ.M id = some ⟨ver, some b⟩ := by
  cases h with
  | ptr id ver off b h => exact ⟨b, rfl, h⟩
  | ptrOld v id ver off e h hv =>
    obtain ⟨e', he, hv', _⟩ := hi.live id ver cells hl
    rw [h] at he
    cases he
    omega
theorem Inv.msl_inv {base nx : Nat} {κ : Cx} {H : AH} (hi : Inv base κ H nx) {id ver sz off n : Nat} {cells : List AV} (hl : H id = .live ver cells) {v : Value} (h : Rep κ.W κ.M κ.F v (.msl id ver sz off n)) :
    (∃ b c cs T fz, v = .slice (some ⟨b, off, none⟩) n c ∧ κ.M id = some ⟨ver, some b⟩ ∧ n ≤ c ∧ κ.W.heap[b]? = some (Obj.cells cs T fz) ∧ off + c * sz ≤ cs.size) ∨
    (∃ A b, v = .slice A 0 0 ∧ κ.M id = some ⟨ver, b⟩ ∧ n = 0) := by
  cases h with
  | msl id ver sz off n c b cs T fz h hn hb hcap => exact .inl ⟨b, c, cs, T, fz, rfl, h, hn, hb, hcap⟩
  | mslNil A id ver sz off b h => exact .inr ⟨A, b, rfl, h, rfl⟩
  | mslOld v id ver sz off n e h hv =>
    obtain ⟨e', he, hv', _⟩ := hi.live id ver cells hl
    rw [h] at he
    cases he
    omega
theorem cellsAt_block {κ : Cx} {b : Nat} {vs rest : List Value} {T : TypeId} {fz : Nat × Nat} (hb : κ.W.heap[b]? = some (Obj.cells (vs ++ rest).toArray T fz)) (h1 : ∀ v ∈ vs, v.oneCell' = true) : CellsAt κ ⟨b, 0, none⟩ vs := by
  refine ⟨rfl, fun j v hv => ⟨?_, h1 v (List.mem_iff_getElem?.2 ⟨j, hv⟩)⟩⟩
  rw [add_lit]
  have hj : j < vs.length := (List.getElem?_eq_some_iff.1 hv).1
  simp [World.cell?, hb, List.getElem?_append_left hj, hv]
/-- The cells behind a live pointer. -/
theorem Inv.ptr_cells {base nx : Nat} {κ : Cx} {H : AH} (hi : Inv base κ H nx) {id ver off : Nat} {cells : List AV} (hl : H id = .live ver cells) {v : Value} (h : Rep κ.W κ.M κ.F v (.ptr id ver off)) :
    ∃ b vs, v = .pointer (some ⟨b, off, none⟩) ∧ CellsAt κ ⟨b, off, none⟩ (vs.drop off) ∧ Reps κ vs cells := by
  obtain ⟨b, rfl, hm⟩ := hi.ptr_inv hl h
  obtain ⟨_, _, vs, rest, T, hb, h1, hr⟩ := hi.place hl hm
  refine ⟨b, vs, rfl, ?_, hr⟩
  have := (cellsAt_block hb h1).drop off
  rwa [add_lit, Nat.zero_add] at this

theorem run_isAgg {P : Program} {t : TypeId} {d : TypeDesc} (h : P.underlying t = some d) (W : World) : (isAgg t).run P W = .ok d.isRow W := by
  unfold isAgg
  rw [Sem.run_bind, run_underlying h W]
  cases d <;> rfl
theorem tyAS_spec {P : Program} {t : TypeId} {g : Bool} {n : Nat} (h : tyAS P t = some (g, n)) : ∃ d i, P.underlying t = some d ∧ P.info? t = some i ∧ d.isRow = g ∧ i.size = n := by
  unfold tyAS at h
  split at h
  · rename_i d i h1 h2
    cases h
    exact ⟨d, i, h1, h2, rfl, rfl⟩
  · cases h
theorem tySl_spec {P : Program} {t e n m : Nat} (h : tySl P t = some (e, n, m)) : P.underlying t = some (.slice e) ∧ ∃ i, P.info? e = some i ∧ i.size = n ∧ i.bytes = m := by
  unfold tySl at h
  split at h
  · rename_i e' h1
    cases hi : P.info? e' with
    | none => rw [hi] at h; cases h
    | some i =>
      rw [hi] at h
      simp only [Option.map_some, Option.some.injEq, Prod.mk.injEq] at h
      obtain ⟨rfl, rfl, rfl⟩ := h
      exact ⟨h1, i, hi, rfl, rfl⟩
  · cases h
theorem tyInt_spec {P : Program} {t : TypeId} {k : IntKind} (h : tyInt P t = some k) : P.underlying t = some (.int k) := by
  unfold tyInt at h
  split at h
  · rename_i k' h1; cases h; exact h1
  · cases h
theorem tyStr_spec {P : Program} {t : TypeId} (h : tyStr P t = true) : P.underlying t = some .string := by
  unfold tyStr at h
  split at h
  · rename_i h1; exact h1
  · cases h
theorem tyBool_spec {P : Program} {t : TypeId} (h : tyBool P t = true) : P.underlying t = some .bool := by
  unfold tyBool at h
  split at h
  · rename_i h1; exact h1
  · cases h
theorem run_sizeOf {P : Program} {t : TypeId} {i : TypeInfo} (h : P.info? t = some i) (W : World) : (sizeOf t).run P W = .ok i.size W := by simp [sizeOf, typeInfo, h]

/-- What is read at an address. -/
theorem run_load_cells {P : Program} {t : TypeId} {g : Bool} {n : Nat} (ht : tyAS P t = some (g, n)) {κ : Cx} {ad : Addr} {vs : List Value} (hc : CellsAt κ ad vs) {cells : List AV} (hr : Reps κ vs cells)
    (hp : (loadA cells 0 (g, n)).1) : ∃ v, (loadVar t ad).run P κ.W = .ok v κ.W ∧ Rep κ.W κ.M κ.F v (loadA cells 0 (g, n)).2 := by
  obtain ⟨d, i, hd, hi, hg, hn⟩ := tyAS_spec ht
  cases g with
  | true =>
    simp only [loadA, Nat.zero_add, List.drop_zero] at hp ⊢
    have hl : (vs.take n).length = n := by rw [List.length_take, hr.1]; omega
    have hrun := run_loadCells_list (P := P) κ.W ad (vs.take n) (fun j v hv => ((hc.take n).2 j v hv).1)
    rw [hl] at hrun
    refine ⟨.agg (vs.take n).toArray, ?_, .agg _ _ (hr.take n).1 (hc.take n).one (hr.take n).2⟩
    simp [loadVar, Sem.run_bind, run_isAgg hd, hg, run_sizeOf hi, hn, hrun]
  | false =>
    simp only [loadA] at hp ⊢
    have h0 : cells[0]? = some (cells.getD 0 .junk) := by simp [List.getD, List.getElem?_eq_getElem hp]
    obtain ⟨v, hv, hrv⟩ := hr.at h0
    have := (hc.2 0 v hv).1
    rw [add_zero] at this
    refine ⟨v, ?_, hrv⟩
    simp [loadVar, Sem.run_bind, run_isAgg hd, hg, this]
theorem loadA_drop (cells : List AV) (off : Nat) (s : Bool × Nat) : (loadA cells off s).1 → (loadA (cells.drop off) 0 s).1 ∧ (loadA (cells.drop off) 0 s).2 = (loadA cells off s).2 := by
  obtain ⟨g, n⟩ := s
  cases g <;> simp only [loadA]
  · intro h
    refine ⟨by simp; omega, ?_⟩
    simp [List.getD, List.getElem?_drop]
  · intro h
    refine ⟨by simp; omega, ?_⟩
    simp

theorem tyFld_spec {P : Program} {t : TypeId} {j off n : Nat} {g : Bool} (h : tyFld P t j = some (off, n, g)) :
    ∃ (fs : Array Field) (f : Field), P.underlying t = some (.struct fs) ∧ fs[j]? = some f ∧ f.offset = off ∧ n ≠ 0 ∧ tyAS P f.type = some (g, n) := by
  unfold tyFld at h
  split at h
  · rename_i fs h1
    split at h
    · rename_i f h2
      split at h
      · rename_i g' n' h3
        split at h
        · cases h
        · rename_i hn
          cases h
          exact ⟨fs, f, h1, h2, rfl, hn, h3⟩
      · cases h
    · cases h
  · cases h
theorem run_fieldPlace {P : Program} {t : TypeId} {j off n : Nat} {g : Bool} (h : tyFld P t j = some (off, n, g)) (ad : Addr) (W : World) :
    (Instr.fieldAt t (.pointer (some ad)) j).run P W = .ok (.pointer (some (ad.add off))) W := by
  obtain ⟨fs, f, h1, h2, h3, h4, h5⟩ := tyFld_spec h
  obtain ⟨d, i, _, hi, _, hn⟩ := tyAS_spec h5
  subst h3
  have : i.size ≠ 0 := by omega
  simp [Instr.fieldAt, Sem.run_bind, run_underlying h1, h2, Instr.sureAddr, fieldPlace, run_sizeOf hi, this]
end Go.TH

/-
  TH, part 4: equality of structs; the quiet operations, one after the other.
-/
set_option linter.unusedVariables false
set_option linter.unusedSimpArgs false
namespace Go.TH
open Go

theorem beq_list_eq (a b : ByteArray) : (a.toList == b.toList) = decide (a = b) := by
  rw [ByteArray.toList_eq, ByteArray.toList_eq]
  obtain ⟨⟨x⟩⟩ := a
  obtain ⟨⟨y⟩⟩ := b
  by_cases h : x = y
  · subst h; simp
  · have : ¬ ((⟨⟨x⟩⟩ : ByteArray) = ⟨⟨y⟩⟩) := fun e => h (by injection e with e; injection e)
    simp [h]

theorem eqL_cons {k : LK} {ls : List LK} {xs ys : List AV} {r : Bool} (h : eqL (k :: ls) xs ys = some r) :
    ∃ x xs' y ys' a b, xs = x :: xs' ∧ ys = y :: ys' ∧ eq1 k x y = some a ∧ eqL ls xs' ys' = some b ∧ r = (a && b) := by
  cases xs with
  | nil => simp [eqL] at h
  | cons x xs =>
    cases ys with
    | nil => simp [eqL] at h
    | cons y ys =>
      simp only [eqL] at h
      split at h
      · rename_i a b h1 h2
        cases h
        exact ⟨x, xs, y, ys, a, b, rfl, rfl, h1, h2, rfl⟩
      · cases h
theorem eqL_append : ∀ (a b : List LK) (xs ys : List AV) (r : Bool), eqL (a ++ b) xs ys = some r →
    ∃ r1 r2, eqL a (xs.take a.length) (ys.take a.length) = some r1 ∧ eqL b (xs.drop a.length) (ys.drop a.length) = some r2 ∧ r = (r1 && r2)
  | [], b, xs, ys, r, h => ⟨true, r, by simp [eqL], by simpa using h, by simp⟩
  | k :: a, b, xs, ys, r, h => by
    obtain ⟨x, xs', y, ys', p, q, rfl, rfl, h1, h2, rfl⟩ := eqL_cons (by simpa using h)
    obtain ⟨r1, r2, e1, e2, rfl⟩ := eqL_append a b xs' ys' q h2
    exact ⟨p && r1, r2, by simp [eqL, h1, e1], by simpa using e2, by simp [Bool.and_assoc]⟩
theorem eqL_len : ∀ (ls : List LK) (xs ys : List AV) (r : Bool), eqL ls xs ys = some r → xs.length = ls.length ∧ ys.length = ls.length
  | [], xs, ys, r, h => by
    cases xs <;> cases ys <;> simp_all [eqL]
  | k :: ls, xs, ys, r, h => by
    obtain ⟨x, xs', y, ys', p, q, rfl, rfl, h1, h2, rfl⟩ := eqL_cons h
    have := eqL_len ls xs' ys' q h2
    simp [this.1, this.2]
theorem eqL_one {k : LK} {xs ys : List AV} {r : Bool} (h : eqL [k] xs ys = some r) : ∃ x y, xs = [x] ∧ ys = [y] ∧ eq1 k x y = some r := by
  obtain ⟨x, xs', y, ys', p, q, rfl, rfl, h1, h2, rfl⟩ := eqL_cons h
  have hl := eqL_len _ _ _ _ h2
  have e1 : xs' = [] := List.eq_nil_of_length_eq_zero hl.1
  have e2 : ys' = [] := List.eq_nil_of_length_eq_zero hl.2
  subst e1
  subst e2
  simp [eqL] at h2
  subst h2
  exact ⟨x, y, rfl, rfl, by simpa using h1⟩

theorem eq1_bool {x y : AV} {r : Bool} (h : eq1 .bool x y = some r) : ∃ a b, x = .bool a ∧ y = .bool b ∧ r = (a == b) := by
  unfold eq1 at h
  split at h
  · rename_i h1; cases h1
  · cases h; exact ⟨_, _, rfl, rfl, rfl⟩
  · rename_i h1; cases h1
  · cases h
theorem eq1_int {k : IntKind} {x y : AV} {r : Bool} (h : eq1 (.int k) x y = some r) : ∃ a b, x = .int k a ∧ y = .int k b ∧ r = (a == b) := by
  unfold eq1 at h
  split at h
  · rename_i k' k1 a k2 b h1
    split at h
    · rename_i h2
      cases h1
      obtain ⟨rfl, rfl⟩ := h2
      cases h
      exact ⟨a, b, rfl, rfl, rfl⟩
    · cases h
  · rename_i h1; cases h1
  · rename_i h1; cases h1
  · cases h
theorem eq1_str {x y : AV} {r : Bool} (h : eq1 .str x y = some r) : ∃ a b, x = .str a ∧ y = .str b ∧ r = decide (a = b) := by
  unfold eq1 at h
  split at h
  · rename_i h1; cases h1
  · rename_i h1; cases h1
  · cases h; exact ⟨_, _, rfl, rfl, rfl⟩
  · cases h

/-- A value out of its cells. -/
def pk (P : Program) (t : TypeId) (us : List Value) : Value :=
  match P.underlying t with
  | some (.struct _) => .agg us.toArray
  | _ => us.getD 0 undef

theorem info_of_underlying {P : Program} {t : TypeId} {d : TypeDesc} (h : P.underlying t = some d) : ∃ i, P.info? t = some i := by
  unfold Program.underlying at h
  cases hi : P.info? t with
  | none => rw [hi] at h; cases h
  | some i => exact ⟨i, rfl⟩

theorem run_part {P : Program} {t : TypeId} {d : TypeDesc} (hd : P.underlying t = some d) (hs : ∀ n e, d ≠ .array n e) (W : World) (us : List Value) (off : Nat) (hl : off + P.cellsOf t ≤ us.length) (hc : P.cellsOf t ≠ 0) :
    (part t us.toArray off).run P W = .ok (pk P t ((us.drop off).take (P.cellsOf t))) W := by
  obtain ⟨i, hi⟩ := info_of_underlying hd
  have hcell : P.cellsOf t = i.size := by simp [Program.cellsOf, hi]
  rw [hcell] at hl hc ⊢
  unfold part pk
  rw [hd]
  by_cases hst : ∃ fs, d = .struct fs
  · obtain ⟨fs, rfl⟩ := hst
    simp only [Sem.run_bind, run_isAgg hd, TypeDesc.isRow, Result.andThen_ok, if_true, run_sizeOf hi, Sem.run_pure]
    congr 2
    apply Array.ext'
    simp
  · have hrow : d.isRow = false := by
      cases d <;> first | rfl | (exfalso; exact hst ⟨_, rfl⟩) | (exfalso; exact hs _ _ rfl)
    have h0 : off < us.length := by omega
    simp only [Sem.run_bind, run_isAgg hd, hrow, Result.andThen_ok, Bool.false_eq_true, if_false, List.getElem?_toArray, List.getElem?_eq_getElem h0, Sem.run_pure]
    cases d <;> first
      | (exfalso; exact hst ⟨_, rfl⟩)
      | (simp only [List.getD, List.getElem?_take, List.getElem?_drop, Nat.add_zero, List.getElem?_eq_getElem h0, if_pos (Nat.pos_of_ne_zero hc), Option.getD_some])

theorem leafK_len {P : Program} {m : Nat} {t : TypeId} {ls : List LK} (h : leafK P (m + 1) t = some ls) : ∃ d, P.underlying t = some d ∧ (∀ n e, d ≠ .array n e) := by
  unfold leafK at h
  split at h
  · rename_i h1; exact ⟨_, h1, fun _ _ h => by cases h⟩
  · rename_i h1; exact ⟨_, h1, fun _ _ h => by cases h⟩
  · rename_i h1; exact ⟨_, h1, fun _ _ h => by cases h⟩
  · rename_i h1; exact ⟨_, h1, fun _ _ h => by cases h⟩
  · cases h

theorem eq_run {P : Program} : ∀ (m : Nat) (t : TypeId) (ls : List LK), leafK P m t = some ls → ∀ (d : Nat), m ≤ d → ∀ {κ : Cx} (us vs : List Value) (xs ys : List AV) (r : Bool), Reps κ us xs → Reps κ vs ys →
    eqL ls xs ys = some r → (Op.equalIn d t (pk P t us) (pk P t vs)).run P κ.W = .ok r κ.W
  | 0, t, ls, h, d, hd, κ, us, vs, xs, ys, r, hu, hv, he => by cases h
  | m + 1, t, ls, h, d, hd, κ, us, vs, xs, ys, r, hu, hv, he => by
    obtain ⟨d, rfl⟩ : ∃ k, d = k + 1 := ⟨d - 1, by omega⟩
    unfold leafK at h
    split at h
    · rename_i h1
      cases h
      obtain ⟨x, y, rfl, rfl, he1⟩ := eqL_one he
      obtain ⟨u, us', rfl, hru, hu'⟩ := hu.uncons
      obtain ⟨w, vs', rfl, hrv, hv'⟩ := hv.uncons
      obtain ⟨a, b, rfl, rfl, rfl⟩ := eq1_bool he1
      obtain rfl := hru.bool_inv
      obtain rfl := hrv.bool_inv
      simpa [pk, h1] using run_equalIn_bool' (P := P) κ.W d t a b h1
    · rename_i k h1
      cases h
      obtain ⟨x, y, rfl, rfl, he1⟩ := eqL_one he
      obtain ⟨u, us', rfl, hru, hu'⟩ := hu.uncons
      obtain ⟨w, vs', rfl, hrv, hv'⟩ := hv.uncons
      obtain ⟨a, b, rfl, rfl, rfl⟩ := eq1_int he1
      obtain rfl := hru.int_inv
      obtain rfl := hrv.int_inv
      simpa [pk, h1] using run_equalIn_int (P := P) κ.W d t _ _ a b h1
    · rename_i h1
      cases h
      obtain ⟨x, y, rfl, rfl, he1⟩ := eqL_one he
      obtain ⟨u, us', rfl, hru, hu'⟩ := hu.uncons
      obtain ⟨w, vs', rfl, hrv, hv'⟩ := hv.uncons
      obtain ⟨a, b, rfl, rfl, rfl⟩ := eq1_str he1
      obtain rfl := hru.str_inv
      obtain rfl := hrv.str_inv
      have := run_equalIn_string (P := P) κ.W d t a b h1
      rw [beq_list_eq] at this
      simpa [pk, h1] using this
    · rename_i fs h1
      split at h
      · cases h
      · rename_i hst
        have hf : P.fieldsOf t = fs := by simp [Program.fieldsOf, h1]
        have hagg := run_equalIn_agg (P := P) κ.W d t us.toArray vs.toArray (by rw [hf]; exact h1) (by simpa using hst)
        rw [hf] at hagg
        simp only [pk, h1]
        rw [hagg]
        have key : ∀ (l : List Field) (off : Nat) (ls : List LK) (r : Bool), leafFs (leafK P m) (P.cellsOf ·) l off = some ls → eqL ls (xs.drop off) (ys.drop off) = some r →
            (Op.eqFields d us.toArray vs.toArray l).run P κ.W = .ok r κ.W := by
          intro l
          induction l with
          | nil =>
            intro off ls r h he
            simp only [leafFs, Option.some.injEq] at h
            subst h
            have hl := eqL_len _ _ _ _ he
            rw [List.eq_nil_of_length_eq_zero hl.1, List.eq_nil_of_length_eq_zero hl.2] at he
            simp [eqL] at he
            subst he
            simp [Op.eqFields]
          | cons f l ih =>
            intro off ls r h he
            simp only [leafFs] at h
            split at h
            · cases h
            · rename_i hnm
              split at h
              · cases h
              · rename_i hoff
                have hc0 : P.cellsOf f.type ≠ 0 := fun h => hoff (.inr h)
                have hoff : f.offset = off := Decidable.byContradiction fun h => hoff (.inl h)
                split at h
                · rename_i a b ha hb
                  split at h
                  · rename_i hal
                    cases h
                    obtain ⟨r1, r2, e1, e2, rfl⟩ := eqL_append a b _ _ _ he
                    obtain ⟨m', rfl⟩ : ∃ k, m = k + 1 := by
                      cases m with
                      | zero => cases ha
                      | succ k => exact ⟨k, rfl⟩
                    obtain ⟨df, hdf, hna⟩ := leafK_len ha
                    have hlen := eqL_len _ _ _ _ e1
                    rw [hal] at e1 e2 hlen
                    have hux : off + P.cellsOf f.type ≤ us.length := by rw [hu.1]; have := hlen.1; simp at this; omega
                    have hvy : off + P.cellsOf f.type ≤ vs.length := by rw [hv.1]; have := hlen.2; simp at this; omega
                    have hp1 := run_part (P := P) hdf hna κ.W us off hux hc0
                    have hp2 := run_part (P := P) hdf hna κ.W vs off hvy hc0
                    have hee := eq_run (m' + 1) f.type a ha d (by omega) _ _ _ _ r1 ((hu.drop off).take (P.cellsOf f.type)) ((hv.drop off).take (P.cellsOf f.type)) e1
                    have hih := ih _ b r2 hb (by simpa [List.drop_drop] using e2)
                    simp only [Op.eqFields, if_pos (show f.name ≠ "_" from hnm), Sem.run_bind, hoff, hp1, hp2, hee, Result.andThen_ok]
                    cases r1
                    · simp
                    · simpa using hih
                  · cases h
                · cases h
        exact key fs.toList 0 ls r h (by simpa using he)
    · cases h
end Go.TH

/-
  TH, part 5: the quiet operations do in the model what part 2 says.
-/
set_option linter.unusedVariables false
set_option linter.unusedSimpArgs false
namespace Go.TH
open Go

/-- A value's cells, in the model. -/
theorem cellsA_spec {base nx : Nat} {κ : Cx} {H : AH} (hi : Inv base κ H nx) {v : Value} {a : AV} {cs : List AV} (h : cellsA H a = some cs) (hr : Rep κ.W κ.M κ.F v a) :
    ∃ us : List Value, v.cells = us.toArray ∧ (∀ u ∈ us, u.oneCell' = true) ∧ Reps κ us cs := by
  have one : ∀ {v a}, Rep κ.W κ.M κ.F v a → v.cells = #[v] → v.oneCell' = true → ∃ us : List Value, v.cells = us.toArray ∧ (∀ u ∈ us, u.oneCell' = true) ∧ Reps κ us [a] :=
    fun {v a} hr hc h1 => ⟨[v], hc, fun u hu => by simp at hu; subst hu; exact h1, (Reps.nil κ).cons hr⟩
  cases a with
  | int k n => cases h; obtain rfl := hr.int_inv; exact one hr rfl rfl
  | bool b => cases h; obtain rfl := hr.bool_inv; exact one hr rfl rfl
  | str s => cases h; obtain rfl := hr.str_inv; exact one hr rfl rfl
  | sl n t cells => cases h; obtain ⟨A, c, rfl, _⟩ := hr.sl_inv; exact one hr rfl rfl
  | ro cells => cases h; obtain ⟨ad, vs, rfl, _⟩ := hr.ro_inv; exact one hr rfl rfl
  | ptr id ver off =>
    simp only [cellsA] at h
    split at h
    · rename_i v' cells hl
      split at h
      · rename_i hv
        cases h
        subst hv
        obtain ⟨b, rfl, _⟩ := hi.ptr_inv hl hr
        exact one hr rfl rfl
      · cases h
    · cases h
  | msl id ver sz off n =>
    simp only [cellsA] at h
    split at h
    · rename_i v' cells hl
      split at h
      · rename_i hv
        cases h
        subst hv
        rcases hi.msl_inv hl hr with ⟨b, c, cs', T, fz, rfl, _⟩ | ⟨A, b, rfl, _⟩
        · exact one hr rfl rfl
        · exact one hr rfl rfl
      · cases h
    · cases h
  | agg cells => cases h; obtain ⟨vs, rfl, h1, hr'⟩ := hr.agg_inv; exact ⟨vs, rfl, h1, hr'⟩
  | tup vs => cases h
  | fn f cap => cases h; obtain ⟨vs, rfl, hr'⟩ := hr.fn_inv; exact one hr rfl rfl
  | bfn f cap => cases h; obtain ⟨vs, rfl, hr'⟩ := hr.bfn_inv; exact one hr rfl rfl
  | nilp => cases h; cases hr; exact one .nilp rfl rfl
  | unk =>
    cases h
    have hv : ∃ b, v = .bool b := by cases hr; exact ⟨_, rfl⟩
    obtain ⟨b, rfl⟩ := hv
    exact one hr rfl rfl
  | junk => cases h

theorem fold_zip (off : Nat) : ∀ (us : List Value) (k : Nat) (cells : Array Value), off + k + us.length ≤ cells.size →
    (us.zipIdx k).foldl (fun (cs : Array Value) (x : Value × Nat) => cs.setIfInBounds (off + x.2) x.1) cells = (cells.toList.take (off + k) ++ us ++ cells.toList.drop (off + k + us.length)).toArray
  | [], k, cells, h => by simp
  | u :: us, k, cells, h => by
    simp only [List.zipIdx_cons, List.foldl_cons]
    rw [fold_zip off us (k + 1) _ (by simp at h ⊢; omega)]
    have hk : off + k < cells.toList.length := by simp at h ⊢; omega
    have e1 : (cells.toList.set (off + k) u).take (off + (k + 1)) = cells.toList.take (off + k) ++ [u] := by
      rw [show off + (k + 1) = (off + k) + 1 by omega, List.take_succ_eq_append_getElem (by simpa using hk)]
      simp [List.take_set_of_le]
    have e2 : (cells.toList.set (off + k) u).drop (off + (k + 1) + us.length) = cells.toList.drop (off + k + (u :: us).length) := by
      rw [List.drop_set_of_lt (by omega)]
      congr 1
      simp
      omega
    simp only [Array.toList_setIfInBounds]
    rw [e1, e2]
    simp

theorem fill_spec {base nx : Nat} {κ : Cx} {H : AH} (hi : Inv base κ H nx) (places : List (Nat × Nat)) : ∀ (parts : List (Nat × AV)) (vparts : List (Nat × Value)) (cells r : List AV) (us : List Value),
    parts.length = vparts.length → (∀ (j : Nat) (p : Nat × AV) (q : Nat × Value), parts[j]? = some p → vparts[j]? = some q → p.1 = q.1 ∧ Rep κ.W κ.M κ.F q.2 p.2) → (∀ u ∈ us, u.oneCell' = true) → Reps κ us cells →
    fillA H places cells parts = some r → ∃ ws : List Value, Instr.fill (places.toArray[·]?) us.toArray vparts = some ws.toArray ∧ (∀ u ∈ ws, u.oneCell' = true) ∧ Reps κ ws r
  | [], vparts, cells, r, us, hl, hp, h1, hr, h => by
    cases vparts with
    | cons _ _ => simp at hl
    | nil => cases h; exact ⟨us, rfl, h1, hr⟩
  | (i, a) :: parts, vparts, cells, r, us, hl, hp, h1, hr, h => by
    cases vparts with
    | nil => simp at hl
    | cons q vparts =>
      obtain ⟨i', v⟩ := q
      obtain ⟨e1, hv⟩ := hp 0 (i, a) (i', v) rfl rfl
      simp only at e1 hv
      subst e1
      simp only [fillA] at h
      split at h
      · rename_i off size cs hpl hca
        split at h
        · rename_i hsz
          obtain ⟨us', hus, hone, hrs⟩ := cellsA_spec hi hca hv
          have hlen : us'.length = size := by rw [hrs.1]; exact hsz.1
          have hle : off + us'.length ≤ us.length := by rw [hr.1, hlen]; exact hsz.2
          have hr' : Reps κ (us.take off ++ us' ++ us.drop (off + size)) (cells.take off ++ cs ++ cells.drop (off + size)) := ((hr.take off).append hrs).append (hr.drop (off + size))
          obtain ⟨ws, hw, hw1, hw2⟩ := fill_spec hi places parts vparts _ r _ (by simpa using hl) (fun j p q hp1 hq1 => hp (j + 1) p q (by simpa using hp1) (by simpa using hq1))
            (fun u hu => by
              simp only [List.mem_append] at hu
              rcases hu with (hu | hu) | hu
              · exact h1 u (List.mem_of_mem_take hu)
              · exact hone u hu
              · exact h1 u (List.mem_of_mem_drop hu)) hr' h
          refine ⟨ws, ?_, hw1, hw2⟩
          rw [← hw]
          have hz := fold_zip off us' 0 us.toArray (by simpa using hle)
          simp only [Nat.add_zero] at hz
          simp only [Instr.fill, List.getElem?_toArray, hpl, hus, List.size_toArray, hlen]
          have hcond : (decide (size ≠ size) || decide (off + size > us.length)) = false := by
            simp
            omega
          rw [if_neg (by simp; omega)]
          congr 1
          rw [← hlen] at *
          rw [← hz]
          simp [← Array.foldl_toList]
        · cases h
      · cases h
end Go.TH

/-
  TH, part 6: the quiet operations are what the model does.
-/
set_option linter.unusedVariables false
set_option linter.unusedSimpArgs false
namespace Go.TH
open Go

/-- An operation that leaves the world alone answers this. -/
def QOk (P : Program) (o : Oper) (E : Operand → AV) (H : AH) (p : Prop) (r : AV) : Prop :=
  ∀ {base nx : Nat} {κ : Cx} {ρ : Operand → Value}, (∀ v, ρ (.const v) = v) → p → Inv base κ H nx → (∀ x ∈ o.op.operands.toList, Rep κ.W κ.M κ.F (ρ x) (E x)) →
    ∃ v, (execOp ρ o).run P κ.W = .ok (.value v) κ.W ∧ Rep κ.W κ.M κ.F v r

section
variable {P : Program} {o : Oper} {E : Operand → AV} {H : AH} {p : Prop} {r : AV}

theorem run_v {s : Sem Value} {W W' : World} {v : Value} (h : s.run P W = .ok v W') : (do pure (Next.value (← s)) : Sem Next).run P W = .ok (.value v) W' := by
  simp [Sem.run_bind, h]

theorem q_move {x : Operand} (ho : o.op = .move x) (h : qstep P E H o.op = some (p, r)) : QOk P o E H p r := by
  rw [ho] at h
  cases h
  intro base nx κ ρ hev hp hi hρ
  rw [ho] at hρ
  exact ⟨ρ x, by simp [execOp, ho], hρ x (by simp [Op.operands])⟩
theorem q_assign {x : Operand} (ho : o.op = .assign x) (h : qstep P E H o.op = some (p, r)) : QOk P o E H p r := by
  rw [ho] at h
  cases h
  intro base nx κ ρ hev hp hi hρ
  rw [ho] at hρ
  exact ⟨ρ x, by simp [execOp, ho], hρ x (by simp [Op.operands])⟩
theorem q_pick {c a b : Operand} (ho : o.op = .pick c a b) (h : qstep P E H o.op = some (p, r)) : QOk P o E H p r := by
  rw [ho] at h
  simp only [qstep] at h
  split at h
  · rename_i q hq
    cases h
    intro base nx κ ρ hev hp hi hρ
    rw [ho] at hρ
    have hc := hρ c (by simp [Op.operands])
    rw [hq] at hc
    have hc := hc.bool_inv
    refine ⟨if q then ρ a else ρ b, ?_, ?_⟩
    · cases q <;> simp [execOp, ho, hc, asBool, Sem.run_bind]
    · cases q
      · exact hρ b (by simp [Op.operands])
      · exact hρ a (by simp [Op.operands])
  · cases h
theorem q_build {t : TypeId} {parts : Array (Nat × Operand)} (ho : o.op = .build t parts) (h : qstep P E H o.op = some (p, r)) : QOk P o E H p r := by
  rw [ho] at h
  simp only [qstep] at h
  split at h
  · rename_i z places hz hpl
    cases hf : fillA H places z (parts.toList.map fun x => (x.1, E x.2)) with
    | none => rw [hf] at h; cases h
    | some cs =>
      rw [hf] at h
      cases h
      intro base nx κ ρ hev hp hi hρ
      rw [ho] at hρ
      unfold tyZ at hz
      split at hz
      · rename_i i hinfo
        split at hz
        · rename_i zv hzero
          split at hz
          · rename_i hall
            cases hz
            simp only [Bool.and_eq_true, beq_iff_eq] at hall
            unfold tyFs at hpl
            split at hpl
            · rename_i fields hu
              obtain ⟨ws, hw, hw1, hw2⟩ := fill_spec hi places (parts.toList.map fun x => (x.1, E x.2)) (parts.toList.map fun x => (x.1, ρ x.2)) _ cs zv.cells.toList (by simp)
                (fun j p q hp1 hq1 => by
                  rw [List.getElem?_map] at hp1 hq1
                  cases hj : parts.toList[j]? with
                  | none => rw [hj] at hp1; cases hp1
                  | some x =>
                    rw [hj] at hp1 hq1
                    cases hp1
                    cases hq1
                    exact ⟨rfl, hρ x.2 (by simp only [Op.operands, List.mem_map]; exact ⟨x, List.mem_of_getElem? hj, rfl⟩)⟩)
                (fun u hu => (Array.all_eq_true_iff_forall_mem.1 hall.1) u (by simpa using hu)) (cst_reps κ _) hf
              refine ⟨.agg ws.toArray, ?_, .agg _ _ hw2.1 hw1 hw2.2⟩
              have hb : P.built t (parts.map fun x => (x.1, ρ x.2)).toList = some ws.toArray := by
                unfold Program.built
                simp only [hinfo, hu, hzero, hpl]
                rw [← hw]
                simp
              have := run_build (P := P) κ.W t _ _ hb
              simp only [execOp, ho]
              exact run_v this
            · cases hpl
          · cases hz
        · cases hz
      · cases hz
  · cases h
theorem q_load {t : TypeId} {x : Operand} (ho : o.op = .load t x) (h : qstep P E H o.op = some (p, r)) : QOk P o E H p r := by
  rw [ho] at h
  simp only [qstep] at h
  split at h
  · rename_i s hs
    obtain ⟨g, n⟩ := s
    split at h
    · rename_i cells hx
      rw [Option.some.injEq] at h
      intro base nx κ ρ hev hp hi hρ
      rw [ho] at hρ
      have hx' := hρ x (by simp [Op.operands])
      rw [hx] at hx'
      obtain ⟨ad, vs, hv, _, hc, hr⟩ := hx'.ro_inv
      have h1 : (loadA cells 0 (g, n)).1 := by rw [h]; exact hp
      obtain ⟨v, hrun, hrep⟩ := run_load_cells hs hc hr h1
      rw [h] at hrep
      refine ⟨v, ?_, hrep⟩
      simp only [execOp, ho]
      exact run_v (by simp [Instr.loadAt, hv, Instr.sureAddr, Sem.run_bind, hrun])
    · rename_i id ver off hx
      split at h
      · rename_i ver' cells hl
        cases h
        intro base nx κ ρ hev hp hi hρ
        rw [ho] at hρ
        obtain ⟨rfl, hp⟩ := hp
        have hx' := hρ x (by simp [Op.operands])
        rw [hx] at hx'
        obtain ⟨b, vs, hv, hc, hr⟩ := hi.ptr_cells hl hx'
        have hd := loadA_drop cells off (g, n) hp
        obtain ⟨v, hrun, hrep⟩ := run_load_cells hs hc (hr.drop off) hd.1
        rw [hd.2] at hrep
        refine ⟨v, ?_, hrep⟩
        simp only [execOp, ho]
        exact run_v (by simp [Instr.loadAt, hv, Instr.sureAddr, Sem.run_bind, hrun])
      · cases h
    · cases h
  · cases h
theorem q_nilCheck {x : Operand} (ho : o.op = .nilCheck x) (h : qstep P E H o.op = some (p, r)) : QOk P o E H p r := by
  rw [ho] at h
  simp only [qstep] at h
  split at h
  · rename_i cells hx
    cases h
    intro base nx κ ρ hev hp hi hρ
    rw [ho] at hρ
    have hx' := hρ x (by simp [Op.operands])
    rw [hx] at hx'
    obtain ⟨ad, vs, hv, _, _, _⟩ := hx'.ro_inv
    exact ⟨ρ x, by simp [execOp, ho, hv], hx'⟩
  · rename_i id ver off hx
    split at h
    · rename_i ver' cells hl
      cases h
      intro base nx κ ρ hev hp hi hρ
      rw [ho] at hρ
      subst hp
      have hx' := hρ x (by simp [Op.operands])
      rw [hx] at hx'
      obtain ⟨b, hv, _⟩ := hi.ptr_inv hl hx'
      exact ⟨ρ x, by simp [execOp, ho, hv], hx'⟩
    · cases h
  · cases h
theorem run_eqGuard_int (op : BinOp) (t : TypeId) (x y : Operand) (k : IntKind) (a : Int) (v : Value) (W : World) : (eqGuard op t x y (.int k a) v).run P W = .ok () W := by cases op <;> simp [eqGuard]
theorem run_eqGuard_bool (op : BinOp) (t : TypeId) (x y : Operand) (a : Bool) (v : Value) (W : World) : (eqGuard op t x y (.bool a) v).run P W = .ok () W := by cases op <;> simp [eqGuard]
theorem run_eqGuard_str (op : BinOp) (t : TypeId) (x y : Operand) (a : ByteArray) (v : Value) (W : World) : (eqGuard op t x y (.string a) v).run P W = .ok () W := by cases op <;> simp [eqGuard]
def vOf : AV → Value
  | .int k n => .int k n
  | .bool b => .bool b
  | .str s => .string s
  | _ => undef
theorem run_shift {op : BinOp} {k yk : IntKind} {a b : Int} (h : shiftA op k a b = some (p, r)) (hp : p) (W : World) (t : TypeId) : ∃ v, (binOp op t (.int k a) (.int yk b)).run P W = .ok v W ∧ ∀ {M F}, Rep W M F v r := by
  unfold shiftA at h
  split at h
  · cases h
    exact ⟨vOf (.int k _), by simp [binOp, Op.shift, show ¬ (b < 0) from by omega, vOf], .int _ _⟩
  · cases h
    exact ⟨vOf (.int k _), by simp [binOp, Op.shift, show ¬ (b < 0) from by omega, vOf], .int _ _⟩
  · cases h
theorem run_intBin {op : BinOp} {k : IntKind} {a b : Int} (hs : isShift op = false) (h : intBin op k a b = some (p, r)) (hp : p) (W : World) (t : TypeId) : ∃ v, (binOp op t (.int k a) (.int k b)).run P W = .ok v W ∧ ∀ {M F}, Rep W M F v r := by
  refine ⟨vOf r, ?_, ?_⟩
  · cases op <;> simp only [intBin, isShift, Bool.true_eq_false, reduceCtorEq] at h hs <;> cases h <;>
      first
      | (simp [binOp, Op.intArith, Op.intDiv, Op.intBits, Op.intCmp, hp, vOf]; done)
      | (simp [binOp, Op.intArith, Op.intDiv, Op.intBits, Op.intCmp, vOf]; done)
  · intro M F
    cases op <;> simp only [intBin, isShift, Bool.true_eq_false, reduceCtorEq] at h hs <;> cases h <;> first | exact .int _ _ | exact .bool _
theorem run_strBin {op : BinOp} {a b : ByteArray} (h : strBin op a b = some (p, r)) (hp : p) (W : World) (t : TypeId) : ∃ v, (binOp op t (.string a) (.string b)).run P W = .ok v W ∧ ∀ {M F}, Rep W M F v r := by
  refine ⟨vOf r, ?_, ?_⟩
  · cases op <;> simp only [strBin, reduceCtorEq] at h <;> cases h <;>
      first
      | (have hm : IntKind.i64.max = 9223372036854775807 := by decide
         have hc : ¬ (((a.size + b.size : Nat) : Int) > IntKind.i64.max) := by rw [hm]; omega
         simp only [binOp, Op.stringOp, hc, if_false, vOf]
         rfl)
      | (simp only [binOp, Op.stringOp, beq_list_eq, vOf]
         (try simp only [ByteArray.toList_eq])
         rfl)
  · intro M F
    cases op <;> simp only [strBin, reduceCtorEq] at h <;> cases h <;> first | exact .str _ | exact .bool _
theorem q_binOp {op : BinOp} {t : TypeId} {x y : Operand} {yt : TypeId} (ho : o.op = .binOp op t x y yt) (h : qstep P E H o.op = some (p, r)) : QOk P o E H p r := by
  rw [ho] at h
  simp only [qstep] at h
  intro base nx κ ρ hev hp hi hρ
  rw [ho] at hρ
  have hx := hρ x (by simp [Op.operands])
  have hy := hρ y (by simp [Op.operands])
  have fin : ∀ v, (eqGuard op t x y (ρ x) (ρ y)).run P κ.W = .ok () κ.W → (binOp op t (ρ x) (ρ y)).run P κ.W = .ok v κ.W → (execOp ρ o).run P κ.W = .ok (.value v) κ.W := by
    intro v h1 h2
    simp only [execOp, ho]
    exact run_v (by simp [Sem.run_bind, h1, h2])
  cases hnc : isNilC y with
  | true =>
    rw [hnc] at h
    simp only [binB] at h
    split at h
    · rename_i hc
      obtain ⟨hop, hsl⟩ := hc
      obtain ⟨⟨e, a', b'⟩, he⟩ := Option.isSome_iff_exists.1 hsl
      have hu := (tySl_spec he).1
      have hyv : y = .const (.slice none 0 0) := by
        unfold isNilC at hnc
        split at hnc
        · rfl
        · cases hnc
      have hs : ∃ A n c, ρ x = .slice A n c ∧ (r = .unk ∨ (r = .bool (isNeq op) ∧ A.isNone = false)) := by
        unfold nilS at h
        split at h
        · rename_i n t' cs ex
          rw [ex] at hx
          obtain ⟨A, c, vx, _, _, hcl⟩ := hx.sl_inv
          simp only [Option.some.injEq, Prod.mk.injEq] at h
          obtain ⟨_, rfl⟩ := h
          refine ⟨A, n, c, vx, ?_⟩
          split
          · rename_i hlen
            rcases hcl with rfl | ⟨ad, vs, rfl, _⟩
            · simp at hlen
            · exact .inr ⟨rfl, rfl⟩
          · exact .inl rfl
        · rename_i id ver q1 q2 n ex
          rw [ex] at hx
          split at h
          · rename_i v cells hl
            simp only [Option.some.injEq, Prod.mk.injEq] at h
            obtain ⟨rfl, rfl⟩ := h
            subst hp
            rcases hi.msl_inv hl hx with ⟨b, c', cs, T, fz, vd, _⟩ | ⟨A, b0, vd, _, hn⟩
            · refine ⟨_, _, _, vd, ?_⟩
              split
              · exact .inr ⟨rfl, rfl⟩
              · exact .inl rfl
            · refine ⟨_, _, _, vd, ?_⟩
              rw [if_neg (by omega)]
              exact .inl rfl
          · cases h
        · cases h
      obtain ⟨A, n, c, vx, hr⟩ := hs
      have vy : ρ y = .slice none 0 0 := by rw [hyv]; exact hev _
      have hg : (eqGuard op t x y (ρ x) (ρ y)).run P κ.W = .ok () κ.W := by
        rw [vx, vy]
        unfold eqGuard
        split <;> simp
      have he2 : ∀ d, (Op.equalIn (d + 1) t (.slice A n c) (.slice none 0 0)).run P κ.W = .ok A.isNone κ.W := fun d => by
        cases A <;> simp [Op.equalIn, run_underlying hu]
      cases op <;> simp only [isEqN, Bool.false_eq_true] at hop
      · refine ⟨_, fin (.bool A.isNone) hg ?_, ?_⟩
        · rw [vx, vy]
          simp only [binOp]
          simp [Op.equal, Op.maxDepth, he2 9999]
        · rcases hr with rfl | ⟨rfl, hA⟩
          · exact .unk _
          · rw [hA]; exact .bool _
      · refine ⟨_, fin (.bool (!A.isNone)) hg ?_, ?_⟩
        · rw [vx, vy]
          simp only [binOp]
          simp [Op.equal, Op.maxDepth, he2 9999]
        · rcases hr with rfl | ⟨rfl, hA⟩
          · exact .unk _
          · rw [hA]; exact .bool _
    · cases h
  | false =>
  rw [hnc] at h
  simp only [binB] at h
  unfold binA at h
  split at h
  · rename_i k a k' b e1 e2
    rw [e1] at hx
    rw [e2] at hy
    have vx := hx.int_inv
    have vy := hy.int_inv
    have hg : (eqGuard op t x y (ρ x) (ρ y)).run P κ.W = .ok () κ.W := by rw [vx]; exact run_eqGuard_int _ _ _ _ _ _ _ _
    split at h
    · obtain ⟨v, hv, hrep⟩ := run_shift (P := P) (yk := k') h hp κ.W t
      exact ⟨v, fin v hg (by rw [vx, vy]; exact hv), hrep⟩
    · rename_i hs
      split at h
      · rename_i hk
        subst hk
        obtain ⟨v, hv, hrep⟩ := run_intBin (P := P) (by simpa using hs) h hp κ.W t
        exact ⟨v, fin v hg (by rw [vx, vy]; exact hv), hrep⟩
      · cases h
  · rename_i a b e1 e2
    rw [e1] at hx
    rw [e2] at hy
    have vx := hx.str_inv
    have vy := hy.str_inv
    obtain ⟨v, hv, hrep⟩ := run_strBin (P := P) h hp κ.W t
    exact ⟨v, fin v (by rw [vx]; exact run_eqGuard_str _ _ _ _ _ _ _) (by rw [vx, vy]; exact hv), hrep⟩
  · rename_i a b e1 e2
    rw [e1] at hx
    rw [e2] at hy
    have vx := hx.bool_inv
    have vy := hy.bool_inv
    have hg : (eqGuard op t x y (ρ x) (ρ y)).run P κ.W = .ok () κ.W := by rw [vx]; exact run_eqGuard_bool _ _ _ _ _ _ _
    split at h
    · rename_i ht
      have hu := tyBool_spec ht
      split at h
      · cases h
        refine ⟨_, fin (.bool (a == b)) hg ?_, .bool _⟩
        rw [vx, vy]
        have := run_equalIn_bool' (P := P) κ.W 9999 t a b hu
        simp [binOp, Op.equal, Op.maxDepth, this]
      · cases h
        refine ⟨_, fin (.bool (!(a == b))) hg ?_, .bool _⟩
        rw [vx, vy]
        have := run_equalIn_bool' (P := P) κ.W 9999 t a b hu
        simp [binOp, Op.equal, Op.maxDepth, this]
      · cases h
    · cases h
  · rename_i xs ys e1 e2
    rw [e1] at hx
    rw [e2] at hy
    obtain ⟨us, vx, _, hru⟩ := hx.agg_inv
    obtain ⟨vs, vy, _, hrv⟩ := hy.agg_inv
    split at h
    · rename_i ls hls
      split at h
      · rename_i q hq
        unfold tyEq at hls
        split at hls
        · rename_i fs hu
          split at hls
          · cases hls
          · rename_i hgd
            have hrun := eq_run 20 t ls hls 10000 (by omega) us vs xs ys q hru hrv hq
            have hpk : ∀ ws : List Value, pk P t ws = .agg ws.toArray := fun ws => by simp [pk, hu]
            rw [hpk, hpk] at hrun
            have hg : (eqGuard op t x y (ρ x) (ρ y)).run P κ.W = .ok () κ.W := by
              rw [vx, vy]
              exact run_eqGuard_agg (P := P) κ.W op t x y _ _ (by simpa using hgd)
            split at h
            · cases h
              refine ⟨_, fin (.bool q) hg ?_, .bool _⟩
              rw [vx, vy, run_eql_struct, hrun]
              rfl
            · cases h
              refine ⟨_, fin (.bool (!q)) hg ?_, .bool _⟩
              rw [vx, vy, run_neq_struct, hrun]
              rfl
            · cases h
        · cases hls
      · cases h
    · cases h
  · cases h
theorem q_unOp {op : UnOp} {t : TypeId} {x : Operand} (ho : o.op = .unOp op t x) (h : qstep P E H o.op = some (p, r)) : QOk P o E H p r := by
  rw [ho] at h
  simp only [qstep] at h
  intro base nx κ ρ hev hp hi hρ
  rw [ho] at hρ
  have hx := hρ x (by simp [Op.operands])
  unfold unA at h
  split at h
  · rename_i k n e1
    rw [e1] at hx
    have vx := hx.int_inv
    split at h
    · cases h
      refine ⟨_, ?_, .int _ _⟩
      simp [execOp, ho, vx, Op.unary, Op.intArith]
    · cases h
  · rename_i b e1
    rw [e1] at hx
    have vx := hx.bool_inv
    split at h
    · cases h
      refine ⟨_, ?_, .bool _⟩
      simp [execOp, ho, vx, Op.unary]
    · cases h
  · cases h

theorem run_u8 : ∀ (ws : List Value) (cs : List AV) {κ : Cx}, Reps κ ws cs → cs.all isU8 = true → ∃ ns : List Int, ws = ns.map (Value.int .u8) ∧ cs = ns.map (AV.int .u8)
  | [], [], κ, _, _ => ⟨[], rfl, rfl⟩
  | [], c :: cs, κ, h, _ => by simp [Reps] at h
  | w :: ws, [], κ, h, _ => by simp [Reps] at h
  | w :: ws, c :: cs, κ, h, hc => by
    simp only [List.all_cons, Bool.and_eq_true] at hc
    obtain ⟨v, vs', e, hr, hs⟩ := h.uncons
    cases e
    obtain ⟨ns, rfl, rfl⟩ := run_u8 ws cs hs hc.2
    cases c with
    | int k n =>
      have hk : k = .u8 := by cases k <;> simp [isU8] at hc <;> rfl
      subst hk
      obtain rfl := hr.int_inv
      exact ⟨n :: ns, rfl, rfl⟩
    | _ => simp [isU8] at hc
theorem fold_bytes (ns : List Int) : ∀ s : ByteArray, ns.foldl (fun r n => r.push (UInt8.ofNat n.toNat)) s = ⟨(s.data.toList ++ ns.map fun n => UInt8.ofNat n.toNat).toArray⟩ := by
  induction ns with
  | nil => intro s; simp
  | cons n ns ih => intro s; rw [List.foldl_cons, ih]; simp [ByteArray.push]
theorem bytesA_u8 (ns : List Int) : bytesA (ns.map (AV.int .u8)) = ns.foldl (fun r n => r.push (UInt8.ofNat n.toNat)) ByteArray.empty := by
  rw [fold_bytes]
  have h0 : ByteArray.empty.data.toList = [] := rfl
  rw [h0, List.nil_append]
  simp [bytesA, u8of, Function.comp_def]
theorem rdSl_spec {base nx : Nat} {κ : Cx} {H : AH} (hi : Inv base κ H nx) {a : AV} {n : Nat} {cells : List AV} (h : rdSl H a = some (n, cells)) {v : Value} (hr : Rep κ.W κ.M κ.F v a) :
    ∃ A c, v = .slice A n c ∧ n ≤ c ∧ (cells = [] ∨ ∃ ad vs, A = some ad ∧ CellsAt κ ad vs ∧ Reps κ vs cells) := by
  unfold rdSl at h
  split at h
  · cases h
    obtain ⟨A, c, rfl, hn, _, hc⟩ := hr.sl_inv
    refine ⟨A, c, rfl, hn, hc.imp id ?_⟩
    rintro ⟨ad, vs, h1, _, h3, h4⟩
    exact ⟨ad, vs, h1, h3, h4⟩
  · rename_i id ver sz off n'
    split at h
    · rename_i v' cells' hl
      split at h
      · rename_i hv
        cases h
        subst hv
        rcases hi.msl_inv hl hr with ⟨b, c, cs, T, fz, rfl, hm, hn, hb, _⟩ | ⟨A, b, rfl, hm, hn⟩
        · obtain ⟨_, _, vs, rest, T', hb', h1, hrs⟩ := hi.place hl hm
          refine ⟨_, c, rfl, hn, .inr ⟨_, (vs.drop off).take (n * sz), rfl, ?_, (hrs.drop off).take _⟩⟩
          have := ((cellsAt_block hb' h1).drop off).take (n * sz)
          rwa [add_lit, Nat.zero_add] at this
        · subst hn
          exact ⟨A, 0, rfl, Nat.le_refl _, .inl (by simp)⟩
      · cases h
    · cases h
  · cases h
theorem q_convert {src dst : TypeId} {x : Operand} (ho : o.op = .convert src dst x) (h : qstep P E H o.op = some (p, r)) : QOk P o E H p r := by
  rw [ho] at h
  simp only [qstep] at h
  intro base nx κ ρ hev hp hi hρ
  rw [ho] at hρ
  have hx := hρ x (by simp [Op.operands])
  split at h
  · rename_i k n e1
    rw [e1] at hx
    have vx := hx.int_inv
    split at h
    · rename_i k' hk
      split at h
      · rename_i hsrc
        cases h
        obtain ⟨d, hd⟩ := Option.isSome_iff_exists.1 hsrc
        refine ⟨_, ?_, .int _ _⟩
        simp only [execOp, ho]
        exact run_v (by rw [vx]; simp [convert, run_underlying hd, run_underlying (tyInt_spec hk), Conv.intToInt])
      · cases h
    · cases h
  · rename_i s e1
    rw [e1] at hx
    have vx := hx.str_inv
    split at h
    · rename_i hc
      cases h
      obtain ⟨d, hd⟩ := Option.isSome_iff_exists.1 hc.2
      refine ⟨_, ?_, .str _⟩
      simp only [execOp, ho]
      exact run_v (by rw [vx]; simp [convert, run_underlying hd, run_underlying (tyStr_spec hc.1)])
    · cases h
  · split at h
    · rename_i e n m he
      split at h
      · rename_i hc
        split at h
        · rename_i n' cells hrd
          cases h
          obtain ⟨hu, _⟩ := tySl_spec he
          obtain ⟨A, c, vx, hn, hcl⟩ := rdSl_spec hi hrd hx
          have hconv := run_convert_bytes_string (P := P) κ.W src dst e A n' c hu (tyInt_spec hc.1) (tyStr_spec hc.2)
          refine ⟨_, ?_, .str _⟩
          simp only [execOp, ho]
          refine run_v ?_
          rw [vx, hconv]
          rcases hcl with rfl | ⟨ad, vs, rfl, hca, hrs⟩
          · have hn0 : n' = 0 := by simpa using hp.1
            subst hn0
            cases A with
            | none => rfl
            | some ad =>
              have := run_bytesToString (P := P) κ.W ad 0 c [] (by simp [loadCells, loadCellsFrom])
              exact this
          · obtain ⟨ns, e1, e2⟩ := run_u8 (vs.take n') (cells.take n') (hrs.take n') hp.2
            have hl : (vs.take n').length = n' := by rw [List.length_take, hrs.1]; omega
            have hload := run_loadCells_list (P := P) κ.W ad (vs.take n') (fun j v hv => ((hca.take n').2 j v hv).1)
            rw [hl, e1] at hload
            have := run_bytesToString (P := P) κ.W ad n' c ns hload
            rw [this, e2, bytesA_u8]
        · cases h
      · cases h
    · cases h
theorem q_makeFunc {fn : Fn} {first captured : Array Operand} (ho : o.op = .makeFunc fn first captured) (h : qstep P E H o.op = some (p, r)) : QOk P o E H p r := by
  rw [ho] at h
  cases fn <;> simp only [qstep, reduceCtorEq] at h
  rename_i f
  split at h
  · rename_i hf
    cases h
    intro base nx κ ρ hev hp hi hρ
    rw [ho] at hρ
    have hf' : first = #[] := Array.eq_empty_of_size_eq_zero hf
    subst hf'
    have hr : Reps κ (captured.toList.map ρ) (captured.toList.map E) := by
      refine ⟨by simp, fun j v a h1 h2 => ?_⟩
      rw [List.getElem?_map] at h1 h2
      cases hj : captured.toList[j]? with
      | none => rw [hj] at h1; cases h1
      | some x =>
        rw [hj] at h1 h2
        cases h1
        cases h2
        exact hρ x (by simp only [Op.operands, Array.toList_append, List.mem_append]; right; exact List.mem_of_getElem? hj)
    refine ⟨_, ?_, .fn f (captured.toList.map ρ) _ hr.1 hr.2⟩
    simp only [execOp, ho]
    refine run_v ?_
    simp [Instr.makeFunc]
    apply Array.ext'
    simp
  · split at h
    · rename_i hf2 hf
      cases h
      intro base nx κ ρ hev hp hi hρ
      rw [ho] at hρ
      have hf' : captured = #[] := Array.eq_empty_of_size_eq_zero hf
      subst hf'
      have hr : Reps κ (first.toList.map ρ) (first.toList.map E) := by
        refine ⟨by simp, fun j v a h1 h2 => ?_⟩
        rw [List.getElem?_map] at h1 h2
        cases hj : first.toList[j]? with
        | none => rw [hj] at h1; cases h1
        | some x =>
          rw [hj] at h1 h2
          cases h1
          cases h2
          exact hρ x (by simp only [Op.operands, Array.toList_append, List.mem_append]; left; exact List.mem_of_getElem? hj)
      refine ⟨_, ?_, .bfn f (first.toList.map ρ) _ hr.1 hr.2⟩
      simp only [execOp, ho]
      refine run_v ?_
      simp [Instr.makeFunc]
      apply Array.ext'
      simp
    · cases h
end
end Go.TH

/-
  TH, part 7: the other quiet operations; all of them together.
-/
set_option linter.unusedVariables false
set_option linter.unusedSimpArgs false
namespace Go.TH
open Go
section
variable {P : Program} {o : Oper} {E : Operand → AV} {H : AH} {p : Prop} {r : AV}

theorem q_fieldAddr {t : TypeId} {x : Operand} {j : Nat} (ho : o.op = .fieldAddr t x j) (h : qstep P E H o.op = some (p, r)) : QOk P o E H p r := by
  rw [ho] at h
  simp only [qstep] at h
  intro base nx κ ρ hev hp hi hρ
  rw [ho] at hρ
  have hx := hρ x (by simp [Op.operands])
  split at h
  · rename_i off n g hf
    split at h
    · rename_i cells e1
      rw [e1] at hx
      cases h
      obtain ⟨ad, vs, vx, hF, hc, hr⟩ := hx.ro_inv
      refine ⟨_, ?_, Rep.ro_mk (ad := ad.add off) (by rw [add_block]; exact hF) (hc.drop off) (hr.drop off)⟩
      simp only [execOp, ho]
      exact run_v (by rw [vx]; exact run_fieldPlace hf ad κ.W)
    · rename_i id ver of e1
      rw [e1] at hx
      split at h
      · rename_i v cells hl
        cases h
        subst hp
        obtain ⟨b, vx, hm⟩ := hi.ptr_inv hl hx
        refine ⟨_, ?_, .ptr id v (of + off) b hm⟩
        simp only [execOp, ho]
        exact run_v (by rw [vx, run_fieldPlace hf _ κ.W, add_lit])
      · cases h
    · cases h
  · cases h
theorem run_part_load {t : TypeId} {g : Bool} {n : Nat} (ht : tyAS P t = some (g, n)) {κ : Cx} {us : List Value} {cells : List AV} (h1 : ∀ u ∈ us, u.oneCell' = true) (hr : Reps κ us cells) {off : Nat} (hp : (loadA cells off (g, n)).1) :
    ∃ v, (part t us.toArray off).run P κ.W = .ok v κ.W ∧ Rep κ.W κ.M κ.F v (loadA cells off (g, n)).2 := by
  obtain ⟨d, i, hd, hi, hg, hn⟩ := tyAS_spec ht
  unfold part
  cases g with
  | true =>
    simp only [loadA] at hp ⊢
    refine ⟨.agg ((us.drop off).take n).toArray, ?_, .agg _ _ ((hr.drop off).take n).1 (fun u hu => h1 u (List.mem_of_mem_drop (List.mem_of_mem_take hu))) ((hr.drop off).take n).2⟩
    simp only [Sem.run_bind, run_isAgg hd, hg, Result.andThen_ok, if_true, run_sizeOf hi, Sem.run_pure, hn]
    congr 2
    apply Array.ext'
    simp
  | false =>
    simp only [loadA] at hp ⊢
    have h0 : cells[off]? = some (cells.getD off .junk) := by simp [List.getD, List.getElem?_eq_getElem hp]
    obtain ⟨v, hv, hrv⟩ := hr.at h0
    refine ⟨v, ?_, hrv⟩
    simp only [Sem.run_bind, run_isAgg hd, hg, Result.andThen_ok, Bool.false_eq_true, if_false, List.getElem?_toArray, hv, Sem.run_pure]
theorem q_field {t : TypeId} {x : Operand} {j : Nat} (ho : o.op = .field t x j) (h : qstep P E H o.op = some (p, r)) : QOk P o E H p r := by
  rw [ho] at h
  simp only [qstep] at h
  intro base nx κ ρ hev hp hi hρ
  rw [ho] at hρ
  have hx := hρ x (by simp [Op.operands])
  split at h
  · rename_i off n g hf
    split at h
    · rename_i cells e1
      rw [e1] at hx
      rw [Option.some.injEq] at h
      obtain ⟨us, vx, h1, hr⟩ := hx.agg_inv
      obtain ⟨fs, f, hu, hfj, hoff, hn, hty⟩ := tyFld_spec hf
      obtain ⟨v, hrun, hrep⟩ := run_part_load hty h1 hr (off := off) (by rw [h]; exact hp)
      rw [h] at hrep
      refine ⟨v, ?_, hrep⟩
      simp only [execOp, ho]
      exact run_v (by rw [vx]; simp [Instr.field, run_underlying hu, hfj, asAgg, hoff, hrun])
    · cases h
  · cases h
theorem q_indexAddr {t : TypeId} {x i : Operand} (ho : o.op = .indexAddr t x i) (h : qstep P E H o.op = some (p, r)) : QOk P o E H p r := by
  rw [ho] at h
  simp only [qstep] at h
  intro base nx κ ρ hev hp hi hρ
  rw [ho] at hρ
  have hx := hρ x (by simp [Op.operands])
  have hidx := hρ i (by simp [Op.operands])
  split at h
  · rename_i e sz by' k kk hsl e2
    rw [e2] at hidx
    have vi := hidx.int_inv
    obtain ⟨hu, inf, hinf, hsz, _⟩ := tySl_spec hsl
    have key : ∀ (ad : Addr) (len c : Nat), 0 ≤ kk → kk < len → (Instr.indexAt t (.slice (some ad) len c) (.int k kk)).run P κ.W = .ok (.pointer (some (ad.add (kk.toNat * sz)))) κ.W := by
      intro ad len c h0 h1
      simp [Instr.indexAt, asIntOf, run_underlying hu, h0, h1, run_sizeOf hinf, hsz]
    split at h
    · rename_i n t' cells e1
      rw [e1] at hx
      cases h
      obtain ⟨A, c, vx, hn, _, hc⟩ := hx.sl_inv
      obtain ⟨h0, h1, h2⟩ := hp
      rcases hc with rfl | ⟨ad, vs, rfl, hF, hca, hr⟩
      · simp at h2
      · refine ⟨_, ?_, Rep.ro_mk (ad := ad.add (kk.toNat * sz)) (by rw [add_block]; exact hF) (hca.drop _) (hr.drop _)⟩
        simp only [execOp, ho]
        exact run_v (by rw [vx, vi]; exact key ad n c h0 h1)
    · rename_i id ver sz' off n e1
      rw [e1] at hx
      split at h
      · rename_i v cells hl
        cases h
        obtain ⟨rfl, rfl, h0, h1⟩ := hp
        rcases hi.msl_inv hl hx with ⟨b, c, cs, T, fz, vx, hm, hn, hb, _⟩ | ⟨A, b, vx, hm, hn⟩
        · refine ⟨_, ?_, .ptr id v (off + kk.toNat * sz') b hm⟩
          simp only [execOp, ho]
          exact run_v (by rw [vx, vi, key _ n c h0 h1, add_lit])
        · subst hn
          exact absurd h1 (by omega)
      · cases h
    · cases h
  · cases h
theorem q_index {t : TypeId} {x i : Operand} (ho : o.op = .index t x i) (h : qstep P E H o.op = some (p, r)) : QOk P o E H p r := by
  rw [ho] at h
  simp only [qstep] at h
  intro base nx κ ρ hev hp hi hρ
  rw [ho] at hρ
  have hx := hρ x (by simp [Op.operands])
  have hidx := hρ i (by simp [Op.operands])
  split at h
  · rename_i s k kk e1 e2
    rw [e1] at hx
    rw [e2] at hidx
    have vx := hx.str_inv
    have vi := hidx.int_inv
    split at h
    · rename_i ht
      cases h
      obtain ⟨h0, h1⟩ := hp
      have hlt : kk.toNat < s.size := by omega
      have hget : s[kk.toNat]? = some (s.data.toList.getD kk.toNat 0) := by
        have hl : kk.toNat < s.data.toList.length := by simpa using hlt
        rw [getElem?_pos s kk.toNat hlt]
        simp only [List.getD, List.getElem?_eq_getElem hl, Option.getD_some, Option.some.injEq]
        rfl
      refine ⟨_, ?_, .int _ _⟩
      simp only [execOp, ho]
      exact run_v (by rw [vx, vi]; simp [Instr.index, asIntOf, run_underlying (tyStr_spec ht), h0, hget])
    · cases h
  · cases h
theorem q_extract {x : Operand} {j : Nat} (ho : o.op = .extract x j) (h : qstep P E H o.op = some (p, r)) : QOk P o E H p r := by
  rw [ho] at h
  simp only [qstep] at h
  intro base nx κ ρ hev hp hi hρ
  rw [ho] at hρ
  have hx := hρ x (by simp [Op.operands])
  split at h
  · rename_i as e1
    rw [e1] at hx
    cases h
    obtain ⟨vs, vx, hr⟩ := hx.tup_inv
    have h0 : as[j]? = some (as.getD j .junk) := by simp [List.getD, List.getElem?_eq_getElem hp]
    obtain ⟨v, hv, hrv⟩ := hr.at h0
    refine ⟨v, ?_, hrv⟩
    simp only [execOp, ho]
    exact run_v (by rw [vx]; simp [Instr.extract, hv])
  · cases h

/-! ### Slices of slices and of texts -/
theorem optInt_spec {κ : Cx} {E : Operand → AV} {ρ : Operand → Value} {x : Option Operand} {r : Option Int} (h : optInt (x.map E) = some r) (hρ : ∀ y, x = some y → Rep κ.W κ.M κ.F (ρ y) (E y)) :
    (x = none ∧ r = none) ∨ ∃ y k n, x = some y ∧ r = some n ∧ ρ y = .int k n := by
  cases x with
  | none => cases h; exact .inl ⟨rfl, rfl⟩
  | some y =>
    right
    have := hρ y rfl
    simp only [Option.map_some] at h
    cases hE : E y with
    | int k n =>
      rw [hE] at h this
      cases h
      exact ⟨y, k, n, rfl, rfl, this.int_inv⟩
    | _ => rw [hE] at h; cases h
theorem run_sliceBound (k : IntKind) (i : Int) (y : Nat) (code : BoundsCode) (W : World) (h0 : 0 ≤ i) (h1 : i ≤ y) : (Instr.sliceBound (.int k i) y code).run P W = .ok i.toNat W := by
  simp [Instr.sliceBound, asIntOf, h0, h1]
/-- The bounds, worked out. 'len', 'cap': the slice's own. -/
theorem run_sliceBounds {E : Operand → AV} {ρ : Operand → Value} (sl : Bool) (len cap : Nat) (hlc : len ≤ cap) {lo hi mx : Option Operand} {l h m : Option Int} (W : World)
    (hl : (lo = none ∧ l = none) ∨ ∃ y k n, lo = some y ∧ l = some n ∧ ρ y = .int k n) (hh : (hi = none ∧ h = none) ∨ ∃ y k n, hi = some y ∧ h = some n ∧ ρ y = .int k n)
    (hm : (mx = none ∧ m = none) ∨ ∃ y k n, mx = some y ∧ m = some n ∧ ρ y = .int k n) (h1 : 0 ≤ l.getD 0) (h2 : l.getD 0 ≤ h.getD len) (h3 : h.getD len ≤ m.getD len) (h4 : m.getD len ≤ len) (h5 : m ≠ none → h ≠ none) :
    (Instr.sliceBounds sl len cap (lo.map ρ) (hi.map ρ) (mx.map ρ)).run P W = .ok ((l.getD 0).toNat, (h.getD len).toNat, (m.getD cap).toNat) W := by
  rcases hm with ⟨rfl, rfl⟩ | ⟨ym, km, nm, rfl, rfl, vm⟩
  · rcases hh with ⟨rfl, rfl⟩ | ⟨yh, kh, nh, rfl, rfl, vh⟩
    · rcases hl with ⟨rfl, rfl⟩ | ⟨yl, kl, nl, rfl, rfl, vl⟩
      · simp [Instr.sliceBounds]
      · simp only [Option.getD_some, Option.getD_none] at *
        simp [Instr.sliceBounds, vl, run_sliceBound, h1, h2]
    · rcases hl with ⟨rfl, rfl⟩ | ⟨yl, kl, nl, rfl, rfl, vl⟩
      · simp only [Option.getD_some, Option.getD_none] at *
        have : nh ≤ cap := by omega
        simp [Instr.sliceBounds, vh, run_sliceBound, h2, this]
      · simp only [Option.getD_some, Option.getD_none] at *
        have : nh ≤ cap := by omega
        have : 0 ≤ nh := by omega
        have : nl ≤ (nh.toNat : Int) := by omega
        simp only [Instr.sliceBounds, Option.map_none, Option.map_some, vh, vl, Sem.run_bind, Sem.run_pure, Result.andThen_ok]
        rw [run_sliceBound kh nh cap _ W (by omega) (by omega)]
        simp only [Result.andThen_ok]
        rw [run_sliceBound kl nl nh.toNat _ W (by omega) (by omega)]
        simp
  · rcases hh with ⟨rfl, rfl⟩ | ⟨yh, kh, nh, rfl, rfl, vh⟩
    · exact absurd rfl (h5 (by simp))
    · simp only [Option.getD_some] at *
      rcases hl with ⟨rfl, rfl⟩ | ⟨yl, kl, nl, rfl, rfl, vl⟩
      · simp only [Option.getD_some, Option.getD_none] at *
        simp only [Instr.sliceBounds, Option.map_none, Option.map_some, vh, vm, Sem.run_bind, Sem.run_pure, Result.andThen_ok]
        rw [run_sliceBound km nm cap _ W (by omega) (by omega)]
        simp only [Result.andThen_ok]
        rw [run_sliceBound kh nh nm.toNat _ W (by omega) (by omega)]
        simp
      · simp only [Option.getD_some] at *
        simp only [Instr.sliceBounds, Option.map_some, vh, vm, vl, Sem.run_bind, Sem.run_pure, Result.andThen_ok]
        rw [run_sliceBound km nm cap _ W (by omega) (by omega)]
        simp only [Result.andThen_ok]
        rw [run_sliceBound kh nh nm.toNat _ W (by omega) (by omega)]
        simp only [Result.andThen_ok]
        rw [run_sliceBound kl nl nh.toNat _ W (by omega) (by omega)]
        simp

theorem run_slice_sl {t e : TypeId} {inf : TypeInfo} (hu : P.underlying t = some (.slice e)) (hi : P.info? e = some inf) (A : Option Addr) (len cap : Nat) (lo hi' mx : Option Value) (W : World) {l h m : Nat}
    (hb : (Instr.sliceBounds true len cap lo hi' mx).run P W = .ok (l, h, m) W) :
    (Instr.sliceAt t (.slice A len cap) lo hi' mx).run P W = .ok (.slice (if m = l then A else A.map (·.add (l * inf.size))) (h - l) (m - l)) W := by
  simp [Instr.sliceAt, Instr.slice, run_underlying hu, hb, run_sizeOf hi]
theorem run_slice_str {t : TypeId} (hu : P.underlying t = some .string) (s : ByteArray) (lo hi' : Option Value) (W : World) {l h m : Nat}
    (hb : (Instr.sliceBounds false s.size s.size lo hi' none).run P W = .ok (l, h, m) W) :
    (Instr.sliceAt t (.string s) lo hi' none).run P W = .ok (.string (s.extract l h)) W := by
  simp [Instr.sliceAt, Instr.slice, run_underlying hu, hb]
theorem q_slice {t : TypeId} {x : Operand} {lo hi' mx : Option Operand} (ho : o.op = .slice t x lo hi' mx) (h : qstep P E H o.op = some (p, r)) : QOk P o E H p r := by
  rw [ho] at h
  simp only [qstep] at h
  intro base nx κ ρ hev hp hi hρ
  rw [ho] at hρ
  have hx := hρ x (by simp [Op.operands])
  split at h
  · rename_i l hh m e1 e2 e3
    have sl := optInt_spec (κ := κ) (ρ := ρ) e1 (fun y hy => hρ y (by subst hy; simp [Op.operands]))
    have sh := optInt_spec (κ := κ) (ρ := ρ) e2 (fun y hy => hρ y (by subst hy; simp [Op.operands]))
    have sm := optInt_spec (κ := κ) (ρ := ρ) e3 (fun y hy => hρ y (by subst hy; simp [Op.operands]))
    have fin : ∀ v, (Instr.sliceAt t (ρ x) (lo.map ρ) (hi'.map ρ) (mx.map ρ)).run P κ.W = .ok v κ.W → (execOp ρ o).run P κ.W = .ok (.value v) κ.W := by
      intro v hv
      simp only [execOp, ho]
      exact run_v hv
    split at h
    · rename_i s ex
      rw [ex] at hx
      have vx := hx.str_inv
      split at h
      · rename_i hc
        obtain ⟨ht, rfl⟩ := hc
        rcases sm with ⟨rfl, _⟩ | ⟨_, _, _, _, h', _⟩
        · cases h
          obtain ⟨h0, h1, h2⟩ := hp
          have hb := run_sliceBounds (P := P) (E := E) false s.size s.size (Nat.le_refl _) (mx := none) (m := none) κ.W sl sh (.inl ⟨rfl, rfl⟩) h0 h1 h2 (Int.le_refl _) (by simp)
          refine ⟨_, fin _ ?_, .str _⟩
          rw [vx]
          exact run_slice_str (tyStr_spec ht) s _ _ κ.W hb
        · cases h'
      · cases h
    · split at h
      · rename_i e sz by' hsl
        obtain ⟨hu, inf, hinf, hsz, _⟩ := tySl_spec hsl
        subst hsz
        unfold sliceA at h
        split at h
        · rename_i n t' cells ex
          rw [ex] at hx
          obtain ⟨A, c, vx, hn, htt, hcl⟩ := hx.sl_inv
          -- the cells
          have cellsOk : ∀ (L Hh M : Nat), L ≤ Hh → Hh ≤ M → ((cells.drop (L * inf.size)).take ((Hh - L) * inf.size) = [] ∨ ∃ ad vs, (if M = L then A else A.map (·.add (L * inf.size))) = some ad ∧ κ.F ad.block ∧ CellsAt κ ad vs ∧ Reps κ vs ((cells.drop (L * inf.size)).take ((Hh - L) * inf.size))) := by
            intro L Hh M h1 h2
            by_cases hML : M = L
            · left
              rw [show Hh - L = 0 by omega]
              simp
            · rcases hcl with rfl | ⟨ad, vs, rfl, hF, hca, hr⟩
              · left; simp
              · right
                rw [if_neg hML]
                exact ⟨_, _, rfl, by rw [add_block]; exact hF, (hca.drop _).take _, (hr.drop _).take _⟩
          split at h
          · cases h
            obtain ⟨h0, h1, h2⟩ := hp
            rcases sm with ⟨rfl, _⟩ | ⟨_, _, _, _, h', _⟩
            · have hb := run_sliceBounds (P := P) (E := E) true n c hn (mx := none) (m := none) κ.W sl sh (.inl ⟨rfl, rfl⟩) h0 h1 h2 (Int.le_refl _) (by simp)
              have hrun := run_slice_sl (P := P) hu hinf A n c _ _ _ κ.W hb
              simp only [Option.getD_none, Int.toNat_natCast] at hrun
              have hq := cellsOk (l.getD 0).toNat (hh.getD n).toNat c (by omega) (by omega)
              have hsub : (hh.getD (n : Int) - l.getD 0).toNat = (hh.getD (n : Int)).toNat - (l.getD 0).toNat := by omega
              refine ⟨_, fin _ (by rw [vx]; exact hrun), ?_⟩
              rw [hsub]
              refine Rep.sl_mk (by omega) (fun htr => ?_) hq
              simp only [Bool.and_eq_true, decide_eq_true_eq] at htr
              have := htt htr.1
              omega
            · cases h'
          · rename_i mm
            split at h
            · cases h
            · rename_i hv
              cases h
              obtain ⟨h0, h1, h2, h3⟩ := hp
              have hb := run_sliceBounds (P := P) (E := E) true n c hn κ.W sl sh sm h0 h1 h2 h3 (by simp)
              have hrun := run_slice_sl (P := P) hu hinf A n c _ _ _ κ.W hb
              simp only [Option.getD_some] at hrun
              have hq := cellsOk (l.getD 0).toNat hv.toNat mm.toNat (by omega) (by omega)
              have hsub : (hv - l.getD 0).toNat = hv.toNat - (l.getD 0).toNat := by omega
              refine ⟨_, fin _ (by rw [vx]; exact hrun), ?_⟩
              rw [hsub]
              refine Rep.sl_mk (by omega) (fun htr => ?_) hq
              simp only [decide_eq_true_eq] at htr
              omega
        · rename_i id ver sz' off n ex
          rw [ex] at hx
          split at h
          · cases h
          · rename_i v cells hl
            -- the result, of what the model answers
            have res : ∀ (L Hh M : Nat), v = ver → sz' = inf.size → L ≤ Hh → Hh ≤ n → Hh ≤ M → ∀ A c, ρ x = .slice A n c → M ≤ c → n ≤ c →
                Rep κ.W κ.M κ.F (.slice (if M = L then A else A.map (·.add (L * inf.size))) (Hh - L) (M - L)) (.msl id ver sz' (off + L * inf.size) (Hh - L)) := by
              intro L Hh M e1 e2 h1 h2 h3 A c ev h4 h5
              subst e1
              subst e2
              rcases hi.msl_inv hl hx with ⟨b, c', cs, T, fz, vx, hm, hn', hb, hcap⟩ | ⟨A', b, vx, hm, hn'⟩
              · rw [vx] at ev
                injection ev with ea en ec
                subst ea
                subst ec
                by_cases hML : M = L
                · have : Hh - L = 0 := by omega
                  rw [this, show M - L = 0 by omega]
                  exact .mslNil _ _ _ _ _ _ hm
                · rw [if_neg hML]
                  simp only [Option.map_some, add_lit]
                  refine .msl _ _ _ _ _ _ b cs T fz hm (by omega) hb ?_
                  have : (M - L) * inf.size + L * inf.size ≤ c' * inf.size := by
                    rw [← Nat.add_mul]
                    exact Nat.mul_le_mul_right _ (by omega)
                  omega
              · rw [vx] at ev
                injection ev with ea en ec
                subst en
                have : Hh - L = 0 := by omega
                rw [this, show M - L = 0 by omega]
                exact .mslNil _ _ _ _ _ _ hm
            have shape : v = ver → ∃ A c, ρ x = .slice A n c ∧ n ≤ c := by
              intro e1
              subst e1
              rcases hi.msl_inv hl hx with ⟨b, c', cs, T, fz, vx, hm, hn', hb, hcap⟩ | ⟨A', b, vx, hm, hn'⟩
              · exact ⟨_, c', vx, hn'⟩
              · exact ⟨A', 0, by rw [vx, hn'], by omega⟩
            split at h
            · cases h
              obtain ⟨e1, e2, h0, h1, h2⟩ := hp
              obtain ⟨A, c, vx, hn⟩ := shape e1
              rcases sm with ⟨rfl, _⟩ | ⟨_, _, _, _, h', _⟩
              · have hb := run_sliceBounds (P := P) (E := E) true n c hn (mx := none) (m := none) κ.W sl sh (.inl ⟨rfl, rfl⟩) h0 h1 h2 (Int.le_refl _) (by simp)
                have hrun := run_slice_sl (P := P) hu hinf A n c _ _ _ κ.W hb
                simp only [Option.getD_none, Int.toNat_natCast] at hrun
                have hsub : (hh.getD (n : Int) - l.getD 0).toNat = (hh.getD (n : Int)).toNat - (l.getD 0).toNat := by omega
                refine ⟨_, fin _ (by rw [vx]; exact hrun), ?_⟩
                rw [hsub, e2]
                have := res (l.getD 0).toNat (hh.getD (n : Int)).toNat c e1 e2 (by omega) (by omega) (by omega) A c vx (by omega) hn
                rwa [e2] at this
              · cases h'
            · rename_i mm
              split at h
              · cases h
              · rename_i hv
                cases h
                obtain ⟨e1, e2, h0, h1, h2, h3⟩ := hp
                obtain ⟨A, c, vx, hn⟩ := shape e1
                have hb := run_sliceBounds (P := P) (E := E) true n c hn κ.W sl sh sm h0 h1 h2 h3 (by simp)
                have hrun := run_slice_sl (P := P) hu hinf A n c _ _ _ κ.W hb
                simp only [Option.getD_some] at hrun
                have hsub : (hv - l.getD 0).toNat = hv.toNat - (l.getD 0).toNat := by omega
                refine ⟨_, fin _ (by rw [vx]; exact hrun), ?_⟩
                rw [hsub, e2]
                have := res (l.getD 0).toNat hv.toNat mm.toNat e1 e2 (by omega) (by omega) (by omega) A c vx (by omega) hn
                rwa [e2] at this
        · cases h
      · cases h
  · cases h
end
end Go.TH

/-
  TH, part 8: the built-in functions that leave the world alone; all quiet operations together.
-/
set_option linter.unusedVariables false
set_option linter.unusedSimpArgs false
namespace Go.TH
open Go
section
variable {P : Program} {o : Oper} {E : Operand → AV} {H : AH} {p : Prop} {r : AV}

theorem lenT_spec {base nx : Nat} {κ : Cx} (hi : Inv base κ H nx) {t : TypeId} {a : AV} (h : lenT P H t a = some (p, r)) (hp : p) {v : Value} (hr : Rep κ.W κ.M κ.F v a) (W : World) :
    ∃ w, (Builtin.len_ #[t] 0 #[v]).run P W = .ok w W ∧ Rep κ.W κ.M κ.F w r := by
  cases a with
  | str s =>
    simp only [lenT] at h
    split at h
    · rename_i ht
      cases h
      obtain rfl := hr.str_inv
      exact ⟨_, by simp [Builtin.len_, run_underlying (tyStr_spec ht), goInt], .int _ _⟩
    · cases h
  | sl n t' cells =>
    simp only [lenT] at h
    split at h
    · rename_i ht
      cases h
      obtain ⟨⟨e, a, b'⟩, he⟩ := Option.isSome_iff_exists.1 ht
      obtain ⟨A, c, rfl, _⟩ := hr.sl_inv
      exact ⟨_, by simp [Builtin.len_, run_underlying (tySl_spec he).1, goInt], .int _ _⟩
    · cases h
  | msl id ver sz off n =>
    simp only [lenT] at h
    split at h
    · rename_i ht
      obtain ⟨⟨e, a, b'⟩, he⟩ := Option.isSome_iff_exists.1 ht
      cases hl : H id with
      | dead => rw [hl] at h; cases h
      | live v' cells =>
        rw [hl] at h
        cases h
        subst hp
        have : ∃ A c, v = .slice A n c := by
          rcases hi.msl_inv hl hr with ⟨b, c, cs, T, fz, rfl, _⟩ | ⟨A, b, rfl, _, hn⟩
          · exact ⟨_, _, rfl⟩
          · subst hn
            exact ⟨_, _, rfl⟩
        obtain ⟨A, c, rfl⟩ := this
        exact ⟨_, by simp [Builtin.len_, run_underlying (tySl_spec he).1, goInt], .int _ _⟩
    · cases h
  | _ => simp [lenT] at h
theorem foldI_run (f2 : Value → Value → Sem Value) (f : Int → Int → Int) (k : IntKind) (hf : ∀ x y, f2 (.int k x) (.int k y) = pure (.int k (f x y))) {κ : Cx} :
    ∀ (as : List AV) (vs : List Value) (x n : Int), Reps κ vs as → foldI f k x as = some n → (vs.foldlM f2 (.int k x)).run P κ.W = .ok (.int k n) κ.W
  | [], vs, x, n, hr, h => by
    obtain rfl := hr.unnil
    cases h
    simp
  | a :: as, vs, x, n, hr, h => by
    obtain ⟨v, vs', rfl, hv, hr'⟩ := hr.uncons
    cases a with
    | int k' y =>
      simp only [foldI] at h
      split at h
      · rename_i hk
        subst hk
        obtain rfl := hv.int_inv
        rw [List.foldlM_cons, hf]
        simp only [pure_bind]
        exact foldI_run f2 f k' hf as vs' _ n hr' h
      · cases h
    | _ => simp [foldI] at h
theorem reps_map {κ : Cx} {ρ : Operand → Value} {E : Operand → AV} (xs : List Operand) (h : ∀ x ∈ xs, Rep κ.W κ.M κ.F (ρ x) (E x)) : Reps κ (xs.map ρ) (xs.map E) := by
  refine ⟨by simp, fun j v a h1 h2 => ?_⟩
  rw [List.getElem?_map] at h1 h2
  cases hj : xs[j]? with
  | none => rw [hj] at h1; cases h1
  | some x =>
    rw [hj] at h1 h2
    cases h1
    cases h2
    exact h x (List.mem_of_getElem? hj)
theorem q_call {c : Call} (ho : o.op = .call c) (h : qstep P E H o.op = some (p, r)) : QOk P o E H p r := by
  rw [ho] at h
  simp only [qstep] at h
  intro base nx κ ρ hev hp hi hρ
  rw [ho] at hρ
  split at h
  · rename_i b hb
    have hall : ∀ x ∈ c.args.toList, Rep κ.W κ.M κ.F (ρ x) (E x) := fun x hx => hρ x (by simp [Op.operands, Call.operands, hb, hx])
    have hreps := reps_map c.args.toList hall
    have fin : ∀ v, (builtin b c.argTypes o.type (c.args.map fun | .const _ => true | _ => false) (c.args.map ρ)).run P κ.W = .ok (.value v) κ.W → (execOp ρ o).run P κ.W = .ok (.value v) κ.W := by
      intro v hv
      simp only [execOp, ho, resolve, hb, Sem.run_bind, Sem.run_pure, Result.andThen_ok, invoke]
      exact hv
    unfold builtA at h
    split at h
    · rename_i t x hty hargs
      obtain ⟨xo, hxo, hxe⟩ : ∃ xo, c.args.toList = [xo] ∧ E xo = x := by
        cases hq : c.args.toList with
        | nil => rw [hq] at hargs; cases hargs
        | cons xo r' =>
          rw [hq] at hargs
          cases r' with
          | nil => simp at hargs; exact ⟨xo, rfl, hargs⟩
          | cons _ _ => simp at hargs
      have hargs' : c.args = #[xo] := by rw [← Array.toArray_toList (xs := c.args), hxo]
      have hty' : c.argTypes = #[t] := by rw [← Array.toArray_toList (xs := c.argTypes), hty]
      have hx := hall xo (by rw [hxo]; simp)
      rw [hxe] at hx
      obtain ⟨w, hw, hrep⟩ := lenT_spec hi h hp hx κ.W
      refine ⟨w, fin _ ?_, hrep⟩
      rw [hargs', hty']
      simp only [builtin]
      refine run_v ?_
      have : (#[xo].map ρ) = #[ρ xo] := by simp
      rw [this]
      exact hw
    · rename_i k x rest hargs
      cases hf : foldI (fun a b => if b > a then b else a) k x rest with
      | none => rw [hf] at h; cases h
      | some n =>
        rw [hf] at h
        cases h
        rw [hargs] at hreps
        obtain ⟨v, vs, hvs, hv, hr'⟩ := hreps.uncons
        obtain rfl := hv.int_inv
        refine ⟨_, fin (.int k n) ?_, .int _ _⟩
        have := foldI_run (P := P) Builtin.max2 _ k (fun x y => rfl) rest vs x n hr' hf
        have hm : (c.args.map ρ).toList = .int k x :: vs := by rw [Array.toList_map]; exact hvs
        simp only [builtin]
        refine run_v ?_
        simp only [Builtin.max_, hm, this]
    · rename_i k x rest hargs
      cases hf : foldI (fun a b => if b < a then b else a) k x rest with
      | none => rw [hf] at h; cases h
      | some n =>
        rw [hf] at h
        cases h
        rw [hargs] at hreps
        obtain ⟨v, vs, hvs, hv, hr'⟩ := hreps.uncons
        obtain rfl := hv.int_inv
        refine ⟨_, fin (.int k n) ?_, .int _ _⟩
        have := foldI_run (P := P) Builtin.min2 _ k (fun x y => rfl) rest vs x n hr' hf
        have hm : (c.args.map ρ).toList = .int k x :: vs := by rw [Array.toList_map]; exact hvs
        simp only [builtin]
        refine run_v ?_
        simp only [Builtin.min_, hm, this]
    · cases h
  · cases h

theorem qstep_sound (h : qstep P E H o.op = some (p, r)) : QOk P o E H p r := by
  cases ho : o.op with
  | move x => exact q_move ho h
  | assign x => exact q_assign ho h
  | pick c a b => exact q_pick ho h
  | build t parts => exact q_build ho h
  | load t x => exact q_load ho h
  | nilCheck x => exact q_nilCheck ho h
  | binOp op t x y yt => exact q_binOp ho h
  | unOp op t x => exact q_unOp ho h
  | convert src dst x => exact q_convert ho h
  | makeFunc fn first captured => exact q_makeFunc ho h
  | slice t x lo hi mx => exact q_slice ho h
  | fieldAddr t x j => exact q_fieldAddr ho h
  | field t x j => exact q_field ho h
  | indexAddr t x i => exact q_indexAddr ho h
  | index t x i => exact q_index ho h
  | extract x j => exact q_extract ho h
  | call c => exact q_call ho h
  | _ => rw [ho] at h; simp [qstep] at h
end
end Go.TH

/-
  TH, part 9: operations that make or write memory.
-/
set_option linter.unusedVariables false
set_option linter.unusedSimpArgs false
namespace Go.TH
open Go

def bytesCells (s : ByteArray) : List AV := s.data.toList.map fun b => .int .u8 b.toNat

/-- What is appended or copied: how many elements, and their cells. -/
def srcA (P : Program) (H : AH) (tx : TypeId) (sz : Nat) : AV → Option (Nat × List AV)
  | .str s => if tyStr P tx ∧ sz = 1 then some (s.size, bytesCells s) else none
  | a => if (tySl P tx).isSome then rdSl H a else none

def fillB (H : AH) (sz : Nat) (cells : List AV) : List (Nat × AV) → Option (List AV)
  | [] => some cells
  | (i, a) :: rest =>
    match cellsA H a with
    | some cs => if cs.length = sz ∧ i * sz + sz ≤ cells.length then fillB H sz (cells.take (i * sz) ++ cs ++ cells.drop (i * sz + sz)) rest else none
    | none => none

def appA (P : Program) (H : AH) (nx : Nat) (t tx : TypeId) (s x : AV) : Option (Prop × AV × AH × Nat) :=
  match tySl P t with
  | none => none
  | some (e, sz, by') =>
    match tyZ P e, srcA P H tx sz x with
    | some z, some (m, xs) =>
      if z.length = sz ∧ sz ≠ 0 then
        match s with
        | .msl id ver sz' off n =>
          match H id with
          | .live v cells => some (v = ver ∧ sz' = sz ∧ off = 0 ∧ (n + m) * by' ≤ 140737488355328 ∧ n + m ≤ 9223372036854775807 ∧ xs.length = m * sz ∧ n * sz ≤ cells.length,
              .msl id (ver + 1) sz 0 (n + m), upd H id (.live (ver + 1) (cells.take (n * sz) ++ xs)), nx)
          | .dead => none
        | .sl n true cells =>
          if m = 0 then some (xs.length = m * sz, .sl n true cells, H, nx)
          else some ((n + m) * by' ≤ 140737488355328 ∧ n + m ≤ 9223372036854775807 ∧ xs.length = m * sz ∧ n * sz ≤ cells.length,
            .msl nx 0 sz 0 (n + m), upd H nx (.live 0 (cells.take (n * sz) ++ xs)), nx + 1)
        | _ => none
      else none
    | _, _ => none

def copA (P : Program) (H : AH) (nx : Nat) (t tx : TypeId) (d x : AV) : Option (Prop × AV × AH × Nat) :=
  match tySl P t with
  | none => none
  | some (e, sz, by') =>
    match srcA P H tx sz x, d with
    | some (m, xs), .msl id ver sz' off n =>
      match H id with
      | .live v cells => some (v = ver ∧ sz' = sz ∧ xs.length = m * sz ∧ off + n * sz ≤ cells.length,
          .int .i64 (min m n : Nat), upd H id (.live v (cells.take off ++ xs.take (min m n * sz) ++ cells.drop (off + min m n * sz))), nx)
      | .dead => none
    | _, _ => none

def clrA (P : Program) (H : AH) (nx : Nat) (t : TypeId) (x : AV) : Option (Prop × AV × AH × Nat) :=
  match tySl P t with
  | none => none
  | some (e, sz, _) =>
    match tyZ P e, x with
    | some z, .msl id ver sz' off n =>
      match H id with
      | .live v cells => if z.length = sz then some (v = ver ∧ sz' = sz ∧ off + n * sz ≤ cells.length,
          .tup [], upd H id (.live v (cells.take off ++ (List.replicate n z).flatten ++ cells.drop (off + n * sz))), nx) else none
      | .dead => none
    | _, _ => none

/-- OPERATIONS THAT MAKE OR WRITE MEMORY. -/
def hstep (P : Program) (E : Operand → AV) (H : AH) (nx : Nat) : Op → Option (Prop × AV × AH × Nat)
  | .alloc t => (match tyZ P t with
      | some z => some (True, .ptr nx 0 0, upd H nx (.live 0 z), nx + 1)
      | none => none)
  | .box t x => (match cellsA H (E x) with
      | some cs => some (True, .ptr nx 0 0, upd H nx (.live 0 cs), nx + 1)
      | none => none)
  | .buildSlice t len parts => (match tySl P t with
      | some (e, sz, _) => (match tyZ P e with
          | some z => if z.length = sz ∧ len * sz ≤ 16777216 then
              (fillB H sz (List.replicate len z).flatten (parts.toList.map fun x => (x.1, E x.2))).map fun cs => (True, .msl nx 0 sz 0 len, upd H nx (.live 0 cs), nx + 1)
            else none
          | none => none)
      | none => none)
  | .store t x y => (match tyAS P t, E x with
      | some (_, n), .ptr id ver off => (match H id, cellsA H (E y) with
          | .live v cells, some cs => some (v = ver ∧ cs.length = n ∧ off + n ≤ cells.length, .tup [], upd H id (.live v (cells.take off ++ cs ++ cells.drop (off + n))), nx)
          | _, _ => none)
      | _, _ => none)
  | .makeSlice t l c => (match tySl P t, E l, E c with
      | some (e, sz, by'), .int _ l, .int _ c => (match tyZ P e with
          | some z => if z.length = sz then
              some (0 ≤ l ∧ l ≤ c ∧ c.toNat * by' ≤ 140737488355328 ∧ c ≤ 140737488355328, .msl nx 0 sz 0 l.toNat, upd H nx (.live 0 (List.replicate l.toNat z).flatten), nx + 1)
            else none
          | none => none)
      | _, _, _ => none)
  | .convert src dst x => (match E x, tySl P dst with
      | .str s, some (e, _, _) => if tyInt P e = some .u8 ∧ (P.underlying src).isSome then some (s.size ≤ 140737488355328, .sl s.size false (bytesCells s), H, nx) else none
      | _, _ => none)
  | .makeMap _ none => some (True, .junk, H, nx)
  | .call c => (match c.callee, c.argTypes.toList, c.args.toList.map E with
      | .builtin .append, [t, tx], [s, x] => appA P H nx t tx s x
      | .builtin .copy, [t, tx], [d, x] => copA P H nx t tx d x
      | .builtin .clear, [t], [x] => clrA P H nx t x
      | _, _, _ => none)
  | _ => none

/-- An operation answers this, and leaves this. -/
def HOk (P : Program) (o : Oper) (E : Operand → AV) (H : AH) (nx : Nat) (p : Prop) (r : AV) (H' : AH) (nx' : Nat) : Prop :=
  ∀ {base : Nat} {κ : Cx} {ρ : Operand → Value}, (∀ v, ρ (.const v) = v) → p → Inv base κ H nx → (∀ x ∈ o.op.operands.toList, Rep κ.W κ.M κ.F (ρ x) (E x)) →
    ∃ κ' q v, (execOp ρ o).run P κ.W = .ok q κ'.W ∧ (q = .value v ∨ (q = .skip ∧ v = undef)) ∧ Rep κ'.W κ'.M κ'.F v r ∧ Ext base κ κ' ∧ Inv base κ' H' nx'

theorem HOk.of_quiet {P : Program} {o : Oper} {E : Operand → AV} {H : AH} {nx : Nat} {p : Prop} {r : AV} (h : QOk P o E H p r) : HOk P o E H nx p r H nx := by
  intro base κ ρ hev hp hi hρ
  obtain ⟨v, hrun, hrep⟩ := h hev hp hi hρ
  exact ⟨κ, _, v, hrun, .inl rfl, hrep, .refl _ _, hi⟩

theorem tyZ_spec {P : Program} {t : TypeId} {z : List AV} (h : tyZ P t = some z) : ∃ i zv, P.info? t = some i ∧ i.zero = some zv ∧ zv.cells.size = i.size ∧ (∀ u ∈ zv.cells.toList, u.oneCell' = true) ∧ z = zv.cells.toList.map cst1 := by
  unfold tyZ at h
  split at h
  · rename_i i hi
    split at h
    · rename_i zv hz
      split at h
      · rename_i hc
        cases h
        simp only [Bool.and_eq_true, beq_iff_eq] at hc
        exact ⟨i, zv, hi, hz, hc.2, fun u hu => (Array.all_eq_true_iff_forall_mem.1 hc.1) u (by simpa using hu), rfl⟩
      · cases h
    · cases h
  · cases h

section
variable {P : Program} {o : Oper} {E : Operand → AV} {H : AH} {nx : Nat} {p : Prop} {r : AV} {H' : AH} {nx' : Nat}

theorem h_alloc {t : TypeId} (ho : o.op = .alloc t) (h : hstep P E H nx o.op = some (p, r, H', nx')) : HOk P o E H nx p r H' nx' := by
  rw [ho] at h
  simp only [hstep] at h
  split at h
  · rename_i z hz
    cases h
    intro base κ ρ hev hp hi hρ
    obtain ⟨i, zv, hinf, hzero, hsz, h1, rfl⟩ := tyZ_spec hz
    have hinv := hi.alloc zv.cells.toList [] t _ h1 (cst_reps κ _)
    simp only [List.append_nil, Array.toArray_toList] at hinv
    refine ⟨κ.alloc nx (.cells zv.cells t), _, .pointer (some ⟨κ.W.heap.size, 0, none⟩), ?_, .inl rfl, .ptr _ _ _ _ (by simp [Cx.alloc]), κ.alloc_ext hi _, hinv⟩
    simp [execOp, ho, Instr.alloc, zeroValue, typeInfo, hinf, hzero, newVar, newRow, Cx.alloc]
  · cases h
theorem h_box {t : TypeId} {x : Operand} (ho : o.op = .box t x) (h : hstep P E H nx o.op = some (p, r, H', nx')) : HOk P o E H nx p r H' nx' := by
  rw [ho] at h
  simp only [hstep] at h
  split at h
  · rename_i cs hcs
    cases h
    intro base κ ρ hev hp hi hρ
    rw [ho] at hρ
    have hx := hρ x (by simp [Op.operands])
    obtain ⟨us, hus, h1, hr⟩ := cellsA_spec hi hcs hx
    have hinv := hi.alloc us [] t _ h1 hr
    simp only [List.append_nil] at hinv
    refine ⟨κ.alloc nx (.cells us.toArray t), _, .pointer (some ⟨κ.W.heap.size, 0, none⟩), ?_, .inl rfl, .ptr _ _ _ _ (by simp [Cx.alloc]), κ.alloc_ext hi _, hinv⟩
    simp [execOp, ho, Instr.box, newVar, newRow, hus, Cx.alloc]
  · cases h
theorem h_store {t : TypeId} {x y : Operand} (ho : o.op = .store t x y) (h : hstep P E H nx o.op = some (p, r, H', nx')) : HOk P o E H nx p r H' nx' := by
  rw [ho] at h
  simp only [hstep] at h
  split at h
  · rename_i g n id ver off hty ex
    split at h
    · rename_i v cells cs hl hcs
      cases h
      intro base κ ρ hev hp hi hρ
      rw [ho] at hρ
      obtain ⟨rfl, hn, hle⟩ := hp
      have hx := hρ x (by simp [Op.operands])
      rw [ex] at hx
      have hy := hρ y (by simp [Op.operands])
      obtain ⟨b, vx, hm⟩ := hi.ptr_inv hl hx
      obtain ⟨us, hus, h1, hr⟩ := cellsA_spec hi hcs hy
      obtain ⟨hbb, hF, vs, rest, T, hb, hv1, hvr⟩ := hi.place hl hm
      obtain ⟨d, inf, hd, hinf, _, hisz⟩ := tyAS_spec hty
      have hul : us.length = n := hr.1.trans hn
      have hvl := hvr.1
      have hst := run_storeCells_at P b off T us 0 (vs ++ rest).toArray κ.W hb (by simp; omega) h1
      simp only [Nat.add_zero] at hst
      have hsplit : (vs ++ rest).toArray.toList.take off ++ us ++ (vs ++ rest).toArray.toList.drop (off + us.length) = (vs.take off ++ us ++ vs.drop (off + n)) ++ rest := by
        simp only [List.append_assoc]
        rw [List.take_append_of_le_length (by omega), List.drop_append_of_le_length (by omega), hul]
      rw [hsplit] at hst
      have hnew : Reps κ (vs.take off ++ us ++ vs.drop (off + n)) (cells.take off ++ cs ++ cells.drop (off + n)) := ((hvr.take off).append hr).append (hvr.drop _)
      have hlen : ((vs.take off ++ us ++ vs.drop (off + n)) ++ rest).length = (vs ++ rest).toArray.size := by
        simp
        omega
      have hinv := hi.setRow hl hm hb hF (vs.take off ++ us ++ vs.drop (off + n)) rest hlen (fun u hu => by
        simp only [List.mem_append] at hu
        rcases hu with (hu | hu) | hu
        · exact hv1 u (List.mem_of_mem_take hu)
        · exact h1 u hu
        · exact hv1 u (List.mem_of_mem_drop hu)) hnew
      refine ⟨κ.setRow b _, .skip, undef, ?_, .inr ⟨rfl, rfl⟩, .tup [] [] rfl (fun j v a h => by simp at h), setRow_ext hb hF (by simpa using hlen) hbb, hinv⟩
      have hsz : us.length = inf.size := by omega
      simp [execOp, ho, Instr.storeAt, vx, Instr.sureAddr, storeVar, run_sizeOf hinf, hsz, hus, hst, Cx.setRow]
    · cases h
  · cases h

theorem zeros_eq (z : Array Value) (len : Nat) (hz : z.size ≠ 0 ∨ len = 0) : ((Array.range (len * z.size)).map (z[· % z.size]!)).toList = (List.replicate len z.toList).flatten := by
  apply List.ext_getElem?
  intro j
  have hlen : (List.replicate len z.toList).flatten.length = len * z.size := by simp
  by_cases hj : j < len * z.size
  · have hz0 : 0 < z.size := by
      rcases hz with h | h
      · omega
      · subst h; simp at hj
    have hm : j % z.size < z.size := Nat.mod_lt _ hz0
    have e1 : ((Array.range (len * z.size)).map (z[· % z.size]!)).toList[j]? = some z[j % z.size] := by
      simp [hj, hm]
    rw [e1]
    clear e1 hlen
    induction len generalizing j with
    | zero => simp at hj
    | succ len ih =>
      rw [List.replicate_succ, List.flatten_cons]
      by_cases hk : j < z.size
      · rw [List.getElem?_append_left (by simpa using hk)]
        simp [Nat.mod_eq_of_lt hk, hk]
      · rw [List.getElem?_append_right (by simpa using hk)]
        have := ih (.inl (by omega)) (j - z.size) (by rw [Nat.succ_mul] at hj; omega) (Nat.mod_lt _ hz0)
        rw [Array.length_toList, ← this]
        congr 1
        have : j % z.size = (j - z.size) % z.size := Nat.mod_eq_sub_mod (by omega)
        simp only [this]
  · rw [List.getElem?_eq_none (by simp; omega), List.getElem?_eq_none (by rw [hlen]; omega)]
theorem reps_replicate {κ : Cx} {vs : List Value} {as : List AV} (h : Reps κ vs as) : ∀ n : Nat, Reps κ (List.replicate n vs).flatten (List.replicate n as).flatten
  | 0 => Reps.nil κ
  | n + 1 => by
    rw [List.replicate_succ, List.replicate_succ, List.flatten_cons, List.flatten_cons]
    exact h.append (reps_replicate h n)
theorem one_replicate {vs : List Value} (h : ∀ v ∈ vs, v.oneCell' = true) (n : Nat) : ∀ v ∈ (List.replicate n vs).flatten, v.oneCell' = true := by
  intro v hv
  rw [List.mem_flatten] at hv
  obtain ⟨l, hl, hv⟩ := hv
  rw [(List.mem_replicate.1 hl).2] at hv
  exact h v hv
theorem fillB_spec {base nx : Nat} {κ : Cx} {H : AH} (hi : Inv base κ H nx) (sz : Nat) : ∀ (parts : List (Nat × AV)) (vparts : List (Nat × Value)) (cells r : List AV) (us : List Value),
    parts.length = vparts.length → (∀ (j : Nat) (p : Nat × AV) (q : Nat × Value), parts[j]? = some p → vparts[j]? = some q → p.1 = q.1 ∧ Rep κ.W κ.M κ.F q.2 p.2) → (∀ u ∈ us, u.oneCell' = true) → Reps κ us cells →
    fillB H sz cells parts = some r → ∃ ws : List Value, Instr.fill (fun i => some (i * sz, sz)) us.toArray vparts = some ws.toArray ∧ (∀ u ∈ ws, u.oneCell' = true) ∧ Reps κ ws r
  | [], vparts, cells, r, us, hl, hp, h1, hr, h => by
    cases vparts with
    | cons _ _ => simp at hl
    | nil => cases h; exact ⟨us, rfl, h1, hr⟩
  | (i, a) :: parts, vparts, cells, r, us, hl, hp, h1, hr, h => by
    cases vparts with
    | nil => simp at hl
    | cons q vparts =>
      obtain ⟨i', v⟩ := q
      obtain ⟨e1, hv⟩ := hp 0 (i, a) (i', v) rfl rfl
      simp only at e1 hv
      subst e1
      simp only [fillB] at h
      split at h
      · rename_i cs hca
        split at h
        · rename_i hsz
          obtain ⟨us', hus, hone, hrs⟩ := cellsA_spec hi hca hv
          have hlen : us'.length = sz := by rw [hrs.1]; exact hsz.1
          have hle : i * sz + us'.length ≤ us.length := by rw [hr.1, hlen]; exact hsz.2
          have hr' : Reps κ (us.take (i * sz) ++ us' ++ us.drop (i * sz + sz)) (cells.take (i * sz) ++ cs ++ cells.drop (i * sz + sz)) := ((hr.take _).append hrs).append (hr.drop _)
          obtain ⟨ws, hw, hw1, hw2⟩ := fillB_spec hi sz parts vparts _ r _ (by simpa using hl) (fun j p q hp1 hq1 => hp (j + 1) p q (by simpa using hp1) (by simpa using hq1))
            (fun u hu => by
              simp only [List.mem_append] at hu
              rcases hu with (hu | hu) | hu
              · exact h1 u (List.mem_of_mem_take hu)
              · exact hone u hu
              · exact h1 u (List.mem_of_mem_drop hu)) hr' h
          refine ⟨ws, ?_, hw1, hw2⟩
          rw [← hw]
          have hz := fold_zip (i * sz) us' 0 us.toArray (by simpa using hle)
          simp only [Nat.add_zero] at hz
          simp only [Instr.fill, hus, List.size_toArray, hlen]
          rw [if_neg (by simp; omega)]
          congr 1
          rw [← hlen] at *
          rw [← hz]
          simp [← Array.foldl_toList]
        · cases h
      · cases h
theorem buildSlice_run {t e len : Nat} {sz by' : Nat} {parts : Array (Nat × Operand)} {z cs : List AV} (ho : o.op = .buildSlice t len parts) (hsl : tySl P t = some (e, sz, by')) (hz : tyZ P e = some z)
    (hc : z.length = sz ∧ len * sz ≤ 16777216) (hf : fillB H sz (List.replicate len z).flatten (parts.toList.map fun x => (x.1, E x.2)) = some cs)
    {base : Nat} {κ : Cx} {ρ : Operand → Value} (hi : Inv base κ H nx) (hρ : ∀ x ∈ o.op.operands.toList, Rep κ.W κ.M κ.F (ρ x) (E x)) :
    ∃ ws : List Value, (execOp ρ o).run P κ.W = .ok (.value (.slice (some ⟨κ.W.heap.size, 0, none⟩) len len)) (κ.W.alloc (.cells ws.toArray e)) ∧ (∀ u ∈ ws, u.oneCell' = true) ∧ Reps κ ws cs ∧ ws.length = len * sz := by
  rw [ho] at hρ
  obtain ⟨hu, inf, hinf, hsz, _⟩ := tySl_spec hsl
  obtain ⟨i, zv, hinf', hzero, hzs, h1, rfl⟩ := tyZ_spec hz
  rw [hinf] at hinf'
  cases hinf'
  subst hsz
  have hzr := cst_reps κ zv.cells.toList
  obtain ⟨ws, hw, hw1, hw2⟩ := fillB_spec hi inf.size (parts.toList.map fun x => (x.1, E x.2)) (parts.toList.map fun x => (x.1, ρ x.2)) _ cs (List.replicate len zv.cells.toList).flatten (by simp)
    (fun j p q hp1 hq1 => by
      rw [List.getElem?_map] at hp1 hq1
      cases hj : parts.toList[j]? with
      | none => rw [hj] at hp1; cases hp1
      | some x =>
        rw [hj] at hp1 hq1
        cases hp1
        cases hq1
        exact ⟨rfl, hρ x.2 (by simp only [Op.operands, List.mem_map]; exact ⟨x, List.mem_of_getElem? hj, rfl⟩)⟩)
    (one_replicate h1 len) (reps_replicate hzr len) hf
  have hws : ws.length = len * inf.size := by
    have : ∀ (ps : List (Nat × Value)) (c r : Array Value), Instr.fill (fun i => some (i * inf.size, inf.size)) c ps = some r → r.size = c.size := by
      intro ps
      induction ps with
      | nil => intro c r h; cases h; rfl
      | cons q ps ih =>
        intro c r h
        obtain ⟨i, v⟩ := q
        simp only [Instr.fill] at h
        split at h
        · cases h
        · have := ih _ _ h
          rw [this, ← Array.foldl_toList]
          generalize v.cells.zipIdx.toList = l
          rename_i hcond
          clear h this hcond
          induction l generalizing c with
          | nil => rfl
          | cons x l ih2 => rw [List.foldl_cons, ih2]; simp
    have := this _ _ _ hw
    simpa [hzs] using this
  refine ⟨ws, ?_, hw1, hw2, hws⟩
  · simp only [execOp, ho]
    refine run_v ?_
    have hpm : (parts.map fun x => (x.1, ρ x.2)).toList = parts.toList.map fun x => (x.1, ρ x.2) := by simp
    have hle : ¬ (len * inf.size > 2 ^ 24) := by omega
    by_cases h0 : len * inf.size = 0
    · have hflat : (List.replicate len zv.cells.toList).flatten = [] := by
        apply List.eq_nil_of_length_eq_zero
        simp [hzs, h0]
      rw [hflat] at hw
      have e0 : (Array.range (len * inf.size)).map ((#[] : Array Value)[· % (#[] : Array Value).size]!) = [].toArray := by rw [h0]; apply Array.ext'; simp
      have hle0 : ¬ (0 > 2 ^ 24) := by omega
      simp only [Instr.buildSlice, Sem.run_bind, run_underlying hu, Result.andThen_ok, run_sizeOf hinf, h0, hle0, if_false, if_true, pure_bind, hpm]
      have e1 : (Array.range 0).map ((#[] : Array Value)[· % (#[] : Array Value).size]!) = [].toArray := by apply Array.ext'; simp
      rw [e1, hw]
      simp [newRow]
    · have hz0 : zv.cells.size ≠ 0 ∨ len = 0 := by
        left; rw [hzs]; intro h; rw [h] at h0; simp at h0
      have hzq := zeros_eq zv.cells len hz0
      have hzq' : (Array.range (len * inf.size)).map (zv.cells[· % zv.cells.size]!) = (List.replicate len zv.cells.toList).flatten.toArray := by
        rw [← hzs]
        apply Array.ext'
        rw [hzq]
      simp only [Instr.buildSlice, Sem.run_bind, run_underlying hu, Result.andThen_ok, run_sizeOf hinf, hle, if_false, h0, zeroValue, typeInfo, run_program, hinf, Sem.run_pure, hzero, hzq', hpm, hw]
      simp [newRow]
theorem h_buildSlice {t : TypeId} {len : Nat} {parts : Array (Nat × Operand)} (ho : o.op = .buildSlice t len parts) (h : hstep P E H nx o.op = some (p, r, H', nx')) : HOk P o E H nx p r H' nx' := by
  rw [ho] at h
  simp only [hstep] at h
  split at h
  · rename_i e sz by' hsl
    split at h
    · rename_i z hz
      split at h
      · rename_i hc
        cases hf : fillB H sz (List.replicate len z).flatten (parts.toList.map fun x => (x.1, E x.2)) with
        | none => rw [hf] at h; cases h
        | some cs =>
          rw [hf] at h
          cases h
          intro base κ ρ hev hp hi hρ
          obtain ⟨ws, hrun, hw1, hw2, hws⟩ := buildSlice_run ho hsl hz hc hf hi hρ
          have hinv := hi.alloc ws [] e _ hw1 hw2
          simp only [List.append_nil] at hinv
          refine ⟨κ.alloc nx (.cells ws.toArray e), _, .slice (some ⟨κ.W.heap.size, 0, none⟩) len len, hrun, .inl rfl, ?_, κ.alloc_ext hi _, hinv⟩
          refine .msl _ _ _ _ _ _ κ.W.heap.size ws.toArray e (0, 0) (by simp [Cx.alloc]) (Nat.le_refl _) (heap_alloc_at _ _) ?_
          simp [hws]
      · cases h
    · cases h
  · cases h
end
end Go.TH

/-
  TH, part 10: make, append, copy, bytes of texts; all operations together.
-/
set_option linter.unusedVariables false
set_option linter.unusedSimpArgs false
namespace Go.TH
open Go
section
variable {P : Program} {o : Oper} {E : Operand → AV} {H : AH} {nx : Nat} {p : Prop} {r : AV} {H' : AH} {nx' : Nat}

theorem makeSlice_run {t e : Nat} {sz by' : Nat} {l c : Operand} {k1 k2 : IntKind} {l' c' : Int} {z : List AV} (ho : o.op = .makeSlice t l c) (hsl : tySl P t = some (e, sz, by')) (el : E l = .int k1 l') (ec : E c = .int k2 c') (hz : tyZ P e = some z) (hzl : z.length = sz)
    (hp : 0 ≤ l' ∧ l' ≤ c' ∧ c'.toNat * by' ≤ 140737488355328 ∧ c' ≤ 140737488355328) {κ : Cx} {ρ : Operand → Value} (hρ : ∀ x ∈ o.op.operands.toList, Rep κ.W κ.M κ.F (ρ x) (E x)) :
    ∃ ws rest : List Value, (execOp ρ o).run P κ.W = .ok (.value (.slice (some ⟨κ.W.heap.size, 0, none⟩) l'.toNat c'.toNat)) (κ.W.alloc (.cells (ws ++ rest).toArray e)) ∧ (∀ u ∈ ws, u.oneCell' = true) ∧ Reps κ ws (List.replicate l'.toNat z).flatten ∧ (ws ++ rest).length = c'.toNat * sz := by
  rw [ho] at hρ
  obtain ⟨h0, h1, h2, h3⟩ := hp
  have vl := (show Rep κ.W κ.M κ.F (ρ l) (.int k1 l') from el ▸ hρ l (by simp [Op.operands])).int_inv
  have vc := (show Rep κ.W κ.M κ.F (ρ c) (.int k2 c') from ec ▸ hρ c (by simp [Op.operands])).int_inv
  obtain ⟨hu, inf, hinf, hsz, hby⟩ := tySl_spec hsl
  obtain ⟨i, zv, hinf', hzero, hzs, hz1, rfl⟩ := tyZ_spec hz
  rw [hinf] at hinf'
  cases hinf'
  subst hsz
  subst hby
  have hzr := cst_reps κ zv.cells.toList
  -- the cells of the new block
  have hcells : ∃ rest : List Value, ((List.replicate c'.toNat zv.cells.toList).flatten : List Value) = (List.replicate l'.toNat zv.cells.toList).flatten ++ rest := by
    refine ⟨(List.replicate (c'.toNat - l'.toNat) zv.cells.toList).flatten, ?_⟩
    rw [← List.flatten_append, List.replicate_append_replicate]
    congr 2
    omega
  obtain ⟨rest, hrest⟩ := hcells
  refine ⟨(List.replicate l'.toNat zv.cells.toList).flatten, rest, ?_, one_replicate hz1 _, reps_replicate hzr l'.toNat, by rw [← hrest]; simp [hzs]⟩
  simp only [execOp, ho]
  refine run_v ?_
  have hbig : (inf.bytes : Int) * c' ≤ 281474976710656 := by
    have : (inf.bytes : Int) * c' = ((c'.toNat * inf.bytes : Nat) : Int) := by
      rw [Int.natCast_mul, Int.toNat_of_nonneg (by omega), Int.mul_comm]
    rw [this]
    omega
  have hmade : (madeCells zv.cells (c'.toNat * inf.size)) = (List.replicate c'.toNat zv.cells.toList).flatten.toArray := by
    apply Array.ext'
    by_cases hz0 : zv.cells.size = 0
    · have e1 : c'.toNat * inf.size = 0 := by rw [← hzs, hz0]; rfl
      have e2 : (List.replicate c'.toNat zv.cells.toList).flatten = [] := by
        apply List.eq_nil_of_length_eq_zero
        simp [hz0]
      rw [e1, e2]
      simp [madeCells]
    · have := zeros_eq zv.cells c'.toNat (.inl hz0)
      rw [hzs] at this
      simpa [madeCells, hzs] using this
  rw [vl, vc, run_make κ.W t e inf zv hu hinf hzero k1 k2 l' c' h0 h1 hbig (by omega), hmade, hrest]

theorem h_makeSlice {t : TypeId} {l c : Operand} (ho : o.op = .makeSlice t l c) (h : hstep P E H nx o.op = some (p, r, H', nx')) : HOk P o E H nx p r H' nx' := by
  rw [ho] at h
  simp only [hstep] at h
  split at h
  · rename_i e sz by' k1 l' k2 c' hsl el ec
    split at h
    · rename_i z hz
      split at h
      · rename_i hzl
        cases h
        intro base κ ρ hev hp hi hρ
        obtain ⟨ws, rest, hrun, hw1, hw2, hwl⟩ := makeSlice_run ho hsl el ec hz hzl hp hρ
        have hinv := hi.alloc ws rest e _ hw1 hw2
        refine ⟨κ.alloc nx (.cells (ws ++ rest).toArray e), _, .slice (some ⟨κ.W.heap.size, 0, none⟩) l'.toNat c'.toNat, hrun, .inl rfl, ?_, κ.alloc_ext hi _, hinv⟩
        refine .msl _ _ _ _ _ _ κ.W.heap.size _ e (0, 0) (by simp [Cx.alloc]) (by omega) (heap_alloc_at _ _) ?_
        simp only [List.size_toArray]
        omega
      · cases h
    · cases h
  · cases h

/-! ### A new block of any making -/
structure NewBlock (W W' : World) : Prop where
  old : ∀ b : Nat, b < W.heap.size → W'.heap[b]? = W.heap[b]?
  size : W.heap.size < W'.heap.size
  os : W'.os = W.os
  tape : W'.tape = W.tape
  output : W'.output = W.output
def Cx.newF (κ : Cx) (W' : World) : Cx := { W := W', M := κ.M, F := fun b => κ.F b ∨ b = κ.W.heap.size }
theorem Cx.newF_ev {base : Nat} {κ : Cx} (hi : Inv base κ H nx) {W' : World} (h : NewBlock κ.W W') : Ev κ (κ.newF W') :=
  ⟨fun b hb => ⟨.inl hb, h.old b (hi.hF b hb)⟩, fun _ e he => ⟨e, he, .inr rfl⟩, fun b cs T fz hb => ⟨cs, fz, (h.old b (heap_some_lt hb)).trans hb, rfl⟩⟩
theorem Cx.newF_ext {base : Nat} {κ : Cx} (hi : Inv base κ H nx) {W' : World} (h : NewBlock κ.W W') : Ext base κ (κ.newF W') :=
  ⟨κ.newF_ev hi h, h.os, h.tape, h.output, Nat.le_of_lt h.size, fun b hb => h.old b (Nat.lt_of_lt_of_le hb hi.hbase), fun _ hx => hx.elim .inl (fun e => .inr (e ▸ hi.hbase))⟩
theorem Inv.newF {base : Nat} {κ : Cx} (hi : Inv base κ H nx) {W' : World} (h : NewBlock κ.W W') : Inv base (κ.newF W') H nx := by
  refine ⟨fun b hb => ?_, Nat.le_trans hi.hbase (Nat.le_of_lt h.size), hi.hM, fun id ver cells hl => ?_, hi.inj, hi.tab.keep fun b hb => h.old b (Nat.lt_of_lt_of_le hb hi.hbase)⟩
  · rcases hb with hb | rfl
    · exact Nat.lt_trans (hi.hF b hb) h.size
    · exact h.size
  · obtain ⟨e, he, hv, hh⟩ := hi.live id ver cells hl
    exact ⟨e, he, hv, hh.ev (Cx.newF_ev hi h) (fun b hb _ hn hc => hc.elim hn (fun e => by have := hh.lt hb; omega)) (fun b hb => h.old b (hh.lt hb))⟩

theorem byteCells_reps (κ : Cx) (s : ByteArray) : Reps κ (byteCells s) (bytesCells s) := by
  refine ⟨by simp [byteCells, bytesCells], fun j v a h1 h2 => ?_⟩
  unfold byteCells at h1
  unfold bytesCells at h2
  rw [List.getElem?_map] at h1 h2
  cases hj : s.data.toList[j]? with
  | none => rw [hj] at h1; cases h1
  | some x =>
    rw [hj] at h1 h2
    cases h1
    cases h2
    exact .int _ _
theorem convert_run {src dst e : TypeId} {x : Operand} {s : ByteArray} {a' b' : Nat} (ho : o.op = .convert src dst x) (ex : E x = .str s) (hsl : tySl P dst = some (e, a', b')) (hc : tyInt P e = some .u8 ∧ (P.underlying src).isSome = true)
    {base : Nat} {κ : Cx} {ρ : Operand → Value} (hi : Inv base κ H nx) (hρ : ∀ x ∈ o.op.operands.toList, Rep κ.W κ.M κ.F (ρ x) (E x)) :
    ∃ κ' v, (execOp ρ o).run P κ.W = .ok (.value v) κ'.W ∧ Rep κ'.W κ'.M κ'.F v (.sl s.size false (bytesCells s)) ∧ Ext base κ κ' ∧ Inv base κ' H nx := by
      rw [ho] at hρ
      have hx := hρ x (by simp [Op.operands])
      rw [ex] at hx
      have vx := hx.str_inv
      obtain ⟨u, hu⟩ := Option.isSome_iff_exists.1 hc.2
      obtain ⟨hd, _⟩ := tySl_spec hsl
      have hrun := Lib.run_convert_string_bytes (P := P) κ.W src dst e s hu hd (tyInt_spec hc.1)
      have hnb : NewBlock κ.W (Lib.bytesWorld κ.W e s) := by
        refine ⟨Lib.bytesWorld_at_old κ.W e s, by rw [Lib.bytesWorld_size]; omega, ?_, ?_, ?_⟩ <;> rfl
      refine ⟨κ.newF (Lib.bytesWorld κ.W e s), .slice (some ⟨κ.W.heap.size, 0, none⟩) s.size (grownCap κ.W s.size 0 e), ?_, ?_, Cx.newF_ext hi hnb, hi.newF hnb⟩
      · simp only [execOp, ho]
        exact run_v (by rw [vx]; exact hrun)
      · have hge := grownCap_ge κ.W s.size 0 e
        refine Rep.sl_mk (κ := κ.newF (Lib.bytesWorld κ.W e s)) hge (fun h => by cases h) (.inr ⟨_, byteCells s, rfl, .inr rfl, ⟨rfl, fun j v hv => ?_⟩, byteCells_reps _ s⟩)
        unfold byteCells at hv
        rw [List.getElem?_map] at hv
        cases hj : s.data.toList[j]? with
        | none => rw [hj] at hv; cases hv
        | some b =>
          rw [hj] at hv
          cases hv
          have hlt : j < s.size := by
            have := (List.getElem?_eq_some_iff.1 hj).1
            simpa using this
          refine ⟨?_, rfl⟩
          rw [add_lit, Nat.zero_add]
          have := Lib.bytesWorld_cell κ.W e s j hlt
          simp only [Cx.newF]
          rw [this]
          simp [List.getD, hj]
theorem h_convert {src dst : TypeId} {x : Operand} (ho : o.op = .convert src dst x) (h : hstep P E H nx o.op = some (p, r, H', nx')) : HOk P o E H nx p r H' nx' := by
  rw [ho] at h
  simp only [hstep] at h
  split at h
  · rename_i s e a' b' ex hsl
    split at h
    · rename_i hc
      cases h
      intro base κ ρ hev hp hi hρ
      obtain ⟨κ', v, h1, h2, h3, h4⟩ := convert_run ho ex hsl hc hi hρ
      exact ⟨κ', _, v, h1, .inl rfl, h2, h3, h4⟩
    · cases h
  · cases h

theorem srcA_spec {base : Nat} {κ : Cx} (hi : Inv base κ H nx) {tx : TypeId} {sz m : Nat} {a : AV} {xs : List AV} (h : srcA P H tx sz a = some (m, xs)) (hsz : sz ≠ 0) (hl : xs.length = m * sz) {v : Value} (hr : Rep κ.W κ.M κ.F v a) :
    ∃ news, Src P sz tx v m news κ.W ∧ Reps κ news xs := by
  unfold srcA at h
  split at h
  · split at h
    · rename_i s hc
      cases h
      obtain ⟨ht, rfl⟩ := hc
      obtain rfl := hr.str_inv
      exact ⟨_, Src.ofString κ.W (tyStr_spec ht) s, byteCells_reps κ s⟩
    · cases h
  · split at h
    · rename_i ht
      obtain ⟨⟨e, a1, b1⟩, he⟩ := Option.isSome_iff_exists.1 ht
      obtain ⟨hu, _⟩ := tySl_spec he
      obtain ⟨A, c, rfl, hn, hc⟩ := rdSl_spec hi h hr
      rcases hc with rfl | ⟨ad, vs, rfl, hca, hrs⟩
      · have hm : m = 0 := by
          have h0 : m * sz = 0 := by simpa using hl.symm
          rcases Nat.mul_eq_zero.1 h0 with h | h
          · exact h
          · exact absurd h hsz
        subst hm
        cases A with
        | none => exact ⟨[], Src.ofNil κ.W hu c, Reps.nil κ⟩
        | some ad => exact ⟨[], Src.ofSlice κ.W hu ad 0 c [] (by simp) (fun j u hu => by simp at hu) (fun u hu => by cases hu), Reps.nil κ⟩
      · exact ⟨vs, Src.ofSlice κ.W hu ad m c vs (by rw [hrs.1, hl]) (fun j u hu => (hca.2 j u hu).1) hca.one, hrs⟩
    · cases h

/-- THERE IS ROOM: the row is written. -/
theorem run_append_room_row (W : World) (t tx ty e : TypeId) (i : TypeInfo) (ht : P.underlying t = some (.slice e)) (hi : P.info? e = some i) (b sLen sCap : Nat) (T : TypeId) (cur : Array Value)
    (hb : W.heap[b]? = some (Obj.cells cur T (0, 0))) (x : Value) (n : Nat) (news : List Value) (hs : Src P i.size tx x n news W) (hroom : sLen + n ≤ sCap) (hfit : sLen * i.size + news.length ≤ cur.size) :
    (Builtin.append_ #[t, tx] ty #[.slice (some ⟨b, 0, none⟩) sLen sCap, x]).run P W =
      .ok (.slice (some ⟨b, 0, none⟩) (sLen + n) sCap) (W.setRow b (cur.toList.take (sLen * i.size) ++ news ++ cur.toList.drop (sLen * i.size + news.length)).toArray) := by
  have hst := run_storeCells_at P b (sLen * i.size) T news 0 cur W hb (by simpa using hfit) hs.one
  simp only [Nat.add_zero] at hst
  rcases hs.kind with ⟨e', hk⟩ | hk <;> simp [Builtin.append_, run_underlying ht, run_underlying hk, sizeOf, typeInfo, hi, hs.len, hroom, hs.cells, Addr.add_lit, hst]
theorem run_append_none (W : World) (t tx ty e : TypeId) (i : TypeInfo) (ht : P.underlying t = some (.slice e)) (hi : P.info? e = some i) (A : Option Addr) (sLen sCap : Nat) (x : Value) (hs : Src P i.size tx x 0 [] W) (hroom : sLen ≤ sCap) :
    (Builtin.append_ #[t, tx] ty #[.slice A sLen sCap, x]).run P W = .ok (.slice A sLen sCap) W := by
  cases A with
  | none => rcases hs.kind with ⟨e', hk⟩ | hk <;> simp [Builtin.append_, run_underlying ht, run_underlying hk, sizeOf, typeInfo, hi, hs.len, hroom, hs.cells]
  | some a => rcases hs.kind with ⟨e', hk⟩ | hk <;> simp [Builtin.append_, run_underlying ht, run_underlying hk, sizeOf, typeInfo, hi, hs.len, hroom, hs.cells, storeCells]

theorem zeroCells_toList (z : Array Value) (n : Nat) : (Builtin.zeroCells z n).size = n * z.size := size_zeroCells z n
theorem holdsOlds {base : Nat} {κ : Cx} {b : Nat} {vs rest : List Value} {T : TypeId} {fz : Nat × Nat} (hb : κ.W.heap[b]? = some (Obj.cells (vs ++ rest).toArray T fz)) (h1 : ∀ v ∈ vs, v.oneCell' = true) (k : Nat) :
    ∀ (j : Nat) (v : Value), (vs.take k)[j]? = some v → κ.W.cell? ((⟨b, 0, none⟩ : Addr).add j) = some v := fun j v hv => (((cellsAt_block hb h1).take k).2 j v hv).1

/-- The arm that grows, of whatever was there. -/
theorem run_append_new {t tx e : TypeId} {i : TypeInfo} {z : Value} (ht : P.underlying t = some (.slice e)) (hi : P.info? e = some i) (hz : i.zero = some z) (hzs : z.cells.size = i.size) (ty : TypeId) (W : World) (A : Option Addr) (n c : Nat)
    (olds : List Value) (hl : olds.length = n * i.size) (hold : (Builtin.firstCells i.size n (.slice A n c)).run P W.drew = .ok olds.toArray W.drew) {x : Value} {m : Nat} {news : List Value} (hs : Src P i.size tx x m news W) (hg : c < n + m)
    (h1 : (n + m) * i.bytes ≤ 140737488355328) (h2 : n + m ≤ 9223372036854775807) :
    ∃ (rest : List Value) (cap : Nat), n + m ≤ cap ∧ (olds ++ news ++ rest).length = cap * i.size ∧
      (Builtin.append_ #[t, tx] ty #[.slice A n c, x]).run P W = .ok (.slice (some ⟨W.heap.size, 0, none⟩) (n + m) cap) (W.drew.alloc (.cells (olds ++ news ++ rest).toArray e)) := by
  have hrun := run_append_grow_src (P := P) W t tx ty e i z ht hi hz A n c olds hold x m news hs hg (by omega) (growslice_fits hg h1)
  refine ⟨(Builtin.zeroCells z.cells (grownCap W (n + m) c e - (n + m))).toList, grownCap W (n + m) c e, grownCap_ge _ _ _ _, ?_, ?_⟩
  · have hge := grownCap_ge W (n + m) c e
    simp only [List.length_append, hl, hs.newsLen, Array.length_toList, size_zeroCells, hzs, ← Nat.add_mul]
    congr 1
    omega
  · rw [hrun]
    congr 3
    apply Array.ext'
    simp
theorem app_own {t tx e : TypeId} {i : TypeInfo} {z : Value} (ht : P.underlying t = some (.slice e)) (hinf : P.info? e = some i) (hz : i.zero = some z) (hzs : z.cells.size = i.size) (hsz : i.size ≠ 0) (ty : TypeId)
    {base : Nat} {κ : Cx} (hi : Inv base κ H nx) {id ver n m : Nat} {cells xs : List AV} (hl : H id = .live ver cells) {v x : Value} (hv : Rep κ.W κ.M κ.F v (.msl id ver i.size 0 n)) {news : List Value}
    (hs : Src P i.size tx x m news κ.W) (hxs : Reps κ news xs) (h1 : (n + m) * i.bytes ≤ 140737488355328) (h2 : n + m ≤ 9223372036854775807) (h3 : n * i.size ≤ cells.length) :
    ∃ κ' w, (Builtin.append_ #[t, tx] ty #[v, x]).run P κ.W = .ok w κ'.W ∧ Rep κ'.W κ'.M κ'.F w (.msl id (ver + 1) i.size 0 (n + m)) ∧ Ext base κ κ' ∧ Inv base κ' (upd H id (.live (ver + 1) (cells.take (n * i.size) ++ xs))) nx := by
  have hnl := hs.newsLen
  -- growing: whatever the place was
  have grow : ∀ (A : Option Addr) (c : Nat) (olds : List Value) (b0 : Option Nat), v = .slice A n c → κ.M id = some ⟨ver, b0⟩ → olds.length = n * i.size → (∀ u ∈ olds, u.oneCell' = true) → Reps κ olds (cells.take (n * i.size)) →
      (Builtin.firstCells i.size n (.slice A n c)).run P κ.W.drew = .ok olds.toArray κ.W.drew → c < n + m →
      ∃ κ' w, (Builtin.append_ #[t, tx] ty #[v, x]).run P κ.W = .ok w κ'.W ∧ Rep κ'.W κ'.M κ'.F w (.msl id (ver + 1) i.size 0 (n + m)) ∧ Ext base κ κ' ∧ Inv base κ' (upd H id (.live (ver + 1) (cells.take (n * i.size) ++ xs))) nx := by
    intro A c olds b0 ev hm ho ho1 hor hfo hg
    obtain ⟨rest, cap, hc1, hc2, hrun⟩ := run_append_new ht hinf hz hzs ty κ.W A n c olds ho hfo hs hg h1 h2
    -- the states: a draw, a new block, the place moves
    have hid := hi.drew
    let κ1 : Cx := { W := κ.drew.W.alloc (.cells (olds ++ news ++ rest).toArray e), M := κ.M, F := κ.F }
    have ev1 : Ev κ κ1 := by
      refine ⟨fun b hb => ⟨hb, heap_alloc_lt _ _ (hi.hF b hb)⟩, fun _ e he => ⟨e, he, .inr rfl⟩, fun b cs T fz hb => ⟨cs, fz, (heap_alloc_lt κ.drew.W _ (heap_some_lt hb)).trans hb, rfl⟩⟩
    have ext1 : Ext base κ κ1 := ⟨ev1, rfl, rfl, rfl, by simp [κ1, Cx.drew], fun b hb => heap_alloc_lt κ.drew.W _ (Nat.lt_of_lt_of_le hb hi.hbase), fun _ h => .inl h⟩
    have inv1 : Inv base κ1 H nx := by
      refine ⟨fun b hb => Nat.lt_of_lt_of_le (hi.hF b hb) ext1.size, Nat.le_trans hi.hbase ext1.size, hi.hM, fun j vj cj hj => ?_, hi.inj, hi.tab.keep ext1.below⟩
      obtain ⟨e', he', hv', hh⟩ := hi.live j vj cj hj
      exact ⟨e', he', hv', hh.ev ev1 (fun _ _ _ h => h) (fun b hb => heap_alloc_lt κ.drew.W _ (hh.lt hb))⟩
    have hat : κ1.W.heap[κ.W.heap.size]? = some (Obj.cells (olds ++ news ++ rest).toArray e (0, 0)) := heap_alloc_at κ.drew.W _
    have evm : Ev κ1 (κ1.move id ver (some κ.W.heap.size)) := move_ev hm
    refine ⟨κ1.move id ver (some κ.W.heap.size), .slice (some ⟨κ.W.heap.size, 0, none⟩) (n + m) cap, ?_, ?_, ext1.trans (move_ext hm), ?_⟩
    · rw [ev]; exact hrun
    · refine .msl _ _ _ _ _ _ κ.W.heap.size (olds ++ news ++ rest).toArray e (0, 0) (by simp [Cx.move]) hc1 hat ?_
      simp only [List.size_toArray]
      omega
    · refine inv1.move hl hm ?_ (fun j e' x' hj he' hx' hb' => ?_)
      · refine ⟨hi.hbase, fun h => absurd (hi.hF _ h) (Nat.lt_irrefl _), olds ++ news, rest, e, hat, ?_, ?_⟩
        · intro u hu
          rcases List.mem_append.1 hu with hu | hu
          · exact ho1 u hu
          · exact hs.one u hu
        · exact ((hor.append hxs).ev ev1).ev evm
      · cases hH : H j with
        | dead => rfl
        | live vj cj =>
          obtain ⟨e2, he2, _, hh⟩ := hi.live j vj cj hH
          have : e2 = e' := by have := he2.symm.trans he'; simpa using this
          subst this
          have hlt := hh.lt hx'
          have hb2 : κ.W.heap.size = x' := by simpa using hb'
          omega
  rcases hi.msl_inv hl hv with ⟨b, c, cs, T, fz, rfl, hm, hn, hb, hcap⟩ | ⟨A, b0, rfl, hm, hn⟩
  · obtain ⟨hbb, hF, vs, rest, T', hb', hv1, hvr⟩ := hi.place hl hm
    rw [hb'] at hb
    cases hb
    by_cases hroom : n + m ≤ c
    · -- in place
      have hfit : n * i.size + news.length ≤ (vs ++ rest).toArray.size := by
        rw [hnl, ← Nat.add_mul]
        exact Nat.le_trans (Nat.mul_le_mul_right _ hroom) (by simpa using hcap)
      have hrun := run_append_room_row κ.W t tx ty e i ht hinf b n c T _ hb' x m news hs hroom hfit
      have hvl : n * i.size ≤ vs.length := by rw [hvr.1]; exact h3
      -- the new row
      have hrow : (vs ++ rest).toArray.toList.take (n * i.size) ++ news ++ (vs ++ rest).toArray.toList.drop (n * i.size + news.length) = (vs.take (n * i.size) ++ news) ++ (vs ++ rest).drop (n * i.size + news.length) := by
        simp only
        rw [List.take_append_of_le_length hvl]
      rw [hrow] at hrun
      have hlen : ((vs.take (n * i.size) ++ news) ++ (vs ++ rest).drop (n * i.size + news.length)).length = (vs ++ rest).toArray.size := by
        have := hfit
        simp only [List.size_toArray] at this
        simp only [List.length_append, List.length_take, List.length_drop, List.size_toArray] at *
        omega
      have hone : ∀ u ∈ vs.take (n * i.size) ++ news, u.oneCell' = true := by
        intro u hu
        rcases List.mem_append.1 hu with hu | hu
        · exact hv1 u (List.mem_of_mem_take hu)
        · exact hs.one u hu
      have hrep : Reps κ (vs.take (n * i.size) ++ news) (cells.take (n * i.size) ++ xs) := (hvr.take _).append hxs
      have inv1 := hi.setRow hl hm hb' hF _ _ hlen hone hrep
      have ext1 := setRow_ext (base := base) hb' hF (show ((vs.take (n * i.size) ++ news) ++ (vs ++ rest).drop (n * i.size + news.length)).toArray.size = _ by simpa using hlen) hbb
      have hm1 : (κ.setRow b ((vs.take (n * i.size) ++ news) ++ (vs ++ rest).drop (n * i.size + news.length)).toArray).M id = some ⟨ver, some b⟩ := hm
      have inv2 := inv1.move (b' := some b) (upd_same _ _ _) hm1 (cells' := cells.take (n * i.size) ++ xs) (by
        obtain ⟨_, he, _, hh⟩ := inv1.live id ver _ (upd_same _ _ _)
        rw [hm1] at he
        cases he
        exact hh.ev (move_ev hm1) (fun _ _ _ h => h) (fun _ _ => rfl)) (fun j e' x' hj he' hx' hb2 => by
          have hb3 : b = x' := by simpa using hb2
          subst hb3
          rcases inv1.inj j id e' ⟨ver, some b⟩ b hj he' hm1 hx' rfl with h | h
          · exact h
          · rw [upd_same] at h; cases h)
      rw [upd_upd] at inv2
      refine ⟨_, _, hrun, ?_, ext1.trans (move_ext hm1), inv2⟩
      refine .msl _ _ _ _ _ _ b _ T (0, 0) (by simp [Cx.move]) hroom (setRow_heap _ _ _ _ _ _ hb') ?_
      simp only [Nat.zero_add] at hcap ⊢
      have : ((vs.take (n * i.size) ++ news) ++ (vs ++ rest).drop (n * i.size + news.length)).toArray.size = (vs ++ rest).toArray.size := by simpa using hlen
      rw [this]
      exact hcap
    · -- it grows
      have ho : (vs.take (n * i.size)).length = n * i.size := by rw [List.length_take, hvr.1]; omega
      refine grow (some ⟨b, 0, none⟩) c (vs.take (n * i.size)) (some b) rfl hm ho (fun u hu => hv1 u (List.mem_of_mem_take hu)) (hvr.take _) ?_ (by omega)
      exact run_firstCells_some (P := P) κ.W.drew i.size n ⟨b, 0, none⟩ n c _ ho (holdsOlds (base := base) (κ := κ.drew) hb' hv1 _)
  · subst hn
    by_cases hm0 : m = 0
    · subst hm0
      have hnews : news = [] := by
        apply List.eq_nil_of_length_eq_zero
        rw [hnl]
        simp
      subst hnews
      have hxnil : xs = [] := by
        apply List.eq_nil_of_length_eq_zero
        rw [← hxs.1]
        rfl
      subst hxnil
      have hrun := run_append_none κ.W t tx ty e i ht hinf A 0 0 x hs (Nat.le_refl _)
      refine ⟨κ.move id ver b0, .slice A 0 0, hrun, .mslNil _ _ _ _ _ b0 (by simp [Cx.move]), move_ext hm, ?_⟩
      refine hi.move hl hm ?_ (fun j e' x' hj he' hx' hb2 => ?_)
      · obtain ⟨e', he', _, hh⟩ := hi.live id ver cells hl
        rw [hm] at he'
        cases he'
        unfold Held at *
        cases b0 with
        | none => simp
        | some b =>
          obtain ⟨q1, q2, vs, rest, T, q3, q4, q5⟩ := hh
          exact ⟨q1, q2, [], vs ++ rest, T, q3, (fun _ h => by cases h), by simpa using Reps.nil _⟩
      · rcases hi.inj j id e' ⟨ver, b0⟩ x' hj he' hm hx' hb2 with h | h
        · exact h
        · rw [h] at hl; cases hl
    · refine grow A 0 [] b0 rfl hm (by simp) (fun _ h => by cases h) (by simpa using Reps.nil κ) ?_ (by omega)
      cases A with
      | none => exact run_firstCells_none _ _ _ _ _
      | some ad => exact run_firstCells_some (P := P) κ.W.drew i.size 0 ad 0 0 [] (by simp) (fun j v h => by simp at h)
end
end Go.TH

/-
  TH, part 11: append and copy as operations; all operations together.
-/
set_option linter.unusedVariables false
set_option linter.unusedSimpArgs false
namespace Go.TH
open Go
section
variable {P : Program} {o : Oper} {E : Operand → AV} {H : AH} {nx : Nat} {p : Prop} {r : AV} {H' : AH} {nx' : Nat}

theorem app_tight {t tx e : TypeId} {i : TypeInfo} {z : Value} (ht : P.underlying t = some (.slice e)) (hinf : P.info? e = some i) (hz : i.zero = some z) (hzs : z.cells.size = i.size) (hsz : i.size ≠ 0) (ty : TypeId)
    {base : Nat} {κ : Cx} (hi : Inv base κ H nx) {n m : Nat} {cells xs : List AV} {v x : Value} (hv : Rep κ.W κ.M κ.F v (.sl n true cells)) {news : List Value}
    (hs : Src P i.size tx x m news κ.W) (hxs : Reps κ news xs) (hm : m ≠ 0) (h1 : (n + m) * i.bytes ≤ 140737488355328) (h2 : n + m ≤ 9223372036854775807) (h3 : n * i.size ≤ cells.length) :
    ∃ κ' w, (Builtin.append_ #[t, tx] ty #[v, x]).run P κ.W = .ok w κ'.W ∧ Rep κ'.W κ'.M κ'.F w (.msl nx 0 i.size 0 (n + m)) ∧ Ext base κ κ' ∧ Inv base κ' (upd H nx (.live 0 (cells.take (n * i.size) ++ xs))) (nx + 1) := by
  obtain ⟨A, c, rfl, hn, htt, hcl⟩ := hv.sl_inv
  have hc : c = n := htt rfl
  subst hc
  have old : ∃ olds : List Value, olds.length = c * i.size ∧ (∀ u ∈ olds, u.oneCell' = true) ∧ Reps κ olds (cells.take (c * i.size)) ∧
      (Builtin.firstCells i.size c (.slice A c c)).run P κ.W.drew = .ok olds.toArray κ.W.drew := by
    rcases hcl with rfl | ⟨ad, vs, rfl, _, hca, hr⟩
    · have hc0 : c = 0 := by
        simp at h3
        rcases Nat.mul_eq_zero.1 (show c * i.size = 0 by omega) with h | h
        · exact h
        · exact absurd h hsz
      subst hc0
      refine ⟨[], by simp, (fun _ h => by cases h), by simpa using Reps.nil κ, ?_⟩
      cases A with
      | none => exact run_firstCells_none _ _ _ _ _
      | some ad => exact run_firstCells_some (P := P) κ.W.drew i.size 0 ad 0 0 [] (by simp) (fun j v h => by simp at h)
    · have hl : (vs.take (c * i.size)).length = c * i.size := by rw [List.length_take, hr.1]; omega
      refine ⟨vs.take (c * i.size), hl, (hca.take _).one, hr.take _, ?_⟩
      exact run_firstCells_some (P := P) κ.W.drew i.size c ad c c _ hl (fun j v hv => ((hca.take _).2 j v hv).1)
  obtain ⟨olds, ho, ho1, hor, hfo⟩ := old
  obtain ⟨rest, cap, hc1, hc2, hrun⟩ := run_append_new ht hinf hz hzs ty κ.W A c c olds ho hfo hs (by omega) h1 h2
  have hid := hi.drew
  have hone : ∀ u ∈ olds ++ news, u.oneCell' = true := by
    intro u hu
    rcases List.mem_append.1 hu with hu | hu
    · exact ho1 u hu
    · exact hs.one u hu
  have hinv := hid.alloc (olds ++ news) rest e _ hone ((hor.append hxs).ev (.drew κ))
  refine ⟨κ.drew.alloc nx (.cells (olds ++ news ++ rest).toArray e), _, hrun, ?_, (Ext.drew base κ).trans (κ.drew.alloc_ext hid _), hinv⟩
  refine .msl _ _ _ _ _ _ κ.W.heap.size (olds ++ news ++ rest).toArray e (0, 0) (by simp [Cx.alloc, Cx.drew]) hc1 (heap_alloc_at κ.drew.W _) ?_
  simp only [List.size_toArray]
  omega

theorem h_append {c : Call} {t tx : TypeId} {s x : AV} (ho : o.op = .call c) (hb : c.callee = .builtin .append) (hty : c.argTypes.toList = [t, tx]) (hargs : c.args.toList.map E = [s, x])
    (h : appA P H nx t tx s x = some (p, r, H', nx')) : HOk P o E H nx p r H' nx' := by
  intro base κ ρ hev hp hi hρ
  rw [ho] at hρ
  have hall : ∀ y ∈ c.args.toList, Rep κ.W κ.M κ.F (ρ y) (E y) := fun y hy => hρ y (by simp [Op.operands, Call.operands, hb, hy])
  obtain ⟨so, xo, hxo, hse, hxe⟩ : ∃ so xo, c.args.toList = [so, xo] ∧ E so = s ∧ E xo = x := by
    match hq : c.args.toList with
    | [] => rw [hq] at hargs; simp at hargs
    | [_] => rw [hq] at hargs; simp at hargs
    | [so, xo] => rw [hq] at hargs; simp at hargs; exact ⟨so, xo, rfl, hargs.1, hargs.2⟩
    | _ :: _ :: _ :: _ => rw [hq] at hargs; simp at hargs
  have hargs' : c.args = #[so, xo] := by rw [← Array.toArray_toList (xs := c.args), hxo]
  have hty' : c.argTypes = #[t, tx] := by rw [← Array.toArray_toList (xs := c.argTypes), hty]
  have hvs := hall so (by rw [hxo]; simp)
  have hvx := hall xo (by rw [hxo]; simp)
  rw [hse] at hvs
  rw [hxe] at hvx
  have fin : ∀ {v : Value} {W' : World}, (Builtin.append_ #[t, tx] o.type #[ρ so, ρ xo]).run P κ.W = .ok v W' → (execOp ρ o).run P κ.W = .ok (.value v) W' := by
    intro v W' hv
    simp only [execOp, ho, resolve, hb, Sem.run_bind, Sem.run_pure, Result.andThen_ok, invoke, builtin]
    have : (#[so, xo].map ρ) = #[ρ so, ρ xo] := by simp
    rw [hargs', hty', this, hv]
    rfl
  unfold appA at h
  split at h
  · cases h
  · rename_i e sz by' hsl
    split at h
    · rename_i z m xs hz hsrc
      split at h
      · rename_i hzl
        obtain ⟨hu, inf, hinf, hsz, hby⟩ := tySl_spec hsl
        obtain ⟨i, zv, hinf', hzero, hzs, hz1, rfl⟩ := tyZ_spec hz
        rw [hinf] at hinf'
        cases hinf'
        subst hsz
        subst hby
        split at h
        · rename_i id ver sz' off n
          split at h
          · rename_i v cells hl
            cases h
            obtain ⟨rfl, rfl, rfl, h1, h2, h3, h4⟩ := hp
            obtain ⟨news, hsr, hnr⟩ := srcA_spec hi hsrc hzl.2 h3 hvx
            obtain ⟨κ', w, hrun, hrep, hext, hinv⟩ := app_own hu hinf hzero hzs hzl.2 o.type hi hl hvs hsr hnr h1 h2 h4
            exact ⟨κ', _, w, fin hrun, .inl rfl, hrep, hext, hinv⟩
          · cases h
        · rename_i n cells
          split at h
          · rename_i hm
            cases h
            subst hm
            obtain ⟨news, hsr, hnr⟩ := srcA_spec hi hsrc hzl.2 hp hvx
            have hn0 : news = [] := by
              apply List.eq_nil_of_length_eq_zero
              rw [hsr.newsLen]
              simp
            subst hn0
            obtain ⟨A, c', vs', hn, _⟩ := hvs.sl_inv
            refine ⟨κ, _, ρ so, fin ?_, .inl rfl, hvs, .refl _ _, hi⟩
            rw [vs']
            exact run_append_none κ.W t tx o.type e inf hu hinf A n c' (ρ xo) hsr hn
          · rename_i hm
            cases h
            obtain ⟨h1, h2, h3, h4⟩ := hp
            obtain ⟨news, hsr, hnr⟩ := srcA_spec hi hsrc hzl.2 h3 hvx
            obtain ⟨κ', w, hrun, hrep, hext, hinv⟩ := app_tight hu hinf hzero hzs hzl.2 o.type hi hvs hsr hnr hm h1 h2 h4
            exact ⟨κ', _, w, fin hrun, .inl rfl, hrep, hext, hinv⟩
        · cases h
      · cases h
    · cases h

theorem h_copy {c : Call} {t tx : TypeId} {d x : AV} (ho : o.op = .call c) (hb : c.callee = .builtin .copy) (hty : c.argTypes.toList = [t, tx]) (hargs : c.args.toList.map E = [d, x])
    (h : copA P H nx t tx d x = some (p, r, H', nx')) : HOk P o E H nx p r H' nx' := by
  intro base κ ρ hev hp hi hρ
  rw [ho] at hρ
  have hall : ∀ y ∈ c.args.toList, Rep κ.W κ.M κ.F (ρ y) (E y) := fun y hy => hρ y (by simp [Op.operands, Call.operands, hb, hy])
  obtain ⟨so, xo, hxo, hse, hxe⟩ : ∃ so xo, c.args.toList = [so, xo] ∧ E so = d ∧ E xo = x := by
    match hq : c.args.toList with
    | [] => rw [hq] at hargs; simp at hargs
    | [_] => rw [hq] at hargs; simp at hargs
    | [so, xo] => rw [hq] at hargs; simp at hargs; exact ⟨so, xo, rfl, hargs.1, hargs.2⟩
    | _ :: _ :: _ :: _ => rw [hq] at hargs; simp at hargs
  have hargs' : c.args = #[so, xo] := by rw [← Array.toArray_toList (xs := c.args), hxo]
  have hty' : c.argTypes = #[t, tx] := by rw [← Array.toArray_toList (xs := c.argTypes), hty]
  have hvs := hall so (by rw [hxo]; simp)
  have hvx := hall xo (by rw [hxo]; simp)
  rw [hse] at hvs
  rw [hxe] at hvx
  have fin : ∀ {v : Value} {W' : World}, (Builtin.copy_ #[t, tx] o.type #[ρ so, ρ xo]).run P κ.W = .ok v W' → (execOp ρ o).run P κ.W = .ok (.value v) W' := by
    intro v W' hv
    simp only [execOp, ho, resolve, hb, Sem.run_bind, Sem.run_pure, Result.andThen_ok, invoke, builtin]
    have : (#[so, xo].map ρ) = #[ρ so, ρ xo] := by simp
    rw [hargs', hty', this, hv]
    rfl
  unfold copA at h
  split at h
  · cases h
  · rename_i e sz by' hsl
    split at h
    · rename_i m xs id ver sz' off n hsrc
      split at h
      · rename_i v cells hl
        cases h
        obtain ⟨rfl, rfl, h3, h4⟩ := hp
        obtain ⟨hu, inf, hinf, hsz, hby⟩ := tySl_spec hsl
        subst hsz
        -- what is copied
        have hsrc2 : ∃ ws : List Value, (Builtin.lenOf (ρ xo)).run P κ.W = .ok m κ.W ∧ (Builtin.firstCells inf.size (min m n) (ρ xo)).run P κ.W = .ok ws.toArray κ.W ∧ ws.length = min m n * inf.size ∧ (∀ u ∈ ws, u.oneCell' = true) ∧ Reps κ ws (xs.take (min m n * inf.size)) := by
          have hmn : min m n * inf.size ≤ m * inf.size := Nat.mul_le_mul_right _ (Nat.min_le_left _ _)
          unfold srcA at hsrc
          split at hsrc
          · split at hsrc
            · rename_i s hc
              cases hsrc
              obtain ⟨hts, h1z⟩ := hc
              have vx := hvx.str_inv
              have hr := (byteCells_reps κ s).take (min s.size n * inf.size)
              refine ⟨(byteCells s).take (min s.size n * inf.size), by rw [vx]; rfl, ?_, ?_, ?_, hr⟩
              · rw [vx]
                simp only [Builtin.firstCells, Sem.run_pure]
                congr 1
                apply Array.ext'
                simp only [byteCells, h1z, Nat.mul_one, Array.toList_map, List.map_take]
                congr 1
                simp [ByteArray.extract, ByteArray.copySlice]
              · rw [List.length_take, byteCells_length, h1z]; omega
              · intro u hu
                have := List.mem_of_mem_take hu
                unfold byteCells at this
                obtain ⟨_, _, rfl⟩ := List.mem_map.1 this
                rfl
            · cases hsrc
          · split at hsrc
            · obtain ⟨A, c', vx, hn, hcl⟩ := rdSl_spec hi hsrc hvx
              rcases hcl with rfl | ⟨ad, vs, rfl, hca, hrs⟩
              · have h0 : min m n * inf.size = 0 := by simp at h3; omega
                refine ⟨[], by rw [vx]; rfl, ?_, by simp [h0], (fun _ h => by cases h), by simpa using Reps.nil κ⟩
                rw [vx]
                cases A with
                | none => exact run_firstCells_none _ _ _ _ _
                | some ad => exact run_firstCells_some (P := P) κ.W inf.size (min m n) ad m c' [] (by simp [h0]) (fun j v h => by simp at h)
              · have hl' : (vs.take (min m n * inf.size)).length = min m n * inf.size := by rw [List.length_take, hrs.1]; omega
                refine ⟨vs.take (min m n * inf.size), by rw [vx]; rfl, ?_, hl', (hca.take _).one, hrs.take _⟩
                rw [vx]
                exact run_firstCells_some (P := P) κ.W inf.size (min m n) ad m c' _ hl' (fun j v hv => ((hca.take _).2 j v hv).1)
            · cases hsrc
        obtain ⟨ws, hlen, hfirst, hwl, hw1, hwr⟩ := hsrc2
        rcases hi.msl_inv hl hvs with ⟨b, c', cs, T, fz, vd, hm, hn, hb0, hcap⟩ | ⟨A, b0, vd, hm, hn⟩
        · obtain ⟨hbb, hF, vs, rest, T', hb', hv1, hvr⟩ := hi.place hl hm
          have hmn : min m n * inf.size ≤ n * inf.size := Nat.mul_le_mul_right _ (Nat.min_le_right _ _)
          have hst := run_storeCells_at P b off T' ws 0 (vs ++ rest).toArray κ.W hb' (by have := hvr.1; simp; omega) hw1
          simp only [Nat.add_zero] at hst
          have hsplit : (vs ++ rest).toArray.toList.take off ++ ws ++ (vs ++ rest).toArray.toList.drop (off + ws.length) = (vs.take off ++ ws ++ vs.drop (off + min m n * inf.size)) ++ rest := by
            have := hvr.1
            simp only [List.append_assoc]
            rw [List.take_append_of_le_length (by omega), List.drop_append_of_le_length (by omega), hwl]
          rw [hsplit] at hst
          have hnew : Reps κ (vs.take off ++ ws ++ vs.drop (off + min m n * inf.size)) (cells.take off ++ xs.take (min m n * inf.size) ++ cells.drop (off + min m n * inf.size)) := ((hvr.take off).append hwr).append (hvr.drop _)
          have hll : ((vs.take off ++ ws ++ vs.drop (off + min m n * inf.size)) ++ rest).length = (vs ++ rest).toArray.size := by
            have := hvr.1
            simp
            omega
          have hinv := hi.setRow hl hm hb' hF (vs.take off ++ ws ++ vs.drop (off + min m n * inf.size)) rest hll (fun u hu => by
            simp only [List.mem_append] at hu
            rcases hu with (hu | hu) | hu
            · exact hv1 u (List.mem_of_mem_take hu)
            · exact hw1 u hu
            · exact hv1 u (List.mem_of_mem_drop hu)) hnew
          refine ⟨κ.setRow b _, _, .int .i64 (min m n : Nat), fin ?_, .inl rfl, .int _ _, setRow_ext hb' hF (by simpa using hll) hbb, hinv⟩
          rw [vd]
          have hmin : Nat.min m n = min m n := rfl
          simp [Builtin.copy_, run_underlying hu, hlen, run_sizeOf hinf, hmin, hfirst, hst, goInt, Cx.setRow]
        · subst hn
          have h0 : min m 0 = 0 := by omega
          rw [h0] at hfirst hwl hwr ⊢
          have hws : ws = [] := List.eq_nil_of_length_eq_zero (by simpa using hwl)
          subst hws
          refine ⟨κ, _, .int .i64 (0 : Nat), fin ?_, .inl rfl, .int _ _, .refl _ _, ?_⟩
          · rw [vd]
            have hmin : Nat.min m 0 = 0 := by simp
            cases A <;> simp [Builtin.copy_, run_underlying hu, hlen, run_sizeOf hinf, hmin, hfirst, goInt, storeCells]
          · have : upd H id (.live v (cells.take off ++ xs.take (0 * inf.size) ++ cells.drop (off + 0 * inf.size))) = H := by
              funext j
              by_cases hj : j = id
              · subst hj; rw [upd_same, hl]; simp
              · rw [upd_ne _ _ hj]
            rw [this]
            exact hi
      · cases h
    · cases h
theorem h_clear {c : Call} {t : TypeId} {x : AV} (ho : o.op = .call c) (hb : c.callee = .builtin .clear) (hty : c.argTypes.toList = [t]) (hargs : c.args.toList.map E = [x])
    (h : clrA P H nx t x = some (p, r, H', nx')) : HOk P o E H nx p r H' nx' := by
  intro base κ ρ hev hp hi hρ
  rw [ho] at hρ
  have hall : ∀ y ∈ c.args.toList, Rep κ.W κ.M κ.F (ρ y) (E y) := fun y hy => hρ y (by simp [Op.operands, Call.operands, hb, hy])
  obtain ⟨xo, hxo, hxe⟩ : ∃ xo, c.args.toList = [xo] ∧ E xo = x := by
    match hq : c.args.toList with
    | [] => rw [hq] at hargs; simp at hargs
    | [xo] => rw [hq] at hargs; simp at hargs; exact ⟨xo, rfl, hargs⟩
    | _ :: _ :: _ => rw [hq] at hargs; simp at hargs
  have hargs' : c.args = #[xo] := by rw [← Array.toArray_toList (xs := c.args), hxo]
  have hty' : c.argTypes = #[t] := by rw [← Array.toArray_toList (xs := c.argTypes), hty]
  have hvx := hall xo (by rw [hxo]; simp)
  rw [hxe] at hvx
  have fin : ∀ {v : Value} {W' : World}, (Builtin.clear_ #[t] o.type #[ρ xo]).run P κ.W = .ok v W' → (execOp ρ o).run P κ.W = .ok (.value v) W' := by
    intro v W' hv
    simp only [execOp, ho, resolve, hb, Sem.run_bind, Sem.run_pure, Result.andThen_ok, invoke, builtin]
    have : (#[xo].map ρ) = #[ρ xo] := by simp
    rw [hargs', hty', this, hv]
    rfl
  unfold clrA at h
  split at h
  · cases h
  · rename_i e sz by' hsl
    split at h
    · rename_i z id ver sz' off n hz
      split at h
      · rename_i v cells hl
        split at h
        · rename_i hzl
          cases h
          obtain ⟨rfl, rfl, h4⟩ := hp
          obtain ⟨hu, inf, hinf, hsz, hby⟩ := tySl_spec hsl
          subst hsz
          obtain ⟨i, zv, hinf', hzero, hzs, hz1, rfl⟩ := tyZ_spec hz
          obtain rfl : inf = i := by rw [hinf] at hinf'; exact Option.some.inj hinf'
          have tup0 : ∀ {κ' : Cx}, Rep κ'.W κ'.M κ'.F (.tuple #[]) (.tup []) := .tup [] [] rfl (fun j v a h => by simp at h)
          have same : n = 0 → upd H id (.live v (cells.take off ++ (List.replicate n (zv.cells.toList.map cst1)).flatten ++ cells.drop (off + n * inf.size))) = H := by
            rintro rfl
            funext j
            by_cases hj : j = id
            · subst hj; rw [upd_same, hl]; simp
            · rw [upd_ne _ _ hj]
          by_cases h0 : n = 0
          · rw [same h0]
            subst h0
            refine ⟨κ, _, .tuple #[], fin ?_, .inl rfl, tup0, .refl _ _, hi⟩
            rcases hi.msl_inv hl hvx with ⟨b, c', cs, T, fz, vd, hm, hn, hb0, hcap⟩ | ⟨A, b0, vd, hm, hn⟩
            · rw [vd]; simp [Builtin.clear_, run_underlying hu]
            · rw [vd]; cases A <;> simp [Builtin.clear_, run_underlying hu]
          · rcases hi.msl_inv hl hvx with ⟨b, c', cs, T, fz, vd, hm, hn, hb0, hcap⟩ | ⟨A, b0, vd, hm, hn⟩
            · obtain ⟨hbb, hF, vs, rest, T', hb', hv1, hvr⟩ := hi.place hl hm
              have hzr : (Builtin.zeroCells zv.cells n).toList = (List.replicate n zv.cells.toList).flatten := by
                by_cases hz0 : zv.cells.size = 0
                · have hz2 : zv.cells.toList = [] := by simpa using hz0
                  rw [hz2]
                  simp [Builtin.zeroCells, hz0]
                · exact zeros_eq zv.cells n (.inl hz0)
              have hwl : (List.replicate n zv.cells.toList).flatten.length = n * inf.size := by simp [hzs]
              have hw1 := one_replicate hz1 n
              have hwr := reps_replicate (cst_reps κ zv.cells.toList) n
              generalize (List.replicate n zv.cells.toList).flatten = ws at *
              have hst := run_storeCells_at P b off T' ws 0 (vs ++ rest).toArray κ.W hb' (by have := hvr.1; simp; omega) hw1
              simp only [Nat.add_zero] at hst
              have hsplit : (vs ++ rest).toArray.toList.take off ++ ws ++ (vs ++ rest).toArray.toList.drop (off + ws.length) = (vs.take off ++ ws ++ vs.drop (off + n * inf.size)) ++ rest := by
                have := hvr.1
                simp only [List.append_assoc]
                rw [List.take_append_of_le_length (by omega), List.drop_append_of_le_length (by omega), hwl]
              rw [hsplit] at hst
              have hnew := ((hvr.take off).append hwr).append (hvr.drop (off + n * inf.size))
              have hll : ((vs.take off ++ ws ++ vs.drop (off + n * inf.size)) ++ rest).length = (vs ++ rest).toArray.size := by
                have := hvr.1
                simp
                omega
              have hinv := hi.setRow hl hm hb' hF (vs.take off ++ ws ++ vs.drop (off + n * inf.size)) rest hll (fun u hu => by
                simp only [List.mem_append] at hu
                rcases hu with (hu | hu) | hu
                · exact hv1 u (List.mem_of_mem_take hu)
                · exact hw1 u hu
                · exact hv1 u (List.mem_of_mem_drop hu)) hnew
              refine ⟨κ.setRow b _, _, .tuple #[], fin ?_, .inl rfl, tup0, setRow_ext hb' hF (by simpa using hll) hbb, hinv⟩
              rw [vd]
              obtain ⟨m, rfl⟩ : ∃ m, n = m + 1 := ⟨n - 1, by omega⟩
              simp [Builtin.clear_, run_underlying hu, zeroValue, typeInfo, hinf, hzero, hzr, hst, Cx.setRow]
            · exact absurd hn h0
        · cases h
      · cases h
    · cases h
theorem h_makeMap {t : TypeId} {r0 : Option Operand} (ho : o.op = .makeMap t r0) (h : hstep P E H nx o.op = some (p, r, H', nx')) : HOk P o E H nx p r H' nx' := by
  rw [ho] at h
  cases r0 with
  | some x => simp [hstep] at h
  | none =>
    simp only [hstep, Option.some.injEq, Prod.mk.injEq] at h
    obtain ⟨rfl, rfl, rfl, rfl⟩ := h
    intro base κ ρ hev hp hi hρ
    have nb : NewBlock κ.W (κ.W.alloc (.map #[] 0)) := ⟨fun b hb => heap_alloc_lt _ _ hb, by simp, rfl, rfl, rfl⟩
    refine ⟨κ.newF (κ.W.alloc (.map #[] 0)), _, .map (some κ.W.heap.size), ?_, .inl rfl, .junk _, κ.newF_ext hi nb, Inv.newF hi nb⟩
    simp [execOp, ho, Instr.makeMap, Cx.newF]
theorem hstep_sound (h : hstep P E H nx o.op = some (p, r, H', nx')) : HOk P o E H nx p r H' nx' := by
  cases ho : o.op with
  | alloc t => exact h_alloc ho h
  | box t x => exact h_box ho h
  | buildSlice t len parts => exact h_buildSlice ho h
  | store t x y => exact h_store ho h
  | makeSlice t l c => exact h_makeSlice ho h
  | convert src dst x => exact h_convert ho h
  | makeMap t r => exact h_makeMap ho h
  | call c =>
    rw [ho] at h
    simp only [hstep] at h
    split at h
    · rename_i t tx s x hb hty hargs
      exact h_append ho hb hty hargs h
    · rename_i t tx d x hb hty hargs
      exact h_copy ho hb hty hargs h
    · rename_i t x hb hty hargs
      exact h_clear ho hb hty hargs h
    · cases h
  | _ => rw [ho] at h; simp [hstep] at h
end
end Go.TH

/-
  TH, part 12: what a piece of code comes to, on abstract states.
-/
set_option linter.unusedVariables false
set_option linter.unusedSimpArgs false
namespace Go.TH
open Go

structure ASt where
  tmps : List AV
  H : AH
  nx : Nat

def evA (tmps : List AV) : Operand → AV
  | .tmp t => tmps.getD t .junk
  | .const v => cstA v
  | .func f => .fn f []
  | .global _ => .junk
def putA (tmps : List AV) (dst : Option Tmp) (a : AV) : List AV :=
  match dst with
  | some d => tmps.set d a
  | none => tmps

/-- A function can be entered. -/
def Enters (P : Program) (f : FuncId) : Prop := ∃ fn, P.funcs[f]? = some fn ∧ (fn.name == "runtime.NumGoroutine") = false ∧ fn.body.isNone = false

/-- A CONTRACT: called on arguments that stand for 'args', the function returns what stands for 'r', and leaves 'H''. -/
def CallC (P : Program) (f : FuncId) (args : List AV) (H : AH) (nx : Nat) (r : AV) (H' : AH) (nx' : Nat) : Prop :=
  Enters P f ∧ ∀ (base : Nat) (κ : Cx) (vs : List Value), Inv base κ H nx → Reps κ vs args →
    Calls P f vs.toArray κ.W fun e W' => ∃ v κ', e = .returned v ∧ κ'.W = W' ∧ Rep κ'.W κ'.M κ'.F v r ∧ Ext base κ κ' ∧ Inv base κ' H' nx'
/-- What comes back, by a law. -/
def ACall (P : Program) (f : FuncId) (args : List AV) (H : AH) (nx : Nat) (Q : AV → AH → Nat → Prop) : Prop :=
  Enters P f ∧ ∀ (base : Nat) (κ : Cx) (vs : List Value), Inv base κ H nx → Reps κ vs args →
    Calls P f vs.toArray κ.W fun e W' => ∃ r H' nx', Q r H' nx' ∧ ∃ v κ', e = .returned v ∧ κ'.W = W' ∧ Rep κ'.W κ'.M κ'.F v r ∧ Ext base κ κ' ∧ Inv base κ' H' nx'
abbrev CallQ := @ACall
/-- One result, told beforehand. -/
def ACallD (P : Program) (f : FuncId) (args : List AV) (H : AH) (nx : Nat) (K : AV → AH → Nat → Prop) : Prop :=
  ∃ r H' nx', CallC P f args H nx r H' nx' ∧ K r H' nx'
theorem ACallD.toA {P : Program} {f : FuncId} {args : List AV} {H : AH} {nx : Nat} {K : AV → AH → Nat → Prop} (h : ACallD P f args H nx K) : ACall P f args H nx K := by
  obtain ⟨r, H', nx', h, k⟩ := h
  exact ⟨h.1, fun base κ vs hi hr => (h.2 base κ vs hi hr).mono fun e W' h => ⟨r, H', nx', k, h⟩⟩
theorem ACallD.mono {P : Program} {f : FuncId} {args : List AV} {H : AH} {nx : Nat} {K K' : AV → AH → Nat → Prop} (h : ACallD P f args H nx K) (hk : ∀ r H' nx', K r H' nx' → K' r H' nx') : ACallD P f args H nx K' := by
  obtain ⟨r, H', nx', h, k⟩ := h
  exact ⟨r, H', nx', h, hk _ _ _ k⟩
theorem ACall.mono {P : Program} {f : FuncId} {args : List AV} {H : AH} {nx : Nat} {K K' : AV → AH → Nat → Prop} (h : ACall P f args H nx K) (hk : ∀ r H' nx', K r H' nx' → K' r H' nx') : ACall P f args H nx K' :=
  ⟨h.1, fun base κ vs hi hr => (h.2 base κ vs hi hr).mono fun e W' ⟨r, H', nx', k, h⟩ => ⟨r, H', nx', hk _ _ _ k, h⟩⟩
def bindP {α : Type} (x : Option (Prop × α)) (k : α → Prop) : Prop :=
  match x with
  | some (p, a) => p ∧ k a
  | none => False

def astep (P : Program) (E : Operand → AV) (H : AH) (nx : Nat) (op : Op) : Option (Prop × AV × AH × Nat) :=
  match qstep P E H op with
  | some (p, r) => some (p, r, H, nx)
  | none => hstep P E H nx op

def callV : Op → Option (Operand × List Operand)
  | .call c => (match c.callee with | .value f => some (f, c.args.toList) | _ => none)
  | _ => none

def aop (P : Program) (dst : Option Tmp) (op : Op) (s : ASt) (K : ASt → Prop) : Prop :=
  match callV op with
  | some (f, args) => (match evA s.tmps f with
      | .fn g cap => ACallD P g (args.map (evA s.tmps) ++ cap) s.H s.nx (fun r H' nx' => K ⟨putA s.tmps dst r, H', nx'⟩)
      | .bfn g bnd => ACallD P g (bnd ++ args.map (evA s.tmps)) s.H s.nx (fun r H' nx' => K ⟨putA s.tmps dst r, H', nx'⟩)
      | _ => False)
  | none => bindP (astep P (evA s.tmps) s.H s.nx op) (fun x => K ⟨putA s.tmps dst x.1, x.2.1, x.2.2⟩)

/-- The same, each call with its one result. -/
def aopD (P : Program) (dst : Option Tmp) (op : Op) (s : ASt) (K : ASt → Prop) : Prop :=
  match callV op with
  | some (f, args) => (match evA s.tmps f with
      | .fn g cap => ACallD P g (args.map (evA s.tmps) ++ cap) s.H s.nx (fun r H' nx' => K ⟨putA s.tmps dst r, H', nx'⟩)
      | .bfn g bnd => ACallD P g (bnd ++ args.map (evA s.tmps)) s.H s.nx (fun r H' nx' => K ⟨putA s.tmps dst r, H', nx'⟩)
      | _ => False)
  | none => bindP (astep P (evA s.tmps) s.H s.nx op) (fun x => K ⟨putA s.tmps dst x.1, x.2.1, x.2.2⟩)
theorem aopD_eq {P : Program} {dst : Option Tmp} {op : Op} {s : ASt} {K : ASt → Prop} (h : callV op = none) : aopD P dst op s K = aop P dst op s K := by
  unfold aopD aop
  rw [h]
def AIf (b : Bool) (A B : Prop) : Prop := if b = true then A else B

/-- Is the operation wanted? -/
def guardA (ops : List Oper) (tmps : List AV) (j : Nat) (want : Bool) : Option Bool :=
  match ((ops[j]?).bind (·.dst)).bind (tmps[·]?) with
  | some (.bool b) => some (b == want)
  | some (.tup _) => some false
  | none => some false
  | _ => none

def aops (P : Program) (ops : List Oper) (K : ASt → Prop) : List Oper → ASt → Prop
  | [], s => K s
  | o :: r, s =>
    match o.guard with
    | none => aop P o.dst o.op s (aops P ops K r)
    | some (j, want) =>
      match guardA ops s.tmps j want with
      | some b => AIf b (aop P o.dst o.op s (aops P ops K r)) (aops P ops K r ⟨putA s.tmps o.dst (.tup []), s.H, s.nx⟩)
      | none => False

inductive AEx where
  | normal
  | exit (id : Nat)
  | ret
def AEx.ex : AEx → Exit
  | .normal => .normal
  | .exit id => .exit id
  | .ret => .ret

def thenQ (next : ASt → Prop) (Q : AEx → ASt → Prop) : AEx → ASt → Prop
  | .normal, s => next s
  | e, s => Q e s
def blockQ (id : Nat) (Q : AEx → ASt → Prop) : AEx → ASt → Prop
  | .exit i, s => if i = id then Q .normal s else Q (.exit i) s
  | e, s => Q e s
/-- A state of which less is known. -/
def wkL : List AV → List AV → Prop
  | [], [] => True
  | a :: l, b :: l' => (b = .junk ∨ a = b) ∧ wkL l l'
  | _, _ => False
def ACond (a : AV) (A B : Prop) : Prop :=
  match a with
  | .bool b => AIf b A B
  | _ => False

/-! ### Soundness -/
def RepT (κ : Cx) (tmps : Array Value) (as : List AV) : Prop := Reps κ tmps.toList as
structure St (base : Nat) (κ : Cx) (a : Act) (s : ASt) : Prop where
  inv : Inv base κ s.H s.nx
  tmps : Reps κ a.tmps.toList s.tmps
  defers : a.defers = []

def Weak0 (s s0 : ASt) : Prop := wkL s.tmps s0.tmps ∧ (∀ id, s0.H id = s.H id ∨ s0.H id = .dead) ∧ s.nx ≤ s0.nx
theorem wkL_reps {κ : Cx} : ∀ {vs : List Value} {l l' : List AV}, wkL l l' → Reps κ vs l → Reps κ vs l'
  | vs, [], [], _, h => h
  | vs, [], _ :: _, hw, h => hw.elim
  | vs, _ :: _, [], hw, h => hw.elim
  | vs, a :: l, b :: l', hw, h => by
    obtain ⟨v, vs2, rfl, h1, h2⟩ := h.uncons
    refine Reps.cons ?_ (wkL_reps hw.2 h2)
    rcases hw.1 with rfl | rfl
    · exact .junk v
    · exact h1
theorem St.weak {base : Nat} {κ : Cx} {a : Act} {s s0 : ASt} (h : St base κ a s) (hw : Weak0 s s0) : St base κ a s0 := by
  refine ⟨⟨h.inv.hF, h.inv.hbase, fun id hid => h.inv.hM id (Nat.le_trans hw.2.2 hid), fun id ver cells hl => ?_, fun i j ei ej b hij h1 h2 h3 h4 => ?_, h.inv.tab⟩, wkL_reps hw.1 h.tmps, h.defers⟩
  · rcases hw.2.1 id with he | he
    · exact h.inv.live id ver cells (he ▸ hl)
    · rw [he] at hl; cases hl
  · rcases hw.2.1 i with he | he
    · rcases hw.2.1 j with he2 | he2
      · rw [he, he2]; exact h.inv.inj i j ei ej b hij h1 h2 h3 h4
      · exact .inr he2
    · exact .inl he
/-- Whatever bears the first state bears the second one, too, perhaps under other names. -/
def Weak (s s0 : ASt) : Prop := ∀ (base : Nat) (κ : Cx) (a : Act), St base κ a s → ∃ κ', κ'.W = κ.W ∧ St base κ' a s0 ∧ Ext base κ κ'
theorem Weak0.toW {s s0 : ASt} (h : Weak0 s s0) : Weak s s0 := fun base κ a hs => ⟨κ, rfl, hs.weak h, .refl _ _⟩
theorem Weak.trans {a b c : ASt} (h : Weak a b) (k : Weak b c) : Weak a c := fun base κ act hs => by
  obtain ⟨κ1, h1, h2, h3⟩ := h base κ act hs
  obtain ⟨κ2, k1, k2, k3⟩ := k base κ1 act h2
  exact ⟨κ2, k1.trans h1, k2, h3.trans k3⟩
def ALoop (body : (AEx → ASt → Prop) → ASt → Prop) (Q : AEx → ASt → Prop) (s : ASt) : Prop :=
  ∃ (R : ASt → Nat → Prop) (n : Nat), (∃ s0, Weak s s0 ∧ R s0 n) ∧ ∀ s' n', R s' n' → body (fun e s2 => match e with | .normal => ∃ m, m < n' ∧ ∃ s0, Weak s2 s0 ∧ R s0 m | e => Q e s2) s'
theorem evA_rep {base : Nat} {κ : Cx} {a : Act} {s : ASt} (h : St base κ a s) (x : Operand) : Rep κ.W κ.M κ.F (a.eval x) (evA s.tmps x) := by
  cases x with
  | tmp t =>
    unfold evA Act.eval
    by_cases ht : t < s.tmps.length
    · have h0 : s.tmps[t]? = some s.tmps[t] := List.getElem?_eq_getElem ht
      obtain ⟨v, hv, hr⟩ := h.tmps.at h0
      have : a.tmps[t]? = some v := by simpa using hv
      simp only [List.getD, h0, Option.getD_some, Array.getD_eq_getD_getElem?, this]
      exact hr
    · simp only [List.getD, List.getElem?_eq_none (Nat.le_of_not_lt ht), Option.getD_none]
      exact .junk _
  | const v => exact cstA_rep κ v
  | func f => exact .fn f [] [] rfl (fun j v a h => by simp at h)
  | global g => exact .junk _
theorem put_rep {κ : Cx} {a : Act} {as : List AV} (h : Reps κ a.tmps.toList as) (dst : Option Tmp) {v : Value} {r : AV} (hr : Rep κ.W κ.M κ.F v r) : Reps κ (a.put dst v).tmps.toList (putA as dst r) := by
  cases dst with
  | none => exact h
  | some d =>
    simp only [Act.put, putA, Array.toList_setIfInBounds]
    exact h.set d hr
theorem put_defers (a : Act) (dst : Option Tmp) (v : Value) : (a.put dst v).defers = a.defers := by cases dst <;> rfl

/-- What a step must show: behind it a state that is met. -/
def Post (base : Nat) (κ : Cx) (K : ASt → Prop) (a' : Act) (W' : World) : Prop := ∃ s' κ', κ'.W = W' ∧ St base κ' a' s' ∧ Ext base κ κ' ∧ K s'

theorem callFunc_run {P : Program} {f : FuncId} (h : Enters P f) (args : Array Value) (W : World) : (callFunc f args).run P W = .ok (.enter f args) W := by
  obtain ⟨fn, h1, h2, h3⟩ := h
  simp only [callFunc, Sem.run_bind, run_program, Result.andThen_ok, h1, h2, Bool.false_eq_true, if_false, h3, Sem.run_pure]

theorem aop_sound {P : Program} {o : Oper} {s : ASt} {K : ASt → Prop} (h : aop P o.dst o.op s K) {base : Nat} {κ : Cx} {a : Act} (hs : St base κ a s) {Q : Exit → Act → World → Prop} :
    o.wp P a κ.W (fun a' W' => Post base κ K a' W') Q := by
  unfold aop at h
  split at h
  · rename_i f args hc
    unfold callV at hc
    split at hc
    · rename_i c hop
      split at hc
      · rename_i f' hcal
        cases hc
        split at h
        · rename_i g cap hf
          obtain ⟨hent, hcall⟩ := ACallD.toA h
          have hfv := evA_rep hs f
          rw [hf] at hfv
          obtain ⟨cvs, hfe, hcr⟩ := hfv.fn_inv
          have hargs : Reps κ (c.args.toList.map a.eval) (c.args.toList.map (evA s.tmps)) := reps_map _ (fun x _ => evA_rep hs x)
          have hall := hcall base κ (c.args.toList.map a.eval ++ cvs) hs.inv (hargs.append hcr)
          have hrun : (execOp a.eval o).run P κ.W = .ok (.enter g (c.args.toList.map a.eval ++ cvs).toArray) κ.W := by
            have harr : c.args.map a.eval ++ cvs.toArray = (c.args.toList.map a.eval ++ cvs).toArray := by
              apply Array.ext'
              simp
            simp only [execOp, hop, resolve, hcal, Deferred.ofValue, hfe, Sem.run_bind, Sem.run_pure, Result.andThen_ok, invoke, Array.empty_append, harr]
            exact callFunc_run hent _ κ.W
          unfold Oper.wp
          rw [hrun]
          simp only [Oper.upon]
          refine hall.mono ?_
          rintro e W' ⟨r, H', nx', hK, v, κ', rfl, rfl, hr, hext, hinv⟩
          exact ⟨⟨putA s.tmps o.dst r, H', nx'⟩, κ', rfl, ⟨hinv, put_rep (hs.tmps.ev hext.ev) o.dst hr, by rw [put_defers]; exact hs.defers⟩, hext, hK⟩
        · rename_i g cap hf
          obtain ⟨hent, hcall⟩ := ACallD.toA h
          have hfv := evA_rep hs f
          rw [hf] at hfv
          obtain ⟨cvs, hfe, hcr⟩ := hfv.bfn_inv
          have hargs : Reps κ (c.args.toList.map a.eval) (c.args.toList.map (evA s.tmps)) := reps_map _ (fun x _ => evA_rep hs x)
          have hall := hcall base κ (cvs ++ c.args.toList.map a.eval) hs.inv (hcr.append hargs)
          have hrun : (execOp a.eval o).run P κ.W = .ok (.enter g (cvs ++ c.args.toList.map a.eval).toArray) κ.W := by
            have harr : cvs.toArray ++ c.args.map a.eval = (cvs ++ c.args.toList.map a.eval).toArray := by
              apply Array.ext'
              simp
            simp only [execOp, hop, resolve, hcal, Deferred.ofValue, hfe, Sem.run_bind, Sem.run_pure, Result.andThen_ok, invoke, Array.append_empty, harr]
            exact callFunc_run hent _ κ.W
          unfold Oper.wp
          rw [hrun]
          simp only [Oper.upon]
          refine hall.mono ?_
          rintro e W' ⟨r, H', nx', hK, v, κ', rfl, rfl, hr, hext, hinv⟩
          exact ⟨⟨putA s.tmps o.dst r, H', nx'⟩, κ', rfl, ⟨hinv, put_rep (hs.tmps.ev hext.ev) o.dst hr, by rw [put_defers]; exact hs.defers⟩, hext, hK⟩
        · exact h.elim
      · cases hc
    · cases hc
  · unfold bindP at h
    split at h
    · rename_i p x hst
      obtain ⟨r, H', nx'⟩ := x
      obtain ⟨hp, hK⟩ := h
      have hok : HOk P o (evA s.tmps) s.H s.nx p r H' nx' := by
        unfold astep at hst
        split at hst
        · rename_i p' r' hq
          cases hst
          exact HOk.of_quiet (qstep_sound hq)
        · exact hstep_sound hst
      obtain ⟨κ', q, v, hrun, hq, hr, hext, hinv⟩ := hok (fun _ => rfl) hp hs.inv (fun x _ => evA_rep hs x)
      have fin : Post base κ K (a.put o.dst v) κ'.W := ⟨⟨putA s.tmps o.dst r, H', nx'⟩, κ', rfl, ⟨hinv, put_rep (hs.tmps.ev hext.ev) o.dst hr, by rw [put_defers]; exact hs.defers⟩, hext, hK⟩
      unfold Oper.wp
      rw [hrun]
      rcases hq with rfl | ⟨rfl, rfl⟩
      · exact fin
      · exact fin
    · exact h.elim

theorem guardA_spec {ops : List Oper} {base : Nat} {κ : Cx} {a : Act} {s : ASt} (hs : St base κ a s) {j : Nat} {want b : Bool} (h : guardA ops s.tmps j want = some b) {o : Oper} (hg : o.guard = some (j, want)) :
    Region.wanted o (yielded ops.toArray a.tmps) = b := by
  unfold guardA at h
  simp only [Region.wanted, hg, yielded, List.getElem?_toArray]
  have hlen := hs.tmps.1
  split at h
  · rename_i q hq
    cases h
    obtain ⟨d, hd, hdt⟩ := Option.bind_eq_some_iff.1 hq
    obtain ⟨v, hv, hr⟩ := hs.tmps.at hdt
    have hv' : a.tmps[d]? = some v := by simpa using hv
    obtain rfl := hr.bool_inv
    simp [hd, hv']
  · rename_i as hq
    cases h
    obtain ⟨d, hd, hdt⟩ := Option.bind_eq_some_iff.1 hq
    obtain ⟨v, hv, hr⟩ := hs.tmps.at hdt
    have hv' : a.tmps[d]? = some v := by simpa using hv
    obtain ⟨vs, rfl, _⟩ := hr.tup_inv
    simp [hd, hv']
  · rename_i hq
    cases h
    cases hd : (ops[j]?).bind (·.dst) with
    | none => simp [hd]
    | some d =>
      rw [hd] at hq
      simp only [Option.bind_some] at hq
      have : a.tmps[d]? = none := by
        have h1 : s.tmps.length ≤ d := List.getElem?_eq_none_iff.1 hq
        apply Array.getElem?_eq_none
        simp at hlen
        omega
      simp [hd, this]
  · cases h

theorem aops_sound {P : Program} {ops : List Oper} {K : ASt → Prop} {Q : Exit → Act → World → Prop} : ∀ (l : List Oper) {s : ASt}, aops P ops K l s → ∀ {base : Nat} {κ : Cx} {a : Act}, St base κ a s →
    (∀ a' W', Post base κ K a' W' → Q .normal a' W') → wpList P ops.toArray Q l a κ.W
  | [], s, h, base, κ, a, hs, hQ => hQ a κ.W ⟨s, κ, rfl, hs, .refl _ _, h⟩
  | o :: l, s, h, base, κ, a, hs, hQ => by
    -- the operation is carried out
    have run : aop P o.dst o.op s (aops P ops K l) → o.wp P a κ.W (wpList P ops.toArray Q l) Q := by
      intro h1
      refine Oper.wp_mono (fun a' W' hp => ?_) (aop_sound h1 hs)
      obtain ⟨s', κ', rfl, hs', hext, hK⟩ := hp
      exact aops_sound l hK hs' (fun a2 W2 ⟨s2, κ2, h1, h2, h3, h4⟩ => hQ a2 W2 ⟨s2, κ2, h1, h2, hext.trans h3, h4⟩)
    unfold aops at h
    split at h
    · rename_i hg
      have hw : Region.wanted o (yielded ops.toArray a.tmps) = true := by simp [Region.wanted, hg]
      unfold wpList
      rw [if_pos hw]
      exact .inl (run h)
    · rename_i j want hg
      split at h
      · rename_i b hb
        have hw := guardA_spec hs hb hg
        unfold wpList
        rw [hw]
        unfold AIf at h
        cases b with
        | true => simp only [if_true] at h ⊢; exact .inl (run h)
        | false =>
          simp only [Bool.false_eq_true, if_false] at h ⊢
          refine aops_sound l h ⟨hs.inv, put_rep hs.tmps o.dst (.tup [] [] rfl (fun j v a h => by simp at h)), by rw [put_defers]; exact hs.defers⟩ hQ
      · exact h.elim
end Go.TH

/-
  TH, part 13: regions that draw their order: one canonical walk serves every order.
-/
set_option linter.unusedVariables false
set_option linter.unusedSimpArgs false
namespace Go.TH
open Go

/-- What is seen of a heap when the places of S are hidden. -/
def maskH (S : Nat → Bool) (H : AH) : AH := fun i => if S i = true then .dead else H i

/-- A call whose answer hangs on no memory. -/
def QCall (P : Program) (f : FuncId) (args : List AV) (r : AV) : Prop := ∀ H nx, CallC P f args H nx r H nx

/-- Making memory that is only read. -/
def fstep (P : Program) (E : Operand → AV) (H : AH) : Op → Option (Prop × AV)
  | .buildSlice t len parts => (match tySl P t with
      | some (e, sz, _) => (match tyZ P e with
          | some z => if z.length = sz ∧ len * sz ≤ 16777216 then
              (fillB H sz (List.replicate len z).flatten (parts.toList.map fun x => (x.1, E x.2))).map fun cs => (True, .sl len true cs)
            else none
          | none => none)
      | none => none)
  | .makeSlice t l c => (match tySl P t, E l, E c with
      | some (e, sz, by'), .int _ l, .int _ c => (match tyZ P e with
          | some z => if z.length = sz then
              some (0 ≤ l ∧ l ≤ c ∧ c.toNat * by' ≤ 140737488355328 ∧ c ≤ 140737488355328, .sl l.toNat false (List.replicate l.toNat z).flatten)
            else none
          | none => none)
      | _, _, _ => none)
  | .convert src dst x => (match E x, tySl P dst with
      | .str s, some (e, _, _) => if tyInt P e = some .u8 ∧ (P.underlying src).isSome then some (s.size ≤ 140737488355328, .sl s.size false (bytesCells s)) else none
      | _, _ => none)
  | _ => none
def dstep (P : Program) (E : Operand → AV) (H : AH) (op : Op) : Option (Prop × AV) :=
  match qstep P E H op with
  | some x => some x
  | none => fstep P E H op

/-- One operation of a region that draws. -/
def dop (P : Program) (eff : Bool) (S : Nat → Bool) (dst : Option Tmp) (op : Op) (s : ASt) (K : ASt → Prop) : Prop :=
  if eff = true then aopD P dst op s (fun s' => maskH S s'.H = maskH S s.H ∧ K s')
  else match callV op with
    | some (f, args) => (match evA s.tmps f with
        | .fn g cap => ∃ q, (∀ H2 nx2, maskH S H2 = maskH S s.H → CallC P g (args.map (evA s.tmps) ++ cap) H2 nx2 q H2 nx2) ∧ K ⟨putA s.tmps dst q, s.H, s.nx⟩
        | _ => False)
    | none => bindP (dstep P (evA s.tmps) (maskH S s.H) op) (fun q => K ⟨putA s.tmps dst q, s.H, s.nx⟩)
/-- An effect that is in order with all others needs no hiding. -/
def SF (frees : List Nat) (S : Nat → Bool) (i : Nat) : Nat → Bool := if frees.contains i = true then fun _ => true else S
def dops (P : Program) (ops : List Oper) (effs frees : List Nat) (S : Nat → Bool) (K : ASt → Prop) : Nat → List Oper → ASt → Prop
  | _, [], s => K s
  | i, o :: r, s =>
    match o.guard with
    | none => dop P (effs.contains i) (SF frees S i) o.dst o.op s (dops P ops effs frees S K (i + 1) r)
    | some (j, want) =>
      match guardA ops s.tmps j want with
      | some b => AIf b (dop P (effs.contains i) (SF frees S i) o.dst o.op s (dops P ops effs frees S K (i + 1) r)) (dops P ops effs frees S K (i + 1) r ⟨putA s.tmps o.dst (.tup []), s.H, s.nx⟩)
      | none => False

/-! ### The order: what waits for what -/
def ancL : List Oper → List Nat → List Nat
  | [], acc => acc
  | o :: r, acc => ancL r (acc ++ [o.after.toList.foldl (fun s e => if Region.binds .any e then s ||| 2 ^ e.on ||| acc.getD e.on 0 else s) 0])
def backward (ops : List Oper) : Bool := ops.zipIdx.all fun x => x.1.after.toList.all fun e => !Region.binds .any e || decide (e.on < x.2)
def conflict (ops : Array Oper) (x y : Oper) : Bool :=
  (match x.dst with | some d => (y.looksAt ops).contains d || y.dst == some d | none => false) ||
  (match y.dst with | some d => (x.looksAt ops).contains d | none => false)
def drawOk (ops : List Oper) (effs frees : List Nat) : Bool :=
  let anc := ancL ops []
  let arr := ops.toArray
  backward ops && Region.noSelect arr &&
  ops.zipIdx.all fun x => ops.zipIdx.all fun y => !(decide (x.2 < y.2)) || (anc.getD y.2 0).testBit x.2 || (!conflict arr x.1 y.1 && !(effs.contains x.2 && effs.contains y.2) && !(frees.contains x.2 && effs.contains x.2 && !frees.contains y.2) && !(frees.contains y.2 && effs.contains y.2 && !frees.contains x.2))
def ADraw0 (P : Program) (ops : List Oper) (K : ASt → Prop) (s : ASt) : Prop :=
  ∃ (effs frees : List Nat) (S : Nat → Bool), drawOk ops effs frees = true ∧ dops P ops effs frees S K 0 ops s

/-! ### Soundness -/
/-- 'i' comes before 'j' in every order: 'listed' holds what 'j' waits for, and what that waits for. -/
inductive Anc (ops : List Oper) : Nat → Nat → Prop
  | one {i j : Nat} {o : Oper} {e : Edge} (ho : ops[j]? = some o) (he : e ∈ o.after.toList) (hb : Region.binds .any e = true) (h : e.on = i) : Anc ops i j
  | more {i j k : Nat} {o : Oper} {e : Edge} (ho : ops[j]? = some o) (he : e ∈ o.after.toList) (hb : Region.binds .any e = true) (h : e.on = k) (hk : Anc ops i k) : Anc ops i j

theorem foldl_bit (acc : List Nat) (i : Nat) : ∀ (es : List Edge) (s : Nat), (es.foldl (fun s e => if Region.binds .any e then s ||| 2 ^ e.on ||| acc.getD e.on 0 else s) s).testBit i = true →
    s.testBit i = true ∨ ∃ e ∈ es, Region.binds .any e = true ∧ (e.on = i ∨ (acc.getD e.on 0).testBit i = true)
  | [], s, h => .inl h
  | e :: es, s, h => by
    rw [List.foldl_cons] at h
    rcases foldl_bit acc i es _ h with h | ⟨e', h1, h2, h3⟩
    · split at h
      · rename_i hb
        rw [Nat.testBit_or, Nat.testBit_or] at h
        simp only [Bool.or_eq_true] at h
        rcases h with (h | h) | h
        · exact .inl h
        · right
          refine ⟨e, by simp, hb, .inl ?_⟩
          rw [Nat.testBit_two_pow] at h
          simpa using h
        · exact .inr ⟨e, by simp, hb, .inr h⟩
      · exact .inl h
    · exact .inr ⟨e', by simp [h1], h2, h3⟩
theorem ancL_get (ops : List Oper) : ∀ (l : List Oper) (acc : List Nat), (∀ k, l[k]? = ops[acc.length + k]?) → (∀ i j, (acc.getD j 0).testBit i = true → Anc ops i j) →
    ∀ i j, ((ancL l acc).getD j 0).testBit i = true → Anc ops i j
  | [], acc, hl, ha, i, j, h => ha i j h
  | o :: l, acc, hl, ha, i, j, h => by
    refine ancL_get ops l _ (fun k => ?_) (fun i j hj => ?_) i j h
    · have := hl (k + 1)
      simp only [List.length_append, List.length_cons, List.length_nil]
      rw [show acc.length + (0 + 1) + k = acc.length + (k + 1) by omega, ← this]
      simp
    · have h0 : ops[acc.length]? = some o := by simpa using (hl 0).symm
      rcases Nat.lt_trichotomy j acc.length with hj1 | hj1 | hj1
      · apply ha i j
        simpa [List.getD, List.getElem?_append_left hj1] using hj
      · subst hj1
        have : ((acc ++ [o.after.toList.foldl (fun s e => if Region.binds .any e then s ||| 2 ^ e.on ||| acc.getD e.on 0 else s) 0]).getD acc.length 0).testBit i = true := hj
        simp only [List.getD, List.getElem?_append_right (Nat.le_refl _), Nat.sub_self, List.getElem?_cons_zero, Option.getD_some] at this
        rcases foldl_bit acc i _ 0 this with h | ⟨e, h1, h2, h3⟩
        · simp at h
        · rcases h3 with h3 | h3
          · exact .one h0 h1 h2 h3
          · exact .more h0 h1 h2 rfl (ha i _ h3)
      · have : (acc ++ [o.after.toList.foldl (fun s e => if Region.binds .any e then s ||| 2 ^ e.on ||| acc.getD e.on 0 else s) 0]).getD j 0 = 0 := by
          simp only [List.getD]
          rw [List.getElem?_eq_none (by simp; omega)]
          rfl
        rw [this] at hj
        simp at hj
/-- What is listed is closed. -/
def Closed (ops : List Oper) (listed : Array Bool) : Prop := ∀ (j : Nat) (o : Oper), ops[j]? = some o → listed.getD j false = true → ∀ e ∈ o.after.toList, Region.binds .any e = true → listed.getD e.on false = true
theorem Anc.listed {ops : List Oper} {listed : Array Bool} (hc : Closed ops listed) {i j : Nat} (h : Anc ops i j) : listed.getD j false = true → listed.getD i false = true := by
  induction h with
  | one ho he hb h => intro hj; rw [← h]; exact hc _ _ ho hj _ he hb
  | more ho he hb h hk ih => intro hj; apply ih; rw [← h]; exact hc _ _ ho hj _ he hb
theorem Anc.ready {ops : List Oper} {listed : Array Bool} (hc : Closed ops listed) {i j : Nat} (h : Anc ops i j) (hr : j ∈ Region.ready .any ops.toArray listed) : listed.getD i false = true := by
  obtain ⟨hjun, oj, hoj, hall⟩ := mem_ready.1 hr
  have hoj' : ops[j]? = some oj := by simpa using hoj
  have key : ∀ e ∈ oj.after.toList, Region.binds .any e = true → listed.getD e.on false = true := fun e he hb => hall e (by simpa using he) hb
  cases h with
  | one ho he hb h =>
    rw [hoj'] at ho
    cases ho
    rw [← h]
    exact key _ he hb
  | more ho he hb h hk =>
    rw [hoj'] at ho
    cases ho
    exact hk.listed hc (by rw [← h]; exact key _ he hb)
end Go.TH

/-
  TH, part 14: regions that draw their order, sound.
-/
set_option linter.unusedVariables false
set_option linter.unusedSimpArgs false
namespace Go.TH
open Go

/-- What carrying out an operation shows, on its operands alone. -/
def OStep (P : Program) (o : Oper) (E : Operand → AV) (H : AH) (nx : Nat) (r : AV) (H' : AH) (nx' : Nat) : Prop :=
  ∀ {base : Nat} {κ : Cx} {a : Act} {K : Act → World → Prop} {Q : Exit → Act → World → Prop}, Inv base κ H nx → (∀ x ∈ o.op.operands.toList, Rep κ.W κ.M κ.F (a.eval x) (E x)) →
    (∀ v κ', Rep κ'.W κ'.M κ'.F v r → Ext base κ κ' → Inv base κ' H' nx' → K (a.put o.dst v) κ'.W) → o.wp P a κ.W K Q

section
variable {P : Program} {o : Oper} {E : Operand → AV} {H : AH} {nx : Nat} {r : AV} {H' : AH} {nx' : Nat}
theorem OStep.of_h {p : Prop} (h : HOk P o E H nx p r H' nx') (hp : p) : OStep P o E H nx r H' nx' := by
  intro base κ a K Q hi hρ hK
  obtain ⟨κ', q, v, hrun, hq, hr, hext, hinv⟩ := h (fun _ => rfl) hp hi hρ
  have fin := hK v κ' hr hext hinv
  unfold Oper.wp
  rw [hrun]
  rcases hq with rfl | ⟨rfl, rfl⟩
  · exact fin
  · exact fin
theorem OStep.of_call {f : Operand} {args : List Operand} (hc : callV o.op = some (f, args)) {g : FuncId} {cap : List AV} (hf : E f = .fn g cap) (h : CallC P g (args.map E ++ cap) H nx r H' nx') : OStep P o E H nx r H' nx' := by
  intro base κ a K Q hi hρ hK
  unfold callV at hc
  split at hc
  · rename_i c hop
    split at hc
    · rename_i f' hcal
      cases hc
      rw [hop] at hρ
      have hfv := hρ f (by simp [Op.operands, Call.operands, hcal])
      rw [hf] at hfv
      obtain ⟨cvs, hfe, hcr⟩ := hfv.fn_inv
      have hargs : Reps κ (c.args.toList.map a.eval) (c.args.toList.map E) := reps_map _ (fun x hx => hρ x (by simp [Op.operands, Call.operands, hcal, hx]))
      have hall := h.2 base κ (c.args.toList.map a.eval ++ cvs) hi (hargs.append hcr)
      have hrun : (execOp a.eval o).run P κ.W = .ok (.enter g (c.args.toList.map a.eval ++ cvs).toArray) κ.W := by
        have harr : c.args.map a.eval ++ cvs.toArray = (c.args.toList.map a.eval ++ cvs).toArray := by
          apply Array.ext'
          simp
        simp only [execOp, hop, resolve, hcal, Deferred.ofValue, hfe, Sem.run_bind, Sem.run_pure, Result.andThen_ok, invoke, Array.empty_append, harr]
        exact callFunc_run h.1 _ κ.W
      unfold Oper.wp
      rw [hrun]
      simp only [Oper.upon]
      refine hall.mono ?_
      rintro e W' ⟨v, κ', rfl, rfl, hr, hext, hinv⟩
      exact hK v κ' hr hext hinv
    · cases hc
  · cases hc
theorem OStep.of_callB {f : Operand} {args : List Operand} (hc : callV o.op = some (f, args)) {g : FuncId} {cap : List AV} (hf : E f = .bfn g cap) (h : CallC P g (cap ++ args.map E) H nx r H' nx') : OStep P o E H nx r H' nx' := by
  intro base κ a K Q hi hρ hK
  unfold callV at hc
  split at hc
  · rename_i c hop
    split at hc
    · rename_i f' hcal
      cases hc
      rw [hop] at hρ
      have hfv := hρ f (by simp [Op.operands, Call.operands, hcal])
      rw [hf] at hfv
      obtain ⟨cvs, hfe, hcr⟩ := hfv.bfn_inv
      have hargs : Reps κ (c.args.toList.map a.eval) (c.args.toList.map E) := reps_map _ (fun x hx => hρ x (by simp [Op.operands, Call.operands, hcal, hx]))
      have hall := h.2 base κ (cvs ++ c.args.toList.map a.eval) hi (hcr.append hargs)
      have hrun : (execOp a.eval o).run P κ.W = .ok (.enter g (cvs ++ c.args.toList.map a.eval).toArray) κ.W := by
        have harr : cvs.toArray ++ c.args.map a.eval = (cvs ++ c.args.toList.map a.eval).toArray := by
          apply Array.ext'
          simp
        simp only [execOp, hop, resolve, hcal, Deferred.ofValue, hfe, Sem.run_bind, Sem.run_pure, Result.andThen_ok, invoke, Array.append_empty, harr]
        exact callFunc_run h.1 _ κ.W
      unfold Oper.wp
      rw [hrun]
      simp only [Oper.upon]
      refine hall.mono ?_
      rintro e W' ⟨v, κ', rfl, rfl, hr, hext, hinv⟩
      exact hK v κ' hr hext hinv
    · cases hc
  · cases hc
theorem aop_ostep {s : ASt} {K : ASt → Prop} (h : aopD P o.dst o.op s K) : ∃ r H' nx', OStep P o (evA s.tmps) s.H s.nx r H' nx' ∧ K ⟨putA s.tmps o.dst r, H', nx'⟩ := by
  unfold aopD at h
  split at h
  · rename_i f args hc
    split at h
    · rename_i g cap hf
      obtain ⟨r, H', nx', hcall, hK⟩ := h
      exact ⟨r, H', nx', OStep.of_call hc hf hcall, hK⟩
    · rename_i g cap hf
      obtain ⟨r, H', nx', hcall, hK⟩ := h
      exact ⟨r, H', nx', OStep.of_callB hc hf hcall, hK⟩
    · exact h.elim
  · unfold bindP at h
    split at h
    · rename_i p x hst
      obtain ⟨r, H', nx'⟩ := x
      obtain ⟨hp, hK⟩ := h
      have hok : HOk P o (evA s.tmps) s.H s.nx p r H' nx' := by
        unfold astep at hst
        split at hst
        · rename_i p' r' hq
          cases hst
          exact HOk.of_quiet (qstep_sound hq)
        · exact hstep_sound hst
      exact ⟨r, H', nx', OStep.of_h hok hp, hK⟩
    · exact h.elim

/-- Only read, in whatever heap that looks so. -/
def DOk (P : Program) (o : Oper) (E : Operand → AV) (Hm : AH) (p : Prop) (r : AV) : Prop :=
  ∀ {base : Nat} {κ : Cx} {H : AH} {nx : Nat} {ρ : Operand → Value}, (∀ v, ρ (.const v) = v) → p → Inv base κ H nx → Inv base κ Hm nx → (∀ x ∈ o.op.operands.toList, Rep κ.W κ.M κ.F (ρ x) (E x)) →
    ∃ κ' v, (execOp ρ o).run P κ.W = .ok (.value v) κ'.W ∧ Rep κ'.W κ'.M κ'.F v r ∧ Ext base κ κ' ∧ Inv base κ' H nx
theorem newBlock_alloc (W : World) (ob : Obj) : NewBlock W (W.alloc ob) := ⟨fun b hb => heap_alloc_lt _ _ hb, by simp, rfl, rfl, rfl⟩
theorem fstep_sound {Hm : AH} {p : Prop} (h : fstep P E Hm o.op = some (p, r)) : DOk P o E Hm p r := by
  intro base κ H nx ρ hev hp hi him hρ
  -- a new block, not written any more
  have frozen : ∀ (T : TypeId) (ws rest : List Value) (n c : Nat) (t : Bool) (cs : List AV), (execOp ρ o).run P κ.W = .ok (.value (.slice (some ⟨κ.W.heap.size, 0, none⟩) n c)) (κ.W.alloc (.cells (ws ++ rest).toArray T)) →
      (∀ u ∈ ws, u.oneCell' = true) → Reps κ ws cs → n ≤ c → (t = true → c = n) →
      ∃ κ' v, (execOp ρ o).run P κ.W = .ok (.value v) κ'.W ∧ Rep κ'.W κ'.M κ'.F v (.sl n t cs) ∧ Ext base κ κ' ∧ Inv base κ' H nx := by
    intro T ws rest n c t cs hrun h1 hr hn ht
    have hnb := newBlock_alloc κ.W (.cells (ws ++ rest).toArray T)
    refine ⟨κ.newF (κ.W.alloc (.cells (ws ++ rest).toArray T)), _, hrun, ?_, Cx.newF_ext hi hnb, hi.newF hnb⟩
    have hca : CellsAt (κ.newF (κ.W.alloc (.cells (ws ++ rest).toArray T))) ⟨κ.W.heap.size, 0, none⟩ ws := cellsAt_block (heap_alloc_at _ _) h1
    exact Rep.sl_mk (κ := κ.newF (κ.W.alloc (.cells (ws ++ rest).toArray T))) hn ht (.inr ⟨_, ws, rfl, .inr rfl, hca, hr.ev (Cx.newF_ev hi hnb)⟩)
  cases hop : o.op with
  | buildSlice t len parts =>
    rw [hop] at h
    simp only [fstep] at h
    split at h
    · rename_i e sz by' hsl
      split at h
      · rename_i z hz
        split at h
        · rename_i hc
          cases hf : fillB Hm sz (List.replicate len z).flatten (parts.toList.map fun x => (x.1, E x.2)) with
          | none => rw [hf] at h; cases h
          | some cs =>
            rw [hf] at h
            cases h
            obtain ⟨ws, hrun, hw1, hw2, hws⟩ := buildSlice_run hop hsl hz hc hf him hρ
            exact frozen e ws [] len len true cs (by simpa using hrun) hw1 hw2 (Nat.le_refl _) (fun _ => rfl)
        · cases h
      · cases h
    · cases h
  | makeSlice t l c =>
    rw [hop] at h
    simp only [fstep] at h
    split at h
    · rename_i e sz by' k1 l' k2 c' hsl el ec
      split at h
      · rename_i z hz
        split at h
        · rename_i hzl
          cases h
          obtain ⟨ws, rest, hrun, hw1, hw2, hwl⟩ := makeSlice_run hop hsl el ec hz hzl hp hρ
          exact frozen e ws rest _ _ false _ hrun hw1 hw2 (by omega) (fun h => by cases h)
        · cases h
      · cases h
    · cases h
  | convert src dst x =>
    rw [hop] at h
    simp only [fstep] at h
    split at h
    · rename_i s e a' b' ex hsl
      split at h
      · rename_i hc
        cases h
        exact convert_run hop ex hsl hc hi hρ
      · cases h
    · cases h
  | _ => rw [hop] at h; simp [fstep] at h
theorem mask_sub (S : Nat → Bool) (H : AH) (i : Nat) : maskH S H i = H i ∨ maskH S H i = .dead := by
  unfold maskH
  split
  · exact .inr rfl
  · exact .inl rfl
theorem dstep_sound {Hm : AH} {p : Prop} (h : dstep P E Hm o.op = some (p, r)) : DOk P o E Hm p r := by
  unfold dstep at h
  split at h
  · rename_i x hq
    cases h
    intro base κ H nx ρ hev hp hi him hρ
    obtain ⟨v, hrun, hr⟩ := qstep_sound hq hev hp him hρ
    exact ⟨κ, v, hrun, hr, .refl _ _, hi⟩
  · exact fstep_sound h

/-- One operation: what it leaves. -/
theorem dop_ostep {eff : Bool} {S : Nat → Bool} {s : ASt} {K : ASt → Prop} (h : dop P eff S o.dst o.op s K) :
    ∃ r H' nx', (if eff = true then OStep P o (evA s.tmps) s.H s.nx r H' nx' ∧ maskH S H' = maskH S s.H
      else H' = s.H ∧ nx' = s.nx ∧ ∀ H nx, maskH S H = maskH S s.H → OStep P o (evA s.tmps) H nx r H nx) ∧ K ⟨putA s.tmps o.dst r, H', nx'⟩ := by
  unfold dop at h
  cases eff with
  | true =>
    simp only [if_true] at h
    obtain ⟨r, H', nx', hst, hm, hK⟩ := aop_ostep h
    exact ⟨r, H', nx', by simp only [if_true]; exact ⟨hst, hm⟩, hK⟩
  | false =>
    simp only [Bool.false_eq_true, if_false] at h
    split at h
    · rename_i f args hc
      split at h
      · rename_i g cap hf
        obtain ⟨q, hq, hK⟩ := h
        refine ⟨q, s.H, s.nx, ?_, hK⟩
        simp only [Bool.false_eq_true, if_false]
        exact ⟨trivial, trivial, fun H nx hm => OStep.of_call hc hf (hq H nx hm)⟩
      · exact h.elim
    · unfold bindP at h
      split at h
      · rename_i p q hst
        obtain ⟨hp, hK⟩ := h
        refine ⟨q, s.H, s.nx, ?_, hK⟩
        simp only [Bool.false_eq_true, if_false]
        refine ⟨trivial, trivial, fun H nx hm => ?_⟩
        intro base κ a K' Q hi hρ hK'
        have him : Inv base κ (maskH S s.H) nx := by rw [← hm]; exact hi.sub (mask_sub S H)
        obtain ⟨κ', v, hrun, hr, hext, hinv⟩ := dstep_sound hst (fun _ => rfl) hp hi him hρ
        unfold Oper.wp
        rw [hrun]
        exact hK' v κ' hr hext hinv
      · exact h.elim
end

/-- The canonical walk, laid out: the states ahead of each operation. -/
structure Trace (P : Program) (ops : List Oper) (effs frees : List Nat) (S : Nat → Bool) (s0 : ASt) (st : Nat → ASt) : Prop where
  zero : st 0 = s0
  step : ∀ (i : Nat) (o : Oper), ops[i]? = some o →
    (∃ j want, o.guard = some (j, want) ∧ guardA ops (st i).tmps j want = some false ∧ st (i + 1) = ⟨putA (st i).tmps o.dst (.tup []), (st i).H, (st i).nx⟩) ∨
    ((o.guard = none ∨ ∃ j want, o.guard = some (j, want) ∧ guardA ops (st i).tmps j want = some true) ∧
      ∃ r H' nx', st (i + 1) = ⟨putA (st i).tmps o.dst r, H', nx'⟩ ∧
        (if effs.contains i = true then OStep P o (evA (st i).tmps) (st i).H (st i).nx r H' nx' ∧ maskH (SF frees S i) H' = maskH (SF frees S i) (st i).H
         else H' = (st i).H ∧ nx' = (st i).nx ∧ ∀ H nx, maskH (SF frees S i) H = maskH (SF frees S i) (st i).H → OStep P o (evA (st i).tmps) H nx r H nx))

theorem trace_of {P : Program} {ops : List Oper} {effs frees : List Nat} {S : Nat → Bool} {K : ASt → Prop} : ∀ (l : List Oper) (i : Nat) (s : ASt), dops P ops effs frees S K i l s → (∀ k, l[k]? = ops[i + k]?) →
    ∃ st : Nat → ASt, st i = s ∧ K (st (i + l.length)) ∧ ∀ (j : Nat) (o : Oper), i ≤ j → ops[j]? = some o →
      (∃ j' want, o.guard = some (j', want) ∧ guardA ops (st j).tmps j' want = some false ∧ st (j + 1) = ⟨putA (st j).tmps o.dst (.tup []), (st j).H, (st j).nx⟩) ∨
      ((o.guard = none ∨ ∃ j' want, o.guard = some (j', want) ∧ guardA ops (st j).tmps j' want = some true) ∧
        ∃ r H' nx', st (j + 1) = ⟨putA (st j).tmps o.dst r, H', nx'⟩ ∧
          (if effs.contains j = true then OStep P o (evA (st j).tmps) (st j).H (st j).nx r H' nx' ∧ maskH (SF frees S j) H' = maskH (SF frees S j) (st j).H
           else H' = (st j).H ∧ nx' = (st j).nx ∧ ∀ H nx, maskH (SF frees S j) H = maskH (SF frees S j) (st j).H → OStep P o (evA (st j).tmps) H nx r H nx))
  | [], i, s, h, hl => ⟨fun _ => s, rfl, h, fun j o hj ho => by
      have := hl (j - i)
      rw [show i + (j - i) = j by omega, ho] at this
      simp at this⟩
  | o :: l, i, s, h, hl => by
    have hl' : ∀ k, l[k]? = ops[i + 1 + k]? := fun k => by have := hl (k + 1); simpa [Nat.add_assoc, Nat.add_comm 1 k] using this
    have ho0 : ops[i]? = some o := by simpa using (hl 0).symm
    -- lay the first state ahead of the others
    have ext : ∀ (s' : ASt), dops P ops effs frees S K (i + 1) l s' → ∀ (Step : ASt → Prop), Step s' →
        ∃ st : Nat → ASt, st i = s ∧ K (st (i + (o :: l).length)) ∧ Step (st (i + 1)) ∧ ∀ (j : Nat) (o' : Oper), i + 1 ≤ j → ops[j]? = some o' →
          (∃ j' want, o'.guard = some (j', want) ∧ guardA ops (st j).tmps j' want = some false ∧ st (j + 1) = ⟨putA (st j).tmps o'.dst (.tup []), (st j).H, (st j).nx⟩) ∨
          ((o'.guard = none ∨ ∃ j' want, o'.guard = some (j', want) ∧ guardA ops (st j).tmps j' want = some true) ∧
            ∃ r H' nx', st (j + 1) = ⟨putA (st j).tmps o'.dst r, H', nx'⟩ ∧
              (if effs.contains j = true then OStep P o' (evA (st j).tmps) (st j).H (st j).nx r H' nx' ∧ maskH (SF frees S j) H' = maskH (SF frees S j) (st j).H
               else H' = (st j).H ∧ nx' = (st j).nx ∧ ∀ H nx, maskH (SF frees S j) H = maskH (SF frees S j) (st j).H → OStep P o' (evA (st j).tmps) H nx r H nx)) := by
      intro s' hs' Step hstep
      obtain ⟨st, h1, h2, h3⟩ := trace_of l (i + 1) s' hs' hl'
      refine ⟨fun k => if k = i then s else st k, by simp, ?_, by simp [h1, hstep], fun j o' hj ho' => ?_⟩
      · have : i + (o :: l).length ≠ i := by simp
        simp only [this, if_false]
        rw [show i + (o :: l).length = i + 1 + l.length by simp; omega]
        exact h2
      · have e1 : j ≠ i := by omega
        have e2 : j + 1 ≠ i := by omega
        simp only [e1, e2, if_false]
        exact h3 j o' hj ho'
    have run : dop P (effs.contains i) (SF frees S i) o.dst o.op s (dops P ops effs frees S K (i + 1) l) → (o.guard = none ∨ ∃ j' want, o.guard = some (j', want) ∧ guardA ops s.tmps j' want = some true) →
        ∃ st : Nat → ASt, st i = s ∧ K (st (i + (o :: l).length)) ∧ ∀ (j : Nat) (o' : Oper), i ≤ j → ops[j]? = some o' →
      (∃ j' want, o'.guard = some (j', want) ∧ guardA ops (st j).tmps j' want = some false ∧ st (j + 1) = ⟨putA (st j).tmps o'.dst (.tup []), (st j).H, (st j).nx⟩) ∨
      ((o'.guard = none ∨ ∃ j' want, o'.guard = some (j', want) ∧ guardA ops (st j).tmps j' want = some true) ∧
        ∃ r H' nx', st (j + 1) = ⟨putA (st j).tmps o'.dst r, H', nx'⟩ ∧
          (if effs.contains j = true then OStep P o' (evA (st j).tmps) (st j).H (st j).nx r H' nx' ∧ maskH (SF frees S j) H' = maskH (SF frees S j) (st j).H
           else H' = (st j).H ∧ nx' = (st j).nx ∧ ∀ H nx, maskH (SF frees S j) H = maskH (SF frees S j) (st j).H → OStep P o' (evA (st j).tmps) H nx r H nx)) := by
      intro hd hg
      obtain ⟨r, H', nx', hst, hK⟩ := dop_ostep hd
      obtain ⟨st, h1, h2, h3, h4⟩ := ext _ hK (fun s1 => s1 = ⟨putA s.tmps o.dst r, H', nx'⟩) rfl
      refine ⟨st, h1, h2, fun j o' hj ho' => ?_⟩
      by_cases hji : j = i
      · subst hji
        rw [ho0] at ho'
        cases ho'
        right
        rw [h1]
        exact ⟨hg, r, H', nx', h3, hst⟩
      · exact h4 j o' (by omega) ho'
    unfold dops at h
    split at h
    · rename_i hg
      exact run h (.inl hg)
    · rename_i j want hg
      split at h
      · rename_i b hb
        unfold AIf at h
        cases b with
        | true => simp only [if_true] at h; exact run h (.inr ⟨j, want, hg, hb⟩)
        | false =>
          simp only [Bool.false_eq_true, if_false] at h
          obtain ⟨st, h1, h2, h3, h4⟩ := ext _ h (fun s1 => s1 = ⟨putA s.tmps o.dst (.tup []), s.H, s.nx⟩) rfl
          refine ⟨st, h1, h2, fun j' o' hj ho' => ?_⟩
          by_cases hji : j' = i
          · subst hji
            rw [ho0] at ho'
            cases ho'
            left
            rw [h1]
            exact ⟨j, want, hg, hb, h3⟩
          · exact h4 j' o' (by omega) ho'
      · exact h.elim
end Go.TH
