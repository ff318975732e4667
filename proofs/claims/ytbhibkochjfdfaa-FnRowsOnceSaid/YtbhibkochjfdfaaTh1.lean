/-
  TH, part 1: abstract values, what they stand for in a world, and that this lasts.
-/
import Derived.Calls
import Derived.Orders
import Derived.Below
import Derived.Deep.AppendSrc
import Derived.Deep.MidRow
import Derived.KernelRfl
set_option linter.unusedVariables false
namespace Go.TH
open Go

/-- Abstract values. Slices and structs are lists of flat cells. -/
inductive AV where
  | int (k : IntKind) (n : Int)
  | bool (b : Bool)
  | str (s : ByteArray)
  | sl (n : Nat) (t : Bool) (cells : List AV)
  | ro (cells : List AV)
  | ptr (id ver off : Nat)
  | msl (id ver sz off n : Nat)
  | agg (cells : List AV)
  | tup (vs : List AV)
  | fn (f : FuncId) (cap : List AV)
  | nilp
  | junk
  deriving Inhabited

structure Ent where
  ver : Nat
  blk : Option Nat

/-- A concrete state: the world, where the abstract blocks lie, which blocks will not turn any more. -/
structure Cx where
  W : World
  M : Nat → Option Ent
  F : Nat → Prop

inductive Rep (W : World) (M : Nat → Option Ent) (F : Nat → Prop) : Value → AV → Prop
  | int (k : IntKind) (n : Int) : Rep W M F (.int k n) (.int k n)
  | bool (b : Bool) : Rep W M F (.bool b) (.bool b)
  | str (s : ByteArray) : Rep W M F (.string s) (.str s)
  | sl (ad : Addr) (n c : Nat) (t : Bool) (cells : List AV) (vs : List Value) (hn : n ≤ c) (ht : t = true → c = n)
      (hF : F ad.block) (hs : ad.spot = none) (hl : vs.length = cells.length)
      (hc : ∀ (j : Nat) (v : Value), vs[j]? = some v → W.cell? (ad.add j) = some v ∧ v.oneCell' = true)
      (hr : ∀ (j : Nat) (v : Value) (a : AV), vs[j]? = some v → cells[j]? = some a → Rep W M F v a) : Rep W M F (.slice (some ad) n c) (.sl n t cells)
  | sl0 (A : Option Addr) (n c : Nat) (t : Bool) (hn : n ≤ c) (ht : t = true → c = n) : Rep W M F (.slice A n c) (.sl n t [])
  | ro (ad : Addr) (cells : List AV) (vs : List Value) (hF : F ad.block) (hs : ad.spot = none) (hl : vs.length = cells.length)
      (hc : ∀ (j : Nat) (v : Value), vs[j]? = some v → W.cell? (ad.add j) = some v ∧ v.oneCell' = true)
      (hr : ∀ (j : Nat) (v : Value) (a : AV), vs[j]? = some v → cells[j]? = some a → Rep W M F v a) : Rep W M F (.pointer (some ad)) (.ro cells)
  | ptr (id ver off b : Nat) (h : M id = some ⟨ver, some b⟩) : Rep W M F (.pointer (some ⟨b, off, none⟩)) (.ptr id ver off)
  | ptrOld (v : Value) (id ver off : Nat) (e : Ent) (h : M id = some e) (hv : ver < e.ver) : Rep W M F v (.ptr id ver off)
  | msl (id ver sz off n c b : Nat) (cs : Array Value) (T : TypeId) (fz : Nat × Nat) (h : M id = some ⟨ver, some b⟩) (hn : n ≤ c)
      (hb : W.heap[b]? = some (.cells cs T fz)) (hcap : off + c * sz ≤ cs.size) : Rep W M F (.slice (some ⟨b, off, none⟩) n c) (.msl id ver sz off n)
  | mslNil (A : Option Addr) (id ver sz off : Nat) (b : Option Nat) (h : M id = some ⟨ver, b⟩) : Rep W M F (.slice A 0 0) (.msl id ver sz off 0)
  | mslOld (v : Value) (id ver sz off n : Nat) (e : Ent) (h : M id = some e) (hv : ver < e.ver) : Rep W M F v (.msl id ver sz off n)
  | agg (vs : List Value) (cells : List AV) (hl : vs.length = cells.length) (h1 : ∀ v ∈ vs, v.oneCell' = true)
      (hr : ∀ (j : Nat) (v : Value) (a : AV), vs[j]? = some v → cells[j]? = some a → Rep W M F v a) : Rep W M F (.agg vs.toArray) (.agg cells)
  | tup (vs : List Value) (as : List AV) (hl : vs.length = as.length)
      (hr : ∀ (j : Nat) (v : Value) (a : AV), vs[j]? = some v → as[j]? = some a → Rep W M F v a) : Rep W M F (.tuple vs.toArray) (.tup as)
  | fn (f : FuncId) (vs : List Value) (as : List AV) (hl : vs.length = as.length)
      (hr : ∀ (j : Nat) (v : Value) (a : AV), vs[j]? = some v → as[j]? = some a → Rep W M F v a) : Rep W M F (.func (.func f) #[] vs.toArray) (.fn f as)
  | nilp : Rep W M F (.pointer none) .nilp
  | junk (v : Value) : Rep W M F v .junk

/-- Pointwise. -/
def Reps (κ : Cx) (vs : List Value) (as : List AV) : Prop :=
  vs.length = as.length ∧ ∀ (j : Nat) (v : Value) (a : AV), vs[j]? = some v → as[j]? = some a → Rep κ.W κ.M κ.F v a

theorem Reps.nil (κ : Cx) : Reps κ [] [] := ⟨rfl, fun j v a h => by simp at h⟩
theorem Reps.cons {κ : Cx} {v : Value} {a : AV} {vs : List Value} {as : List AV} (h : Rep κ.W κ.M κ.F v a) (hs : Reps κ vs as) : Reps κ (v :: vs) (a :: as) := by
  refine ⟨by simp [hs.1], fun j v' a' h1 h2 => ?_⟩
  cases j with
  | zero => simp at h1 h2; subst h1; subst h2; exact h
  | succ j => exact hs.2 j v' a' (by simpa using h1) (by simpa using h2)
theorem Reps.uncons {κ : Cx} {vs : List Value} {a : AV} {as : List AV} (h : Reps κ vs (a :: as)) : ∃ v vs', vs = v :: vs' ∧ Rep κ.W κ.M κ.F v a ∧ Reps κ vs' as := by
  cases vs with
  | nil => simp [Reps] at h
  | cons v vs' =>
    refine ⟨v, vs', rfl, h.2 0 v a rfl rfl, by simpa using h.1, fun j v' a' h1 h2 => h.2 (j + 1) v' a' (by simpa using h1) (by simpa using h2)⟩
theorem Reps.unnil {κ : Cx} {vs : List Value} (h : Reps κ vs []) : vs = [] := List.eq_nil_of_length_eq_zero h.1
theorem Reps.append {κ : Cx} {vs vs' : List Value} {as as' : List AV} (h : Reps κ vs as) (h' : Reps κ vs' as') : Reps κ (vs ++ vs') (as ++ as') := by
  refine ⟨by simp [h.1, h'.1], fun j v a h1 h2 => ?_⟩
  by_cases hj : j < vs.length
  · rw [List.getElem?_append_left hj] at h1
    rw [List.getElem?_append_left (h.1 ▸ hj)] at h2
    exact h.2 j v a h1 h2
  · rw [List.getElem?_append_right (by omega)] at h1
    rw [List.getElem?_append_right (by rw [← h.1]; omega)] at h2
    rw [← h.1] at h2
    exact h'.2 _ v a h1 h2
theorem Reps.drop {κ : Cx} {vs : List Value} {as : List AV} (h : Reps κ vs as) (n : Nat) : Reps κ (vs.drop n) (as.drop n) :=
  ⟨by simp [h.1], fun j v a h1 h2 => h.2 (n + j) v a (by simpa using h1) (by simpa using h2)⟩
theorem Reps.take {κ : Cx} {vs : List Value} {as : List AV} (h : Reps κ vs as) (n : Nat) : Reps κ (vs.take n) (as.take n) := by
  refine ⟨by simp [h.1], fun j v a h1 h2 => h.2 j v a ?_ ?_⟩
  · rw [List.getElem?_take] at h1; split at h1 <;> simp_all
  · rw [List.getElem?_take] at h2; split at h2 <;> simp_all
theorem Reps.at {κ : Cx} {vs : List Value} {as : List AV} (h : Reps κ vs as) {j : Nat} {a : AV} (ha : as[j]? = some a) : ∃ v, vs[j]? = some v ∧ Rep κ.W κ.M κ.F v a := by
  have hj : j < vs.length := by rw [h.1]; exact (List.getElem?_eq_some_iff.1 ha).1
  exact ⟨vs[j], List.getElem?_eq_getElem hj, h.2 j _ a (List.getElem?_eq_getElem hj) ha⟩
theorem Reps.set {κ : Cx} {vs : List Value} {as : List AV} (h : Reps κ vs as) (i : Nat) {v : Value} {a : AV} (hv : Rep κ.W κ.M κ.F v a) : Reps κ (vs.set i v) (as.set i a) := by
  refine ⟨by simp [h.1], fun j v' a' h1 h2 => ?_⟩
  rw [List.getElem?_set] at h1 h2
  by_cases hij : i = j
  · subst hij
    simp at h1 h2
    obtain ⟨_, rfl⟩ := h1
    obtain ⟨_, rfl⟩ := h2
    exact hv
  · simp [hij] at h1 h2
    exact h.2 j v' a' h1 h2

/-- What lasts from one state to a later one. -/
structure Ev (κ κ' : Cx) : Prop where
  fr : ∀ b : Nat, κ.F b → κ'.F b ∧ κ'.W.heap[b]? = κ.W.heap[b]?
  pl : ∀ id e, κ.M id = some e → ∃ e', κ'.M id = some e' ∧ (e.ver < e'.ver ∨ e' = e)
  shp : ∀ (b : Nat) (cs : Array Value) (T : TypeId) (fz : Nat × Nat), κ.W.heap[b]? = some (Obj.cells cs T fz) → ∃ (cs' : Array Value) (fz' : Nat × Nat), κ'.W.heap[b]? = some (Obj.cells cs' T fz') ∧ cs'.size = cs.size

theorem Ev.refl (κ : Cx) : Ev κ κ := ⟨fun _ h => ⟨h, rfl⟩, fun _ e h => ⟨e, h, .inr rfl⟩, fun _ cs _ fz h => ⟨cs, fz, h, rfl⟩⟩
theorem Ev.trans {a b c : Cx} (h : Ev a b) (k : Ev b c) : Ev a c := by
  refine ⟨fun x hx => ?_, fun id e he => ?_, fun x cs T fz hx => ?_⟩
  · obtain ⟨h1, h2⟩ := h.fr x hx
    obtain ⟨k1, k2⟩ := k.fr x h1
    exact ⟨k1, k2.trans h2⟩
  · obtain ⟨e1, h1, h2⟩ := h.pl id e he
    obtain ⟨e2, k1, k2⟩ := k.pl id e1 h1
    refine ⟨e2, k1, ?_⟩
    rcases h2 with h2 | rfl
    · rcases k2 with k2 | rfl
      · exact .inl (by omega)
      · exact .inl h2
    · exact k2
  · obtain ⟨cs1, fz1, h1, h2⟩ := h.shp x cs T fz hx
    obtain ⟨cs2, fz2, k1, k2⟩ := k.shp x cs1 T fz1 h1
    exact ⟨cs2, fz2, k1, k2.trans h2⟩

theorem cell_of_heap {w w' : World} {a : Addr} (h : w'.heap[a.block]? = w.heap[a.block]?) : w'.cell? a = w.cell? a := World.cell?_of_block h
theorem add_block (a : Addr) (n : Nat) : (a.add n).block = a.block := by unfold Addr.add; split <;> rfl

theorem Rep.ev {κ κ' : Cx} (h : Ev κ κ') {v : Value} {a : AV} (r : Rep κ.W κ.M κ.F v a) : Rep κ'.W κ'.M κ'.F v a := by
  induction r with
  | int k n => exact .int k n
  | bool b => exact .bool b
  | str s => exact .str s
  | sl ad n c t cells vs hn ht hF hs hl hc hr ih =>
    obtain ⟨h1, h2⟩ := h.fr _ hF
    refine .sl ad n c t cells vs hn ht h1 hs hl (fun j v hv => ?_) ih
    rw [cell_of_heap (w := κ.W) (by rw [add_block]; exact h2)]
    exact hc j v hv
  | sl0 A n c t hn ht => exact .sl0 A n c t hn ht
  | ro ad cells vs hF hs hl hc hr ih =>
    obtain ⟨h1, h2⟩ := h.fr _ hF
    refine .ro ad cells vs h1 hs hl (fun j v hv => ?_) ih
    rw [cell_of_heap (w := κ.W) (by rw [add_block]; exact h2)]
    exact hc j v hv
  | ptr id ver off b hm =>
    obtain ⟨e', h1, h2⟩ := h.pl _ _ hm
    rcases h2 with h2 | rfl
    · exact .ptrOld _ _ _ _ e' h1 h2
    · exact .ptr _ _ _ _ h1
  | ptrOld v id ver off e hm hv =>
    obtain ⟨e', h1, h2⟩ := h.pl _ _ hm
    refine .ptrOld _ _ _ _ e' h1 ?_
    rcases h2 with h2 | rfl <;> omega
  | msl id ver sz off n c b cs T fz hm hn hb hcap =>
    obtain ⟨e', h1, h2⟩ := h.pl _ _ hm
    rcases h2 with h2 | rfl
    · exact .mslOld _ _ _ _ _ _ e' h1 h2
    · obtain ⟨cs', fz', h3, h4⟩ := h.shp b cs T fz hb
      exact .msl _ _ _ _ _ _ _ cs' T fz' h1 hn h3 (by omega)
  | mslNil A id ver sz off b hm =>
    obtain ⟨e', h1, h2⟩ := h.pl _ _ hm
    rcases h2 with h2 | rfl
    · exact .mslOld _ _ _ _ _ _ e' h1 h2
    · exact .mslNil _ _ _ _ _ _ h1
  | mslOld v id ver sz off n e hm hv =>
    obtain ⟨e', h1, h2⟩ := h.pl _ _ hm
    refine .mslOld _ _ _ _ _ _ e' h1 ?_
    rcases h2 with h2 | rfl <;> omega
  | agg vs cells hl h1 hr ih => exact .agg vs cells hl h1 ih
  | tup vs as hl hr ih => exact .tup vs as hl ih
  | fn f vs as hl hr ih => exact .fn f vs as hl ih
  | nilp => exact .nilp
  | junk v => exact .junk v

theorem Reps.ev {κ κ' : Cx} (h : Ev κ κ') {vs : List Value} {as : List AV} (r : Reps κ vs as) : Reps κ' vs as :=
  ⟨r.1, fun j v a h1 h2 => (r.2 j v a h1 h2).ev h⟩

/-- Abstract blocks. -/
inductive ABlk where
  | dead
  | live (ver : Nat) (cells : List AV)
  deriving Inhabited

abbrev AH := Nat → ABlk
def noH : AH := fun _ => .dead
def upd (H : AH) (i : Nat) (b : ABlk) : AH := fun j => if j = i then b else H j
theorem upd_same (H : AH) (i : Nat) (b : ABlk) : upd H i b i = b := by simp [upd]
theorem upd_ne (H : AH) {i j : Nat} (b : ABlk) (h : j ≠ i) : upd H i b j = H j := by simp [upd, h]
theorem upd_upd (H : AH) (i : Nat) (b c : ABlk) : upd (upd H i b) i c = upd H i c := by funext j; simp only [upd]; split <;> rfl

/-- What stands in a place's block. -/
def Held (base : Nat) (κ : Cx) (e : Ent) (cells : List AV) : Prop :=
  match e.blk with
  | none => cells = []
  | some b => base ≤ b ∧ ¬ κ.F b ∧ ∃ (vs rest : List Value) (T : TypeId), κ.W.heap[b]? = some (Obj.cells (vs ++ rest).toArray T (0, 0)) ∧
      (∀ v ∈ vs, v.oneCell' = true) ∧ Reps κ vs cells

/-- The concrete state bears the abstract heap. -/
structure Inv (base : Nat) (κ : Cx) (H : AH) (nx : Nat) : Prop where
  hF : ∀ b, κ.F b → b < κ.W.heap.size
  hbase : base ≤ κ.W.heap.size
  hM : ∀ id, nx ≤ id → κ.M id = none
  live : ∀ id ver cells, H id = .live ver cells → ∃ e, κ.M id = some e ∧ e.ver = ver ∧ Held base κ e cells
  inj : ∀ i j ei ej b, i ≠ j → κ.M i = some ei → κ.M j = some ej → ei.blk = some b → ej.blk = some b → H i = .dead ∨ H j = .dead

/-- Steps. -/
structure Ext (base : Nat) (κ κ' : Cx) : Prop where
  ev : Ev κ κ'
  os : κ'.W.os = κ.W.os
  tape : κ'.W.tape = κ.W.tape
  output : κ'.W.output = κ.W.output
  size : κ.W.heap.size ≤ κ'.W.heap.size
  below : ∀ b : Nat, b < base → κ'.W.heap[b]? = κ.W.heap[b]?
  newF : ∀ b, κ'.F b → κ.F b ∨ base ≤ b

theorem Ext.refl (base : Nat) (κ : Cx) : Ext base κ κ := ⟨.refl κ, rfl, rfl, rfl, Nat.le_refl _, fun _ _ => rfl, fun _ h => .inl h⟩
theorem Ext.trans {base : Nat} {a b c : Cx} (h : Ext base a b) (k : Ext base b c) : Ext base a c :=
  ⟨h.ev.trans k.ev, k.os.trans h.os, k.tape.trans h.tape, k.output.trans h.output, Nat.le_trans h.size k.size, fun x hx => (k.below x hx).trans (h.below x hx),
   fun x hx => (k.newF x hx).elim (fun h' => h.newF x h') .inr⟩

theorem Inv.live_lt {base nx : Nat} {κ : Cx} {H : AH} (h : Inv base κ H nx) {id ver : Nat} {cells : List AV} (hl : H id = .live ver cells) : id < nx := by
  rcases Nat.lt_or_ge id nx with h1 | h1
  · exact h1
  · obtain ⟨e, he, _⟩ := h.live id ver cells hl
    rw [h.hM id h1] at he
    cases he

/-- The state behind a new block. -/
def Cx.alloc (κ : Cx) (nx : Nat) (o : Obj) : Cx := { W := κ.W.alloc o, M := fun i => if i = nx then some ⟨0, some κ.W.heap.size⟩ else κ.M i, F := κ.F }
theorem heap_alloc_lt (w : World) (o : Obj) {b : Nat} (h : b < w.heap.size) : (w.alloc o).heap[b]? = w.heap[b]? := by
  show (w.heap.push o)[b]? = _
  rw [Array.getElem?_push, if_neg (by omega)]
theorem heap_alloc_at (w : World) (o : Obj) : (w.alloc o).heap[w.heap.size]? = some o := by
  show (w.heap.push o)[w.heap.size]? = _
  simp
theorem heap_some_lt {w : World} {b : Nat} {o : Obj} (h : w.heap[b]? = some o) : b < w.heap.size := (Array.getElem?_eq_some_iff.1 h).1
theorem Cx.alloc_ev {base nx : Nat} {κ : Cx} {H : AH} (hi : Inv base κ H nx) (o : Obj) : Ev κ (κ.alloc nx o) := by
  refine ⟨fun b hb => ⟨hb, heap_alloc_lt _ _ (hi.hF b hb)⟩, fun id e he => ⟨e, ?_, .inr rfl⟩, fun b cs T fz hb => ⟨cs, fz, ?_, rfl⟩⟩
  · have : id ≠ nx := fun h => by rw [h, hi.hM nx (Nat.le_refl _)] at he; cases he
    simp [Cx.alloc, this, he]
  · exact (heap_alloc_lt _ _ (heap_some_lt hb)).trans hb
theorem Cx.alloc_ext {base nx : Nat} {κ : Cx} {H : AH} (hi : Inv base κ H nx) (o : Obj) : Ext base κ (κ.alloc nx o) :=
  ⟨κ.alloc_ev hi o, rfl, rfl, rfl, by simp [Cx.alloc], fun b hb => heap_alloc_lt _ _ (Nat.lt_of_lt_of_le hb hi.hbase), fun _ h => .inl h⟩
theorem Held.ev {base : Nat} {κ κ' : Cx} {e : Ent} {cells : List AV} (h : Held base κ e cells) (hv : Ev κ κ') (hF : ∀ b, e.blk = some b → base ≤ b → ¬ κ.F b → ¬ κ'.F b)
    (hb : ∀ b, e.blk = some b → κ'.W.heap[b]? = κ.W.heap[b]?) : Held base κ' e cells := by
  unfold Held at *
  cases hq : e.blk with
  | none => rw [hq] at h; exact h
  | some b =>
    rw [hq] at h
    obtain ⟨h1, h2, vs, rest, T, h3, h4, h5⟩ := h
    exact ⟨h1, hF b hq h1 h2, vs, rest, T, (hb b hq).trans h3, h4, h5.ev hv⟩
theorem Held.lt {base : Nat} {κ : Cx} {e : Ent} {cells : List AV} (h : Held base κ e cells) {b : Nat} (hb : e.blk = some b) : b < κ.W.heap.size := by
  unfold Held at h
  rw [hb] at h
  obtain ⟨_, _, vs, rest, T, h3, _⟩ := h
  exact heap_some_lt h3

/-- A new abstract block. -/
theorem Inv.alloc {base nx : Nat} {κ : Cx} {H : AH} (hi : Inv base κ H nx) (vs rest : List Value) (T : TypeId) (cells : List AV) (h1 : ∀ v ∈ vs, v.oneCell' = true) (hr : Reps κ vs cells) :
    Inv base (κ.alloc nx (.cells (vs ++ rest).toArray T)) (upd H nx (.live 0 cells)) (nx + 1) := by
  have hev := κ.alloc_ev hi (.cells (vs ++ rest).toArray T)
  have hMne : ∀ id, id ≠ nx → (κ.alloc nx (.cells (vs ++ rest).toArray T)).M id = κ.M id := fun id h => by simp [Cx.alloc, h]
  have hMeq : (κ.alloc nx (.cells (vs ++ rest).toArray T)).M nx = some ⟨0, some κ.W.heap.size⟩ := by simp [Cx.alloc]
  refine ⟨fun b hb => ?_, ?_, fun id hid => ?_, fun id ver cs hl => ?_, fun i j ei ej b hij hi1 hj1 hib hjb => ?_⟩
  · exact Nat.lt_of_lt_of_le (hi.hF b hb) (by simp [Cx.alloc])
  · exact Nat.le_trans hi.hbase (by simp [Cx.alloc])
  · rw [hMne id (by omega)]; exact hi.hM id (by omega)
  · by_cases hid : id = nx
    · subst hid
      rw [upd_same] at hl
      cases hl
      refine ⟨_, hMeq, rfl, ?_⟩
      refine ⟨hi.hbase, fun h => absurd (hi.hF _ h) (Nat.lt_irrefl _), vs, rest, T, heap_alloc_at _ _, h1, hr.ev hev⟩
    · rw [upd_ne _ _ hid] at hl
      obtain ⟨e, he, hv, hh⟩ := hi.live id ver cs hl
      refine ⟨e, by rw [hMne id hid]; exact he, hv, hh.ev hev (fun _ _ _ h => h) (fun b hb => heap_alloc_lt _ _ (hh.lt hb))⟩
  · -- one of them is new: its block is new
    by_cases hin : i = nx
    · subst hin
      have hjn : j ≠ i := Ne.symm hij
      rw [hMeq] at hi1
      cases hi1
      rw [hMne j hjn] at hj1
      right
      rw [upd_ne _ _ hjn]
      cases hH : H j with
      | dead => rfl
      | live ver cs =>
        obtain ⟨e, he, _, hh⟩ := hi.live j ver cs hH
        rw [hj1] at he
        cases he
        have := hh.lt hjb
        simp at hib
        omega
    · by_cases hjn : j = nx
      · subst hjn
        rw [hMeq] at hj1
        cases hj1
        rw [hMne i hin] at hi1
        left
        rw [upd_ne _ _ hin]
        cases hH : H i with
        | dead => rfl
        | live ver cs =>
          obtain ⟨e, he, _, hh⟩ := hi.live i ver cs hH
          rw [hi1] at he
          cases he
          have := hh.lt hib
          simp at hjb
          omega
      · rw [hMne i hin] at hi1
        rw [hMne j hjn] at hj1
        rw [upd_ne _ _ hin, upd_ne _ _ hjn]
        exact hi.inj i j ei ej b hij hi1 hj1 hib hjb

/-- A draw. -/
def Cx.drew (κ : Cx) : Cx := { κ with W := κ.W.drew }
theorem Ev.drew (κ : Cx) : Ev κ κ.drew := ⟨fun _ h => ⟨h, rfl⟩, fun _ e h => ⟨e, h, .inr rfl⟩, fun _ cs _ fz h => ⟨cs, fz, h, rfl⟩⟩
theorem Ext.drew (base : Nat) (κ : Cx) : Ext base κ κ.drew := ⟨.drew κ, rfl, rfl, rfl, Nat.le_refl _, fun _ _ => rfl, fun _ h => .inl h⟩
theorem Inv.drew {base nx : Nat} {κ : Cx} {H : AH} (hi : Inv base κ H nx) : Inv base κ.drew H nx :=
  ⟨hi.hF, hi.hbase, hi.hM, fun id ver cells hl => let ⟨e, he, hv, hh⟩ := hi.live id ver cells hl; ⟨e, he, hv, hh.ev (.drew κ) (fun _ _ _ h => h) (fun _ _ => rfl)⟩, hi.inj⟩

/-- A new block whose cells will not turn any more. -/
def Cx.allocF (κ : Cx) (o : Obj) : Cx := { W := κ.W.alloc o, M := κ.M, F := fun b => κ.F b ∨ b = κ.W.heap.size }
theorem Cx.allocF_ev {base nx : Nat} {κ : Cx} {H : AH} (hi : Inv base κ H nx) (o : Obj) : Ev κ (κ.allocF o) :=
  ⟨fun b hb => ⟨.inl hb, heap_alloc_lt _ _ (hi.hF b hb)⟩, fun _ e he => ⟨e, he, .inr rfl⟩, fun _ cs _ fz hb => ⟨cs, fz, (heap_alloc_lt _ _ (heap_some_lt hb)).trans hb, rfl⟩⟩
theorem Cx.allocF_ext {base nx : Nat} {κ : Cx} {H : AH} (hi : Inv base κ H nx) (o : Obj) : Ext base κ (κ.allocF o) :=
  ⟨κ.allocF_ev hi o, rfl, rfl, rfl, by simp [Cx.allocF], fun b hb => heap_alloc_lt _ _ (Nat.lt_of_lt_of_le hb hi.hbase),
   fun _ h => h.elim .inl (fun e => .inr (e ▸ hi.hbase))⟩
theorem Inv.allocF {base nx : Nat} {κ : Cx} {H : AH} (hi : Inv base κ H nx) (o : Obj) : Inv base (κ.allocF o) H nx := by
  refine ⟨fun b hb => ?_, Nat.le_trans hi.hbase (by simp [Cx.allocF]), hi.hM, fun id ver cells hl => ?_, hi.inj⟩
  · rcases hb with hb | rfl
    · exact Nat.lt_of_lt_of_le (hi.hF b hb) (by simp [Cx.allocF])
    · simp [Cx.allocF]
  · obtain ⟨e, he, hv, hh⟩ := hi.live id ver cells hl
    exact ⟨e, he, hv, hh.ev (κ.allocF_ev hi o) (fun b hb _ h hc => hc.elim h (fun e => by have := hh.lt hb; omega)) (fun b hb => heap_alloc_lt _ _ (hh.lt hb))⟩

/-- The cells of a live block are written anew. -/
def Cx.setRow (κ : Cx) (b : Nat) (cs : Array Value) : Cx := { κ with W := κ.W.setRow b cs }
theorem setRow_ev {κ : Cx} {b : Nat} {old cs : Array Value} {T : TypeId} {fz : Nat × Nat} (hb : κ.W.heap[b]? = some (Obj.cells old T fz)) (hF : ¬ κ.F b) (hs : cs.size = old.size) : Ev κ (κ.setRow b cs) := by
  refine ⟨fun x hx => ⟨hx, setRow_other _ _ _ _ (fun e => hF (e ▸ hx))⟩, fun _ e he => ⟨e, he, .inr rfl⟩, fun x cs' T' fz' hx => ?_⟩
  by_cases hxb : x = b
  · subst hxb
    rw [hb] at hx
    cases hx
    exact ⟨cs, fz, setRow_heap _ _ _ _ _ _ hb, hs⟩
  · exact ⟨cs', fz', (setRow_other _ _ _ _ hxb).trans hx, rfl⟩
theorem setRow_ext {base : Nat} {κ : Cx} {b : Nat} {old cs : Array Value} {T : TypeId} {fz : Nat × Nat} (hb : κ.W.heap[b]? = some (Obj.cells old T fz)) (hF : ¬ κ.F b) (hs : cs.size = old.size) (hbase : base ≤ b) : Ext base κ (κ.setRow b cs) :=
  ⟨setRow_ev hb hF hs, rfl, rfl, rfl, by simp [Cx.setRow], fun x hx => setRow_other _ _ _ _ (by omega), fun _ h => .inl h⟩
theorem Inv.setRow {base nx : Nat} {κ : Cx} {H : AH} (hi : Inv base κ H nx) {id ver b : Nat} {cells cells' : List AV} (hl : H id = .live ver cells) (hm : κ.M id = some ⟨ver, some b⟩)
    {old : Array Value} {T : TypeId} (hb : κ.W.heap[b]? = some (Obj.cells old T (0, 0))) (hF : ¬ κ.F b) (vs rest : List Value) (hs : (vs ++ rest).length = old.size)
    (h1 : ∀ v ∈ vs, v.oneCell' = true) (hr : Reps κ vs cells') :
    Inv base (κ.setRow b (vs ++ rest).toArray) (upd H id (.live ver cells')) nx := by
  have hsz : (vs ++ rest).toArray.size = old.size := by simpa using hs
  have hev : Ev κ (κ.setRow b (vs ++ rest).toArray) := setRow_ev hb hF hsz
  have hbb : base ≤ b := by
    obtain ⟨e, he, _, hh⟩ := hi.live id ver cells hl
    rw [hm] at he
    cases he
    exact hh.1
  refine ⟨fun x hx => ?_, ?_, hi.hM, fun j vj cj hj => ?_, fun i j ei ej x hij h1 h2 h3 h4 => ?_⟩
  · simpa [Cx.setRow] using hi.hF x hx
  · simpa [Cx.setRow] using hi.hbase
  · by_cases hji : j = id
    · subst hji
      rw [upd_same] at hj
      cases hj
      exact ⟨_, hm, rfl, hbb, hF, vs, rest, T, setRow_heap _ _ _ _ _ _ hb, h1, hr.ev hev⟩
    · rw [upd_ne _ _ hji] at hj
      obtain ⟨e, he, hv, hh⟩ := hi.live j vj cj hj
      refine ⟨e, he, hv, hh.ev hev (fun _ _ _ h => h) (fun x hx => setRow_other _ _ _ _ (fun e' => ?_))⟩
      subst e'
      rcases hi.inj j id e _ x hji he hm hx rfl with h | h
      · rw [h] at hj; cases hj
      · rw [h] at hl; cases hl
  · have := hi.inj i j ei ej x hij h1 h2 h3 h4
    by_cases hii : i = id
    · subst hii
      rcases this with h | h
      · rw [h] at hl; cases hl
      · right; rw [upd_ne _ _ (Ne.symm hij)]; exact h
    · by_cases hjj : j = id
      · subst hjj
        rcases this with h | h
        · left; rw [upd_ne _ _ hij]; exact h
        · rw [h] at hl; cases hl
      · rw [upd_ne _ _ hii, upd_ne _ _ hjj]; exact this

/-- A block moves: the place gets a new number of the version. -/
def Cx.move (κ : Cx) (id ver : Nat) (b : Option Nat) : Cx := { κ with M := fun i => if i = id then some ⟨ver + 1, b⟩ else κ.M i }
theorem move_ev {κ : Cx} {id ver : Nat} {b b' : Option Nat} (h : κ.M id = some ⟨ver, b⟩) : Ev κ (κ.move id ver b') := by
  refine ⟨fun _ h => ⟨h, rfl⟩, fun i e he => ?_, fun _ cs _ fz h => ⟨cs, fz, h, rfl⟩⟩
  by_cases hi : i = id
  · subst hi
    rw [h] at he
    cases he
    exact ⟨⟨ver + 1, b'⟩, by simp [Cx.move], .inl (Nat.lt_succ_self _)⟩
  · exact ⟨e, by simp [Cx.move, hi, he], .inr rfl⟩
theorem move_ext {base : Nat} {κ : Cx} {id ver : Nat} {b b' : Option Nat} (h : κ.M id = some ⟨ver, b⟩) : Ext base κ (κ.move id ver b') :=
  ⟨move_ev h, rfl, rfl, rfl, Nat.le_refl _, fun _ _ => rfl, fun _ h => .inl h⟩

/-- What a place's block becomes. 'hfresh': the block is the old one, or belongs to no place that lives. -/
theorem Inv.move {base nx : Nat} {κ : Cx} {H : AH} (hi : Inv base κ H nx) {id ver : Nat} {b b' : Option Nat} {cells cells' : List AV} (hl : H id = .live ver cells) (hm : κ.M id = some ⟨ver, b⟩)
    (hh' : Held base (κ.move id ver b') ⟨ver + 1, b'⟩ cells') (hfresh : ∀ j e x, j ≠ id → κ.M j = some e → e.blk = some x → b' = some x → H j = .dead) :
    Inv base (κ.move id ver b') (upd H id (.live (ver + 1) cells')) nx := by
  have hlt := hi.live_lt hl
  refine ⟨hi.hF, hi.hbase, fun i h => ?_, fun j vj cj hj => ?_, fun i j ei ej x hij h1 h2 h3 h4 => ?_⟩
  · have : i ≠ id := by omega
    simp [Cx.move, this, hi.hM i h]
  · by_cases hji : j = id
    · subst hji
      rw [upd_same] at hj
      cases hj
      exact ⟨⟨ver + 1, b'⟩, by simp [Cx.move], rfl, hh'⟩
    · rw [upd_ne _ _ hji] at hj
      obtain ⟨e, he, hv, hh⟩ := hi.live j vj cj hj
      exact ⟨e, by simp [Cx.move, hji, he], hv, hh.ev (move_ev hm) (fun _ _ _ h => h) (fun _ _ => rfl)⟩
  · by_cases hii : i = id
    · subst hii
      have hji : j ≠ i := Ne.symm hij
      simp [Cx.move] at h1
      subst h1
      simp [Cx.move, hji] at h2
      right
      rw [upd_ne _ _ hji]
      exact hfresh j ej x hji h2 h4 h3
    · by_cases hjj : j = id
      · subst hjj
        simp [Cx.move] at h2
        subst h2
        simp [Cx.move, hii] at h1
        left
        rw [upd_ne _ _ hii]
        exact hfresh i ei x hii h1 h3 h4
      · simp [Cx.move, hii] at h1
        simp [Cx.move, hjj] at h2
        rw [upd_ne _ _ hii, upd_ne _ _ hjj]
        exact hi.inj i j ei ej x hij h1 h2 h3 h4

/-- What is known may be forgotten. -/
theorem Inv.sub {base nx : Nat} {κ : Cx} {H H' : AH} (hi : Inv base κ H nx) (h : ∀ i, H' i = H i ∨ H' i = .dead) : Inv base κ H' nx := by
  refine ⟨hi.hF, hi.hbase, hi.hM, fun id ver cells hl => ?_, fun i j ei ej b hij h1 h2 h3 h4 => ?_⟩
  · rcases h id with h' | h'
    · exact hi.live id ver cells (h' ▸ hl)
    · rw [h'] at hl; cases hl
  · rcases h i with hi' | hi'
    · rcases h j with hj' | hj'
      · rw [hi', hj']; exact hi.inj i j ei ej b hij h1 h2 h3 h4
      · exact .inr hj'
    · exact .inl hi'
end Go.TH
