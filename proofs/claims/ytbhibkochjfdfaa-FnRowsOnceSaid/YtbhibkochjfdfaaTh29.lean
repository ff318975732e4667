/-
  TH, part 29: answers of which it is forgotten whether there is room behind them.
-/
import Derived.Test.YtbhibkochjfdfaaTh28
set_option linter.unusedVariables false
set_option linter.unusedSimpArgs false
namespace Go.TH
open Go
mutual
def looseA : AV → AV
  | .sl n _ cs => .sl n false (looseL cs)
  | .ro cs => .ro (looseL cs)
  | .agg cs => .agg (looseL cs)
  | .tup cs => .tup (looseL cs)
  | .fn f cs => .fn f (looseL cs)
  | .ptr id ver off => .ptr id ver off
  | .msl id ver sz off n => .msl id ver sz off n
  | .int k n => .int k n
  | .bool b => .bool b
  | .str s => .str s
  | .nilp => .nilp
  | .junk => .junk
def looseL : List AV → List AV
  | [] => []
  | a :: l => looseA a :: looseL l
end
theorem looseL_map : ∀ l, looseL l = l.map looseA
  | [] => rfl
  | a :: l => by simp [looseL, looseL_map l]
theorem Rep.loose {W : World} {M : Nat → Option Ent} {F : Nat → Prop} {v : Value} {a : AV} (r : Rep W M F v a) : Rep W M F v (looseA a) := by
  have pts : ∀ {vs : List Value} {cells : List AV}, (∀ (j : Nat) (v : Value) (a : AV), vs[j]? = some v → cells[j]? = some a → Rep W M F v (looseA a)) →
      ∀ (j : Nat) (v : Value) (a : AV), vs[j]? = some v → (looseL cells)[j]? = some a → Rep W M F v a := by
    intro vs cells h j v a h1 h2
    rw [looseL_map, List.getElem?_map] at h2
    cases hc : cells[j]? with
    | none => rw [hc] at h2; cases h2
    | some x => rw [hc] at h2; cases h2; exact h j v x h1 hc
  have len : ∀ cells : List AV, (looseL cells).length = cells.length := fun cells => by rw [looseL_map]; simp
  induction r with
  | int k n => exact .int k n
  | bool b => exact .bool b
  | str s => exact .str s
  | sl ad n c t cells vs hn ht hF hs hl hc hr ih => exact .sl ad n c false _ vs hn (fun h => by cases h) hF hs (by rw [len]; exact hl) hc (pts ih)
  | sl0 A n c t hn ht => exact .sl0 A n c false hn (fun h => by cases h)
  | ro ad cells vs hF hs hl hc hr ih => exact .ro ad _ vs hF hs (by rw [len]; exact hl) hc (pts ih)
  | ptr id ver off b hm => exact .ptr id ver off b hm
  | ptrOld v id ver off e hm hv => exact .ptrOld v id ver off e hm hv
  | msl id ver sz off n c b cs T fz hm hn hb hcap => exact .msl id ver sz off n c b cs T fz hm hn hb hcap
  | mslNil A id ver sz off b hm => exact .mslNil A id ver sz off b hm
  | mslOld v id ver sz off n e hm hv => exact .mslOld v id ver sz off n e hm hv
  | agg vs cells hl h1 hr ih => exact .agg vs _ (by rw [len]; exact hl) h1 (pts ih)
  | tup vs as hl hr ih => exact .tup vs _ (by rw [len]; exact hl) (pts ih)
  | fn f vs as hl hr ih => exact .fn f vs _ (by rw [len]; exact hl) (pts ih)
  | nilp => exact .nilp
  | junk v => exact .junk v
theorem CallC.loose {P : Program} {f : FuncId} {args : List AV} {H : AH} {nx : Nat} {r : AV} {H' : AH} {nx' : Nat} (h : CallC P f args H nx r H' nx') : CallC P f args H nx (looseA r) H' nx' := by
  refine ⟨h.1, fun base κ vs hi hr => (h.2 base κ vs hi hr).mono ?_⟩
  rintro e W' ⟨v, κ', h1, h2, h3, h4⟩
  exact ⟨v, κ', h1, h2, h3.loose, h4⟩
theorem QCall.loose {P : Program} {f : FuncId} {args : List AV} {r : AV} (h : QCall P f args r) : QCall P f args (looseA r) := fun H nx => (h H nx).loose
/-- On pure arguments: what comes back is looked at as a picture, 'd' deep, without what is behind it. -/
theorem qcall_bodyL {P : Program} (hm : P.follows .mixedOrders = true) {f : FuncId} {fn : Func} (hf : P.funcs[f]? = some fn) (c : Code) (hb : fn.body = some c) {n : Nat} (hn : fn.ntmps = n) {rs : List ResultVar} (hrs : fn.results = rs.toArray)
    (hname : (fn.name == "runtime.NumGoroutine") = false) {args : List AV} {r : AV} (d : Nat) (hl : args.length ≤ n) (hp : pureL args = true)
    (h : awp P c (bodyQ P rs fun r1 H1 _ => looseA (snapA d H1 r1) = r) ⟨initT n args, noH, 0⟩) : QCall P f args r := by
  obtain ⟨r1, H1, nx1, h1, h2⟩ := dcall_body hm hf c hb hn hrs hname hl h
  have := (qcall_of hp h1 d).loose
  rwa [h2] at this
@[go_sem] theorem looseA_sl {n : Nat} {t : Bool} {cs : List AV} : looseA (.sl n t cs) = .sl n false (cs.map looseA) := by simp [looseA, looseL_map]
@[go_sem] theorem looseA_tup {cs : List AV} : looseA (.tup cs) = .tup (cs.map looseA) := by simp [looseA, looseL_map]
@[go_sem] theorem looseA_agg {cs : List AV} : looseA (.agg cs) = .agg (cs.map looseA) := by simp [looseA, looseL_map]
@[go_sem] theorem looseA_int {k : IntKind} {n : Int} : looseA (.int k n) = .int k n := rfl
@[go_sem] theorem looseA_bool {b : Bool} : looseA (.bool b) = .bool b := rfl
@[go_sem] theorem looseA_str {b : ByteArray} : looseA (.str b) = .str b := rfl
theorem flat_loose {α : Type} {c : α → List AV} (hc : ∀ a, (c a).map looseA = c a) : ∀ l : List α, (flat c l).map looseA = flat c l
  | [] => rfl
  | a :: l => by rw [flat_cons, List.map_append, hc, flat_loose hc l]
@[go_sem] theorem GVal.looseL {l : List GVal} : (flat GVal.c l).map looseA = flat GVal.c l := flat_loose (fun _ => rfl) l
@[go_sem] theorem GCol.looseL {l : List GCol} : (flat GCol.c l).map looseA = flat GCol.c l := flat_loose (fun _ => rfl) l
@[go_sem] theorem rowA_loose {l : GRow} : looseA (rowA l) = rowA l := by unfold rowA; rw [looseA_sl, GVal.looseL]
@[go_sem] theorem cR_looseL {l : List GRow} : (flat cR l).map looseA = flat cR l := flat_loose (fun r => by simp [cR, rowA_loose]) l
@[go_sem] theorem rowsA_loose {l : List GRow} : looseA (rowsA l) = rowsA l := by unfold rowsA; rw [looseA_sl, cR_looseL]
/-- LENT FOR GOOD: what is the caller's own is only read from then on. -/
theorem callC_lend {P : Program} {f : FuncId} {args : List AV} {H : AH} {nx : Nat} {r : AV} (d : Nat) (h : QCall P f (args.map (snapA d H)) r) (hp : pureA r = true) : CallC P f args H nx r noH nx := by
  refine ⟨(h noH 0).1, fun base κ vs hi hr => ?_⟩
  have live : ∀ b, liveB κ H b → base ≤ b ∧ b < κ.W.heap.size := by
    rintro b ⟨id, ver, cells, e, h1, h2, h3⟩
    obtain ⟨e', he', _, hh⟩ := hi.live id ver cells h1
    rw [h2] at he'
    cases he'
    refine ⟨?_, hh.lt h3⟩
    unfold Held at hh
    rw [h3] at hh
    exact hh.1
  have hF0 : ∀ b, (κ.F b ∨ liveB κ H b) → b < κ.W.heap.size := fun b hb => hb.elim (hi.hF b) fun h => (live b h).2
  have hi0 : Inv κ.W.heap.size ⟨κ.W, fun _ => none, fun b => κ.F b ∨ liveB κ H b⟩ noH 0 := ⟨hF0, Nat.le_refl _, (fun _ _ => rfl), (fun id ver cells h => by cases h), (fun i j ei ej b _ h _ _ _ => by cases h)⟩
  have hr0 : Reps ⟨κ.W, fun _ => none, fun b => κ.F b ∨ liveB κ H b⟩ vs (args.map (snapA d H)) := snap_reps hi (fun b hb => .inl hb) (fun b hb => .inr hb) d hr
  refine ((h noH 0).2 _ _ vs hi0 hr0).mono ?_
  rintro e W' ⟨v, κ', rfl, rfl, hrep, hext, hinv⟩
  have ev : Ev κ ⟨κ'.W, κ.M, κ'.F⟩ := ⟨fun b hb => hext.ev.fr b (.inl hb), fun id e he => ⟨e, he, .inr rfl⟩, hext.ev.shp⟩
  refine ⟨v, ⟨κ'.W, κ.M, κ'.F⟩, rfl, rfl, hrep.pure hp, ?_, ?_⟩
  · refine ⟨ev, hext.os, hext.tape, hext.output, hext.size, fun b hb => hext.below b (Nat.lt_of_lt_of_le hb hi.hbase), fun b hb => ?_⟩
    rcases hext.newF b hb with h' | h'
    · exact h'.imp id fun h => (live b h).1
    · exact .inr (Nat.le_trans hi.hbase h')
  · exact ⟨fun b hb => hinv.hF b hb, Nat.le_trans hi.hbase hext.size, hi.hM, (fun id ver cells hl => by cases hl), (fun i j ei ej b _ _ _ _ _ => .inl rfl)⟩
theorem CallB.lend {P : Program} (d : Nat) {f : FuncId} {args : List AV} {H : AH} {nx : Nat} {r : AV} {K : AV → AH → Nat → Prop} {w : Box K} (h : QCall P f (args.map (snapA d H)) r) (hp : pureA r = true) (k : K r noH nx) : CallB P f args H nx K w := ⟨⟨_, _, _, callC_lend d h hp, k⟩⟩
@[go_sem] theorem sub0_toNat {n : Nat} : ((n : Int) - 0).toNat = n := by omega
end Go.TH
