/-
  TH, part 21: what simp is told.
-/
import Derived.Test.YtbhibkochjfdfaaTh20
set_option linter.unusedVariables false
set_option linter.unusedSimpArgs false
namespace Go.TH
open Go

def initT : Nat → List AV → List AV
  | 0, _ => []
  | n + 1, [] => .tup [] :: initT n []
  | n + 1, a :: l => a :: initT n l
theorem initT_nil : ∀ n, initT n [] = List.replicate n (.tup [])
  | 0 => rfl
  | n + 1 => by simp [initT, initT_nil n, List.replicate_succ]
theorem initT_eq : ∀ (n : Nat) (args : List AV), args.length ≤ n → args ++ List.replicate (n - args.length) (.tup []) = initT n args
  | n, [], _ => by simp [initT_nil]
  | 0, a :: l, h => by simp at h
  | n + 1, a :: l, h => by
    have := initT_eq n l (by simpa using h)
    simp only [initT, List.cons_append, List.length_cons, Nat.add_sub_add_right, this]
/-- A BODY GIVES A CONTRACT. -/
theorem call_body {P : Program} (hm : P.follows .mixedOrders = true) {f : FuncId} {fn : Func} (hf : P.funcs[f]? = some fn) (c : Code) (hb : fn.body = some c) {n : Nat} (hn : fn.ntmps = n) {rs : List ResultVar} (hrs : fn.results = rs.toArray)
    (hname : (fn.name == "runtime.NumGoroutine") = false) {args : List AV} {H : AH} {nx : Nat} {r : AV} {H' : AH} {nx' : Nat} (hl : args.length ≤ n)
    (h : awp P c (bodyQ P rs fun r1 H1 nx1 => r1 = r ∧ H1 = H' ∧ nx1 = nx') ⟨initT n args, H, nx⟩) : CallC P f args H nx r H' nx' :=
  call_of_body hm hf hb hn hrs hname (by rw [initT_eq n args hl]; exact h)
/-- On pure arguments, in a heap of its own: what comes back is looked at as a picture, 'd' deep. -/
theorem qcall_body {P : Program} (hm : P.follows .mixedOrders = true) {f : FuncId} {fn : Func} (hf : P.funcs[f]? = some fn) (c : Code) (hb : fn.body = some c) {n : Nat} (hn : fn.ntmps = n) {rs : List ResultVar} (hrs : fn.results = rs.toArray)
    (hname : (fn.name == "runtime.NumGoroutine") = false) {args : List AV} {r : AV} (d : Nat) (hl : args.length ≤ n) (hp : pureL args = true)
    (h : awp P c (bodyQ P rs fun r1 H1 _ => snapA d H1 r1 = r) ⟨initT n args, noH, 0⟩) : QCall P f args r :=
  qcall_ofQ hp d (callQ_of_body hm hf hb hn hrs hname (by rw [initT_eq n args hl]; exact h))

@[go_sem] theorem initT_zero {l : List AV} : initT 0 l = [] := by cases l <;> rfl
@[go_sem] theorem initT_succ_nil {n : Nat} : initT (n + 1) [] = .tup [] :: initT n [] := rfl
@[go_sem] theorem initT_cons {n : Nat} {a : AV} {l : List AV} : initT (n + 1) (a :: l) = a :: initT n l := rfl
@[go_sem] theorem upd_get {H : AH} {i j : Nat} {b : ABlk} : upd H i b j = if j = i then b else H j := rfl
@[go_sem] theorem bodyQ_normal {P : Program} {rs : List ResultVar} {K : AV → AH → Nat → Prop} {s : ASt} : bodyQ P rs K .normal s = bodyQ P rs K .ret s := rfl
def RetK (l : Option (Prop × List AV)) (s : ASt) (K : AV → AH → Nat → Prop) : Prop := match l with | some l => l.1 ∧ K (packA l.2) s.H s.nx | none => False
@[go_sem] theorem bodyQ_ret {P : Program} {rs : List ResultVar} {K : AV → AH → Nat → Prop} {s : ASt} : bodyQ P rs K .ret s = RetK (resA P s.H s.tmps rs) s K := rfl
@[congr] theorem bodyQ_congr {P : Program} {rs : List ResultVar} {K : AV → AH → Nat → Prop} {e : AEx} {s s' : ASt} (h : s = s') : bodyQ P rs K e s = bodyQ P rs K e s' := by rw [h]
@[congr] theorem RetK_congr {l l' : Option (Prop × List AV)} {K : AV → AH → Nat → Prop} {s s' : ASt} (h1 : l = l') (h : s = s') : RetK l s K = RetK l' s' K := by rw [h, h1]
@[go_sem] theorem RetK_some {p : Prop} {l : List AV} {K : AV → AH → Nat → Prop} {s : ASt} : RetK (some (p, l)) s K = (p ∧ K (packA l) s.H s.nx) := rfl
@[go_sem] theorem resA_nil {P : Program} {H : AH} {T : List AV} : resA P H T [] = some (True, []) := rfl
@[go_sem] theorem resA_tmp {P : Program} {H : AH} {T : List AV} {t : Tmp} {r : List ResultVar} : resA P H T (.tmp t :: r) = (resA P H T r).map fun l => (l.1, nthA T t :: l.2) := by simp only [resA, nthA_eq]
def cellR (c : Option (Prop × AV)) (l : Option (Prop × List AV)) : Option (Prop × List AV) :=
  match c, l with
  | some (p, v), some l => some (p ∧ l.1, v :: l.2)
  | _, _ => none
@[go_sem] theorem cellR_some {p : Prop} {v : AV} {l : Prop × List AV} : cellR (some (p, v)) (some l) = some (p ∧ l.1, v :: l.2) := rfl
def resP (b : ABlk) (ver off : Nat) (s : Bool × Nat) : Option (Prop × AV) := match b with | .live v cells => some (v = ver ∧ (loadA cells off s).1, (loadA cells off s).2) | .dead => none
@[go_sem] theorem resP_live {v : Nat} {cells : List AV} {ver off : Nat} {s : Bool × Nat} : resP (.live v cells) ver off s = some (v = ver ∧ (loadA cells off s).1, (loadA cells off s).2) := rfl
@[go_sem] theorem resC_ptr {H : AH} {s : Bool × Nat} {id ver off : Nat} : resC H (some s) (.ptr id ver off) = resP (H id) ver off s := rfl
@[go_sem] theorem resA_cell {P : Program} {H : AH} {T : List AV} {t : Tmp} {ty : TypeId} {r : List ResultVar} : resA P H T (.cell t ty :: r) = cellR (resC H (tyAS P ty) (nthA T t)) (resA P H T r) := by simp only [resA, nthA_eq]; rfl
@[go_sem] theorem packA_one {a : AV} : packA [a] = a := rfl
@[go_sem] theorem packA_nil : packA [] = .tup [] := rfl
@[go_sem] theorem packA_two {a b : AV} {l : List AV} : packA (a :: b :: l) = .tup (a :: b :: l) := rfl
@[go_sem] theorem guardT_bool {T : List AV} {b want : Bool} {d : Tmp} (h : T[d]? = some (.bool b)) : guardT T (some d) want = some (b == want) := by simp [guardT, h]
def gT (a : Option AV) (want : Bool) : Option Bool :=
  match a with
  | some (.bool b) => some (b == want)
  | some (.tup _) => some false
  | none => some false
  | _ => none
@[go_sem] theorem guardT_gT {T : List AV} {d : Tmp} {want : Bool} : guardT T (some d) want = gT T[d]? want := rfl
@[go_sem] theorem gT_bool {b : Bool} : gT (some (.bool b)) true = some b := by simp [gT]
@[go_sem] theorem gT_bool_f {b : Bool} : gT (some (.bool b)) false = some (!b) := by simp [gT]
@[go_sem] theorem gT_tup {l : List AV} {want : Bool} : gT (some (.tup l)) want = some false := rfl
def nthO : List Oper → Nat → Option Tmp
  | [], _ => none
  | o :: _, 0 => o.dst
  | _ :: l, n + 1 => nthO l n
@[go_sem] theorem nthO_zero {d : Option Tmp} {op : Op} {t : TypeId} {p : String} {a : Array Edge} {g : Option (Nat × Bool)} {l : List Oper} : nthO (⟨d, op, t, p, a, g⟩ :: l) 0 = d := rfl
@[go_sem] theorem nthO_succ {o : Oper} {l : List Oper} {n : Nat} : nthO (o :: l) (n + 1) = nthO l n := rfl
theorem gslot_eq : ∀ (l : List Oper) (n : Nat), gslot l n = nthO l n
  | [], n => by simp [gslot, nthO]
  | o :: l, 0 => by simp [gslot, nthO]
  | o :: l, n + 1 => by
    have := gslot_eq l n
    simp only [gslot, nthO, List.getElem?_cons_succ] at *
    exact this
section
variable {H : AH}
@[go_sem] theorem cellsA_int {k : IntKind} {n : Int} : cellsA H (.int k n) = some [.int k n] := rfl
@[go_sem] theorem cellsA_bool {b : Bool} : cellsA H (.bool b) = some [.bool b] := rfl
@[go_sem] theorem cellsA_str {b : ByteArray} : cellsA H (.str b) = some [.str b] := rfl
@[go_sem] theorem cellsA_sl {n : Nat} {t : Bool} {cs : List AV} : cellsA H (.sl n t cs) = some [.sl n t cs] := rfl
@[go_sem] theorem cellsA_ro {cs : List AV} : cellsA H (.ro cs) = some [.ro cs] := rfl
@[go_sem] theorem cellsA_agg {cs : List AV} : cellsA H (.agg cs) = some cs := rfl
@[go_sem] theorem cellsA_nilp : cellsA H .nilp = some [.nilp] := rfl
@[go_sem] theorem cellsA_fn {f : FuncId} {cs : List AV} : cellsA H (.fn f cs) = some [.fn f cs] := rfl
@[go_sem] theorem lenT_str {P : Program} {t : TypeId} {s : ByteArray} : lenT P H t (.str s) = if tyStr P t then some (True, .int .i64 s.size) else none := rfl
@[go_sem] theorem lenT_sl {P : Program} {t : TypeId} {n : Nat} {g : Bool} {cs : List AV} : lenT P H t (.sl n g cs) = if (tySl P t).isSome then some (True, .int .i64 n) else none := rfl
def lenP (b : ABlk) (ver n : Nat) : Option (Prop × AV) := match b with | .live v _ => some (v = ver, .int .i64 n) | .dead => none
@[go_sem] theorem lenP_live {v ver n : Nat} {cs : List AV} : lenP (.live v cs) ver n = some (v = ver, .int .i64 n) := rfl
@[go_sem] theorem lenT_msl {P : Program} {t : TypeId} {id ver sz off n : Nat} : lenT P H t (.msl id ver sz off n) = if (tySl P t).isSome then lenP (H id) ver n else none := rfl
def cellsP (b : ABlk) (ver : Nat) (x : AV) : Option (List AV) := match b with | .live v _ => if v = ver then some [x] else none | .dead => none
@[go_sem] theorem cellsP_live {v ver : Nat} {cs : List AV} {x : AV} : cellsP (.live v cs) ver x = if v = ver then some [x] else none := rfl
@[go_sem] theorem cellsA_ptr {id ver off : Nat} : cellsA H (.ptr id ver off) = cellsP (H id) ver (.ptr id ver off) := rfl
@[go_sem] theorem cellsA_msl {id ver sz off n : Nat} : cellsA H (.msl id ver sz off n) = cellsP (H id) ver (.msl id ver sz off n) := rfl
def storeB (b : ABlk) (H : AH) (nx id ver off n : Nat) (cs : List AV) : Option (Prop × AV × AH × Nat) := match b with
  | .live v cells => some (v = ver ∧ cs.length = n ∧ off + n ≤ cells.length, .tup [], upd H id (.live v (cells.take off ++ cs ++ cells.drop (off + n))), nx)
  | .dead => none
@[go_sem] theorem storeB_live {H : AH} {nx id v ver off n : Nat} {cs cells : List AV} : storeB (.live v cells) H nx id ver off n cs = some (v = ver ∧ cs.length = n ∧ off + n ≤ cells.length, .tup [], upd H id (.live v (cells.take off ++ cs ++ cells.drop (off + n))), nx) := rfl
@[go_sem] theorem storeE_ptr {nx : Nat} {g : Bool} {n id ver off : Nat} {cs : List AV} : storeE H nx (some (g, n)) (.ptr id ver off) (some cs) = storeB (H id) H nx id ver off n cs := by
  simp only [storeE, storeB]; cases H id <;> rfl
end
attribute [go_sem] gslot_eq binA isShift intBin shiftA strBin unA loadA builtA foldI fillA fillB sliceA sliceS optInt appA srcA copA rdSl slcE convE convH bslE mkslE cst1 eqL eq1
attribute [go_sem] List.map_cons List.map_nil List.cons_append List.nil_append List.length_cons List.length_nil List.drop_zero List.drop_succ_cons List.take_zero List.take_succ_cons List.getElem?_cons_zero List.getElem?_cons_succ
  Option.map_some Option.map_none Option.bind_some Option.getD_some Option.getD_none true_and and_true if_true if_false List.getD_cons_zero List.getD_cons_succ decide_true decide_false Nat.zero_add Nat.add_zero Nat.zero_mul Nat.one_mul Nat.mul_one Int.toNat_natCast
  Bool.false_eq_true Bool.true_and Bool.and_true Bool.false_and Bool.and_false Bool.not_true Bool.not_false Bool.true_or Bool.or_true Bool.false_or Bool.or_false eq_self and_self
  List.drop_nil List.take_nil List.replicate_succ List.replicate_zero List.flatten_cons List.flatten_nil List.append_nil
end Go.TH
