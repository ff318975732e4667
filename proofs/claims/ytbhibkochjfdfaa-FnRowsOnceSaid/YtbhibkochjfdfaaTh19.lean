/-
  TH, part 19: how the walk is reckoned: rules for simp.
-/
import Derived.Test.YtbhibkochjfdfaaTh18
import Derived.Attr
set_option linter.unusedVariables false
set_option linter.unusedSimpArgs false
namespace Go.TH
open Go
universe u

/-- What hangs on a term: simp leaves the term alone. -/
inductive Box {α : Sort u} (x : α) : Type where
  | mk : Box x
def IfB (b : Bool) (A B : Prop) (_ : Box A) (_ : Box B) : Prop := AIf b A B
def bindB {α : Type} (x : Option (Prop × α)) (k : α → Prop) (_ : Box k) : Prop := bindP x k
structure CallB (P : Program) (f : FuncId) (args : List AV) (H : AH) (nx : Nat) (K : AV → AH → Nat → Prop) (_ : Box K) : Prop where
  out : ACallD P f args H nx K
def LoopB (body : (AEx → ASt → Prop) → ASt → Prop) (Q : AEx → ASt → Prop) (s : ASt) (_ : Box body) (_ : Box Q) : Prop := ALoop body Q s
def DrawB (P : Program) (ops : List Oper) (K : ASt → Prop) (s : ASt) (_ : Box ops) (_ : Box K) : Prop := ADraw P ops K s
def CondB (a : AV) (A B : Prop) (_ : Box A) (_ : Box B) : Prop := ACond a A B
section
variable {P : Program} {Q : AEx → ASt → Prop} {s s' : ASt}
@[congr] theorem awp_congr {c : Code} (h : s = s') : awp P c Q s = awp P c Q s' := by rw [h]
@[congr] theorem aops_congr {ops l : List Oper} {K : ASt → Prop} (h : s = s') : aops P ops K l s = aops P ops K l s' := by rw [h]
@[congr] theorem dops_congr {ops l : List Oper} {effs frees : List Nat} {S : Nat → Bool} {K : ASt → Prop} {i : Nat} (h : s = s') : dops P ops effs frees S K i l s = dops P ops effs frees S K i l s' := by rw [h]
@[congr] theorem aop_congr {d : Option Tmp} {op : Op} {K : ASt → Prop} (h : s = s') : aop P d op s K = aop P d op s' K := by rw [h]
@[congr] theorem dop_congr {e : Bool} {S : Nat → Bool} {d : Option Tmp} {op : Op} {K : ASt → Prop} (h : s = s') : dop P e S d op s K = dop P e S d op s' K := by rw [h]
@[congr] theorem thenQ_congr {n : ASt → Prop} {e : AEx} (h : s = s') : thenQ n Q e s = thenQ n Q e s' := by rw [h]
@[congr] theorem blockQ_congr {id : Nat} {e : AEx} (h : s = s') : blockQ id Q e s = blockQ id Q e s' := by rw [h]

@[go_sem] theorem awp_skip : awp P .skip Q s = Q .normal s := rfl
@[go_sem] theorem awp_region {id : Nat} {ops : List Oper} : awp P (.region id ops.toArray false) Q s = aops P ops (Q .normal) ops s := by simp [awp]
@[go_sem] theorem awp_region_draw {id : Nat} {ops : List Oper} : awp P (.region id ops.toArray true) Q s = DrawB P ops (Q .normal) s .mk .mk := by simp [awp, DrawB]
@[go_sem] theorem awp_seq {a b : Code} : awp P (.seq a b) Q s = awp P a (thenQ (awp P b Q) Q) s := rfl
@[go_sem] theorem awp_cond {c : Operand} {a b : Code} : awp P (.cond c a b) Q s = CondB (evA s.tmps c) (awp P a Q s) (awp P b Q s) .mk .mk := rfl
@[go_sem] theorem awp_block {id : Nat} {b : Code} : awp P (.block id b) Q s = awp P b (blockQ id Q) s := rfl
@[go_sem] theorem awp_loop {b : Code} : awp P (.loop b) Q s = LoopB (awp P b) Q s .mk .mk := rfl
@[go_sem] theorem awp_exit {id : Nat} : awp P (.exit id) Q s = Q (.exit id) s := rfl
@[go_sem] theorem awp_ret : awp P .ret Q s = Q .ret s := rfl
@[go_sem] theorem thenQ_normal {n : ASt → Prop} : thenQ n Q .normal s = n s := rfl
@[go_sem] theorem thenQ_exit {n : ASt → Prop} {id : Nat} : thenQ n Q (.exit id) s = Q (.exit id) s := rfl
@[go_sem] theorem thenQ_ret {n : ASt → Prop} : thenQ n Q .ret s = Q .ret s := rfl
@[go_sem] theorem blockQ_normal {id : Nat} : blockQ id Q .normal s = Q .normal s := rfl
@[go_sem] theorem blockQ_same {id : Nat} : blockQ id Q (.exit id) s = Q .normal s := by simp [blockQ]
@[go_sem] theorem blockQ_other {id i : Nat} (h : (i == id) = false) : blockQ id Q (.exit i) s = Q (.exit i) s := by simp at h; simp [blockQ, h]
@[go_sem] theorem blockQ_ret {id : Nat} : blockQ id Q .ret s = Q .ret s := rfl
@[go_sem] theorem IfB_true {A B : Prop} {w : Box A} {w2 : Box B} : IfB true A B w w2 = A := by simp [IfB, AIf]
@[go_sem] theorem IfB_false {A B : Prop} {w : Box A} {w2 : Box B} : IfB false A B w w2 = B := by simp [IfB, AIf]
@[go_sem] theorem IfB_not {b : Bool} {A B : Prop} {w : Box A} {w2 : Box B} : IfB (!b) A B w w2 = IfB b B A .mk .mk := by cases b <;> simp [IfB, AIf]
@[go_sem] theorem CondB_bool {b : Bool} {A B : Prop} {w : Box A} {w2 : Box B} : CondB (.bool b) A B w w2 = IfB b A B .mk .mk := rfl
theorem IfB.split {b : Bool} {A B : Prop} {w : Box A} {w2 : Box B} (h1 : b = true → A) (h2 : b = false → B) : IfB b A B w w2 := by
  cases b
  · simpa [IfB, AIf] using h2 rfl
  · simpa [IfB, AIf] using h1 rfl
def AndB (p A : Prop) (_ : Box A) : Prop := p ∧ A
@[congr] theorem AndB_congr {p q A : Prop} {w : Box A} (h : p = q) : AndB p A w = AndB q A w := by rw [h]
@[congr] theorem IfB_congr {b c : Bool} {A B : Prop} {w : Box A} {w2 : Box B} (h : b = c) : IfB b A B w w2 = IfB c A B w w2 := by rw [h]
@[congr] theorem CondB_congr {b c : AV} {A B : Prop} {w : Box A} {w2 : Box B} (h : b = c) : CondB b A B w w2 = CondB c A B w w2 := by rw [h]
@[congr] theorem bindB_congr {α : Type} {x y : Option (Prop × α)} {k : α → Prop} {w : Box k} (h : x = y) : bindB x k w = bindB y k w := by rw [h]
@[congr] theorem CallB_congr {f : FuncId} {args args' : List AV} {H H' : AH} {nx nx' : Nat} {K : AV → AH → Nat → Prop} {w : Box K} (h1 : args = args') (h2 : H = H') (h3 : nx = nx') : CallB P f args H nx K w = CallB P f args' H' nx' K w := by rw [h1, h2, h3]
@[congr] theorem LoopB_congr {body : (AEx → ASt → Prop) → ASt → Prop} {w : Box body} {w2 : Box Q} (h : s = s') : LoopB body Q s w w2 = LoopB body Q s' w w2 := by rw [h]
@[congr] theorem DrawB_congr {ops : List Oper} {K : ASt → Prop} {w : Box ops} {w2 : Box K} (h : s = s') : DrawB P ops K s w w2 = DrawB P ops K s' w w2 := by rw [h]
@[go_sem] theorem AndB_true {A : Prop} {w : Box A} : AndB True A w = A := by simp [AndB]
theorem AndB.mk {p A : Prop} {w : Box A} (h : p) (h2 : A) : AndB p A w := ⟨h, h2⟩
@[go_sem] theorem bindB_some {α : Type} {p : Prop} {a : α} {k : α → Prop} {w : Box k} : bindB (some (p, a)) k w = AndB p (k a) .mk := rfl
theorem bindB_true {α : Type} {a : α} {k : α → Prop} {w : Box k} : bindB (some (True, a)) k w = k a := by simp [bindB, bindP]

section
variable {K : ASt → Prop} {ops r : List Oper} {d : Option Tmp} {op : Op} {t : TypeId} {p : String} {a : Array Edge}
@[go_sem] theorem aops_nil : aops P ops K [] s = K s := rfl
@[go_sem] theorem aops_cons : aops P ops K (⟨d, op, t, p, a, none⟩ :: r) s = aop P d op s (aops P ops K r) := rfl
/-- Which slot tells whether an operation is wanted. -/
def gslot (ops : List Oper) (j : Nat) : Option Tmp := (ops[j]?).bind (·.dst)
def guardT (tmps : List AV) (d : Option Tmp) (want : Bool) : Option Bool :=
  match d.bind (tmps[·]?) with
  | some (.bool b) => some (b == want)
  | some (.tup _) => some false
  | none => some false
  | _ => none
def AGuard (x : Option Bool) (A B : Prop) (_ : Box A) (_ : Box B) : Prop :=
  match x with
  | some b => AIf b A B
  | none => False
theorem guardA_eq (ops : List Oper) (tmps : List AV) (j : Nat) (want : Bool) : guardA ops tmps j want = guardT tmps (gslot ops j) want := rfl
@[congr] theorem AGuard_congr {b c : Option Bool} {A B : Prop} {w : Box A} {w2 : Box B} (h : b = c) : AGuard b A B w w2 = AGuard c A B w w2 := by rw [h]
@[go_sem] theorem AGuard_some {b : Bool} {A B : Prop} {w : Box A} {w2 : Box B} : AGuard (some b) A B w w2 = IfB b A B .mk .mk := rfl
@[go_sem] theorem aops_guard {j : Nat} {want : Bool} : aops P ops K (⟨d, op, t, p, a, some (j, want)⟩ :: r) s =
    AGuard (guardT s.tmps (gslot ops j) want) (aop P d op s (aops P ops K r)) (aops P ops K r ⟨putA s.tmps d (.tup []), s.H, s.nx⟩) .mk .mk := rfl
variable {effs frees : List Nat} {S : Nat → Bool} {i : Nat}
@[go_sem] theorem dops_nil : dops P ops effs frees S K i [] s = K s := rfl
@[go_sem] theorem dops_cons : dops P ops effs frees S K i (⟨d, op, t, p, a, none⟩ :: r) s = dop P (effs.contains i) (SF frees S i) d op s (dops P ops effs frees S K (i + 1) r) := rfl
@[go_sem] theorem dops_guard {j : Nat} {want : Bool} : dops P ops effs frees S K i (⟨d, op, t, p, a, some (j, want)⟩ :: r) s =
    AGuard (guardT s.tmps (gslot ops j) want) (dop P (effs.contains i) (SF frees S i) d op s (dops P ops effs frees S K (i + 1) r)) (dops P ops effs frees S K (i + 1) r ⟨putA s.tmps d (.tup []), s.H, s.nx⟩) .mk .mk := rfl

/-- The call of a function's value. -/
def ACallV (P : Program) (f : AV) (args : List AV) (s : ASt) (K : AV → AH → Nat → Prop) (_ : Box K) : Prop :=
  match f with
  | .fn g cap => CallB P g (args ++ cap) s.H s.nx K .mk
  | _ => False
@[congr] theorem ACallV_congr {f g : AV} {args args' : List AV} {s s' : ASt} {K : AV → AH → Nat → Prop} {w : Box K} (h1 : f = g) (h2 : args = args') (h3 : s = s') : ACallV P f args s K w = ACallV P g args' s' K w := by rw [h1, h2, h3]
@[go_sem] theorem ACallV_fn {g : FuncId} {cap args : List AV} {K : AV → AH → Nat → Prop} {w : Box K} : ACallV P (.fn g cap) args s K w = CallB P g (args ++ cap) s.H s.nx K .mk := rfl
def CK (s : ASt) (d : Option Tmp) (K : ASt → Prop) (r : AV) (H : AH) (n : Nat) : Prop := K ⟨putA s.tmps d r, H, n⟩
@[go_sem] theorem CK_eq {r : AV} {H : AH} {n : Nat} : CK s d K r H n = K ⟨putA s.tmps d r, H, n⟩ := rfl
@[go_sem] theorem aop_call {f : Operand} {args : List Operand} {tys : Array TypeId} : aop P d (.call ⟨.value f, args.toArray, tys⟩) s K =
    ACallV P (evA s.tmps f) (args.map (evA s.tmps)) s (CK s d K) .mk := by
  unfold aop ACallV CK
  simp only [callV]
  cases evA s.tmps f <;> first | rfl | exact propext ⟨fun h => ⟨by simpa using h⟩, fun h => by simpa using h.out⟩
theorem CallB.of {f : FuncId} {args : List AV} {H : AH} {nx : Nat} {r : AV} {H' : AH} {nx' : Nat} {K : AV → AH → Nat → Prop} {w : Box K} (h : CallC P f args H nx r H' nx') (k : K r H' nx') : CallB P f args H nx K w := ⟨⟨_, _, _, h, k⟩⟩
theorem CallB.q {f : FuncId} {args : List AV} {H : AH} {nx : Nat} {r : AV} {K : AV → AH → Nat → Prop} {w : Box K} (h : QCall P f args r) (k : K r H nx) : CallB P f args H nx K w := ⟨⟨_, _, _, h H nx, k⟩⟩
theorem CallB.borrow (d : Nat) {f : FuncId} {args : List AV} {H : AH} {nx : Nat} {r : AV} {K : AV → AH → Nat → Prop} {w : Box K} (h : QCall P f (args.map (snapA d H)) r) (hs : scalA r = true) (k : K r H nx) : CallB P f args H nx K w := ⟨⟨_, _, _, callC_borrow d h hs, k⟩⟩
/-- By a law. -/
theorem CallB.law {f : FuncId} {args : List AV} {H : AH} {nx : Nat} {Q K : AV → AH → Nat → Prop} {w : Box K} (h : ACallD P f args H nx Q) (k : ∀ r H' nx', Q r H' nx' → K r H' nx') : CallB P f args H nx K w := ⟨h.mono k⟩

/-! ### The operations, one by one -/
def QK (s : ASt) (d : Option Tmp) (K : ASt → Prop) (r : AV) : Prop := K ⟨putA s.tmps d r, s.H, s.nx⟩
@[go_sem] theorem QK_eq {r : AV} : QK s d K r = K ⟨putA s.tmps d r, s.H, s.nx⟩ := rfl
def HK (s : ASt) (d : Option Tmp) (K : ASt → Prop) (x : AV × AH × Nat) : Prop := K ⟨putA s.tmps d x.1, x.2.1, x.2.2⟩
@[go_sem] theorem HK_eq {r : AV} {H : AH} {n : Nat} : HK s d K (r, H, n) = K ⟨putA s.tmps d r, H, n⟩ := rfl
@[congr] theorem QK_congr {r r' : AV} (h : r = r') : QK s d K r = QK s d K r' := by rw [h]
@[congr] theorem HK_congr {x y : AV × AH × Nat} (h : x = y) : HK s d K x = HK s d K y := by rw [h]

theorem aop_q {op : Op} (hc : callV op = none) (hh : hstep P (evA s.tmps) s.H s.nx op = none) : aop P d op s K = bindP (qstep P (evA s.tmps) s.H op) (QK s d K) := by
  unfold aop astep
  rw [hc]
  simp only
  cases qstep P (evA s.tmps) s.H op with
  | none => simp only [hh]; rfl
  | some x => obtain ⟨p, r⟩ := x; rfl
theorem aop_h {op : Op} (hc : callV op = none) (hq : qstep P (evA s.tmps) s.H op = none) : aop P d op s K = bindP (hstep P (evA s.tmps) s.H s.nx op) (HK s d K) := by
  unfold aop astep
  rw [hc]
  simp only [hq]
  rfl
theorem dop_q {op : Op} (hc : callV op = none) : dop P false S d op s K = bindP (dstep P (evA s.tmps) (maskH S s.H) op) (QK s d K) := by
  unfold dop
  simp only [Bool.false_eq_true, if_false, hc]
  rfl
/-- A quiet operation, in a region that draws or not. -/
def qfs (P : Program) (f : Option (Prop × AV)) (op : Op) (E : Operand → AV) (H : AH) : Prop := True

@[go_sem] theorem aop_move {x : Operand} : aop P d (.move x) s K = K ⟨putA s.tmps d (evA s.tmps x), s.H, s.nx⟩ := by rw [aop_q rfl rfl]; simp [qstep, bindP, QK]
@[go_sem] theorem aop_assign {x : Operand} : aop P d (.assign x) s K = K ⟨putA s.tmps d (evA s.tmps x), s.H, s.nx⟩ := by rw [aop_q rfl rfl]; simp [qstep, bindP, QK]

def pickE (c a b : AV) : Option (Prop × AV) := match c with | .bool q => some (True, if q then a else b) | _ => none
@[go_sem] theorem pickE_true {a b : AV} : pickE (.bool true) a b = some (True, a) := rfl
@[go_sem] theorem pickE_false {a b : AV} : pickE (.bool false) a b = some (True, b) := rfl
def buildE (H : AH) (z : Option (List AV)) (pl : Option (List (Nat × Nat))) (parts : List (Nat × AV)) : Option (Prop × AV) :=
  match z, pl with
  | some z, some pl => (fillA H pl z parts).map fun cs => (True, .agg cs)
  | _, _ => none
@[go_sem] theorem buildE_some {H : AH} {z : List AV} {pl : List (Nat × Nat)} {parts : List (Nat × AV)} : buildE H (some z) (some pl) parts = (fillA H pl z parts).map fun cs => (True, .agg cs) := rfl
def onLive (b : ABlk) (f : Nat → List AV → Option (Prop × AV)) : Option (Prop × AV) := match b with | .live v cells => f v cells | .dead => none
@[go_sem] theorem onLive_live {v : Nat} {cells : List AV} {f : Nat → List AV → Option (Prop × AV)} : onLive (.live v cells) f = f v cells := rfl
@[congr] theorem onLive_congr {b c : ABlk} {f : Nat → List AV → Option (Prop × AV)} (h : b = c) : onLive b f = onLive c f := by rw [h]
def loadE (s : Option (Bool × Nat)) (H : AH) (x : AV) : Option (Prop × AV) :=
  match s with
  | none => none
  | some s => match x with
    | .ro cells => some (loadA cells 0 s)
    | .ptr id ver off => onLive (H id) fun v cells => some (v = ver ∧ (loadA cells off s).1, (loadA cells off s).2)
    | _ => none
@[go_sem] theorem loadE_ro {s : Bool × Nat} {H : AH} {cells : List AV} : loadE (some s) H (.ro cells) = some (loadA cells 0 s) := rfl
@[go_sem] theorem loadE_ptr {s : Bool × Nat} {H : AH} {id ver off : Nat} : loadE (some s) H (.ptr id ver off) = onLive (H id) fun v cells => some (v = ver ∧ (loadA cells off s).1, (loadA cells off s).2) := rfl
def nilE (H : AH) (x : AV) : Option (Prop × AV) :=
  match x with
  | .ro cells => some (True, .ro cells)
  | .ptr id ver off => onLive (H id) fun v _ => some (v = ver, .ptr id ver off)
  | _ => none
@[go_sem] theorem nilE_ro {H : AH} {cells : List AV} : nilE H (.ro cells) = some (True, .ro cells) := rfl
@[go_sem] theorem nilE_ptr {H : AH} {id ver off : Nat} : nilE H (.ptr id ver off) = onLive (H id) fun v _ => some (v = ver, .ptr id ver off) := rfl
def fldE (f : Option (Nat × Nat × Bool)) (H : AH) (x : AV) : Option (Prop × AV) :=
  match f with
  | none => none
  | some f => match x with
    | .ro cells => some (True, .ro (cells.drop f.1))
    | .ptr id ver o => onLive (H id) fun v _ => some (v = ver, .ptr id ver (o + f.1))
    | _ => none
@[go_sem] theorem fldE_ro {f : Nat × Nat × Bool} {H : AH} {cells : List AV} : fldE (some f) H (.ro cells) = some (True, .ro (cells.drop f.1)) := rfl
@[go_sem] theorem fldE_ptr {f : Nat × Nat × Bool} {H : AH} {id ver o : Nat} : fldE (some f) H (.ptr id ver o) = onLive (H id) fun v _ => some (v = ver, .ptr id ver (o + f.1)) := rfl
def fieldE (f : Option (Nat × Nat × Bool)) (x : AV) : Option (Prop × AV) :=
  match f with
  | none => none
  | some f => match x with
    | .agg cells => some (loadA cells f.1 (f.2.2, f.2.1))
    | _ => none
@[go_sem] theorem fieldE_agg {f : Nat × Nat × Bool} {cells : List AV} : fieldE (some f) (.agg cells) = some (loadA cells f.1 (f.2.2, f.2.1)) := rfl
def idxE (e : Option (TypeId × Nat × Nat)) (H : AH) (x i : AV) : Option (Prop × AV) :=
  match e with
  | none => none
  | some e => match i with
    | .int _ k => (match x with
      | .sl n _ cells => some (0 ≤ k ∧ k < n ∧ k.toNat * e.2.1 < cells.length, .ro (cells.drop (k.toNat * e.2.1)))
      | .msl id ver sz' off n => onLive (H id) fun v _ => some (v = ver ∧ sz' = e.2.1 ∧ 0 ≤ k ∧ k < n, .ptr id ver (off + k.toNat * e.2.1))
      | _ => none)
    | _ => none
@[go_sem] theorem idxE_sl {e : TypeId × Nat × Nat} {H : AH} {n : Nat} {t : Bool} {cells : List AV} {q : IntKind} {k : Int} : idxE (some e) H (.sl n t cells) (.int q k) = some (0 ≤ k ∧ k < n ∧ k.toNat * e.2.1 < cells.length, .ro (cells.drop (k.toNat * e.2.1))) := rfl
@[go_sem] theorem idxE_msl {e : TypeId × Nat × Nat} {H : AH} {id ver sz' off n : Nat} {q : IntKind} {k : Int} : idxE (some e) H (.msl id ver sz' off n) (.int q k) = onLive (H id) fun v _ => some (v = ver ∧ sz' = e.2.1 ∧ 0 ≤ k ∧ k < n, .ptr id ver (off + k.toNat * e.2.1)) := rfl
def indexE (P : Program) (t : TypeId) (x i : AV) : Option (Prop × AV) :=
  match x, i with
  | .str s, .int _ k => if tyStr P t then some (0 ≤ k ∧ k < s.size, .int .u8 ((s.data.toList.getD k.toNat 0).toNat)) else none
  | _, _ => none
@[go_sem] theorem indexE_str {t : TypeId} {b : ByteArray} {q : IntKind} {k : Int} : indexE P t (.str b) (.int q k) = if tyStr P t then some (0 ≤ k ∧ k < b.size, .int .u8 ((b.data.toList.getD k.toNat 0).toNat)) else none := rfl
def extE (x : AV) (j : Nat) : Option (Prop × AV) := match x with | .tup as => some (j < as.length, as.getD j .junk) | _ => none
@[go_sem] theorem extE_tup {as : List AV} {j : Nat} : extE (.tup as) j = some (j < as.length, as.getD j .junk) := rfl
def convE (P : Program) (src dst : TypeId) (H : AH) (x : AV) : Option (Prop × AV) :=
  match x with
  | .int _ n => (match tyInt P dst with | some k => if (P.underlying src).isSome then some (True, .int k (k.wrap n)) else none | none => none)
  | .str s => if tyStr P dst ∧ (P.underlying src).isSome then some (True, .str s) else none
  | a => (match tySl P src with
      | some (e, _, _) => if tyInt P e = some .u8 ∧ tyStr P dst = true then (match rdSl H a with
          | some (n, cells) => some (n ≤ cells.length ∧ (cells.take n).all isU8 = true, .str (bytesA (cells.take n)))
          | none => none) else none
      | none => none)
def slcE (P : Program) (t : TypeId) (H : AH) (x : AV) (l h m : Option AV) : Option (Prop × AV) :=
  match optInt l, optInt h, optInt m with
  | some l, some h, some m => (match x with
      | .str s => if tyStr P t ∧ m = none then sliceS s l h else none
      | a => (match tySl P t with | some (_, sz, _) => sliceA H sz a l h m | none => none))
  | _, _, _ => none
def mkfE (f : FuncId) (first : List Operand) (cap : List AV) : Option (Prop × AV) := if first.length = 0 then some (True, .fn f cap) else none
@[go_sem] theorem mkfE_nil {f : FuncId} {cap : List AV} : mkfE f [] cap = some (True, .fn f cap) := rfl

section
variable {x y c b : Operand} {j : Nat}
theorem q_pickE {E : Operand → AV} {H : AH} {a : Operand} : qstep P E H (.pick c a b) = pickE (E c) (E a) (E b) := rfl
theorem q_buildE {E : Operand → AV} {H : AH} {parts : List (Nat × Operand)} : qstep P E H (.build t parts.toArray) = buildE H (tyZ P t) (tyFs P t) (parts.map fun x => (x.1, E x.2)) := by
  simp only [qstep, buildE]
  cases tyZ P t <;> cases tyFs P t <;> rfl
theorem q_loadE {E : Operand → AV} {H : AH} : qstep P E H (.load t x) = loadE (tyAS P t) H (E x) := by
  simp only [qstep, loadE]
  cases tyAS P t with
  | none => rfl
  | some s => cases E x <;> first | rfl | (simp only [onLive]; split <;> rfl)
theorem q_nilE {E : Operand → AV} {H : AH} : qstep P E H (.nilCheck x) = nilE H (E x) := by
  simp only [qstep, nilE]
  cases E x <;> first | rfl | (simp only [onLive]; split <;> rfl)
theorem q_binE {E : Operand → AV} {H : AH} {op : BinOp} {t2 : TypeId} : qstep P E H (.binOp op t x y t2) = binA P op t (E x) (E y) := rfl
theorem q_unE {E : Operand → AV} {H : AH} {op : UnOp} : qstep P E H (.unOp op t x) = unA op (E x) := rfl
theorem q_convE {E : Operand → AV} {H : AH} {src dst : TypeId} : qstep P E H (.convert src dst x) = convE P src dst H (E x) := by
  simp only [qstep, convE]
  cases E x <;> first | rfl | (split <;> rfl)
theorem q_mkfE {E : Operand → AV} {H : AH} {f : FuncId} {first cap : List Operand} : qstep P E H (.makeFunc (.func f) first.toArray cap.toArray) = mkfE f first (cap.map E) := by simp [qstep, mkfE]
theorem q_slcE {E : Operand → AV} {H : AH} {lo hi mx : Option Operand} : qstep P E H (.slice t x lo hi mx) = slcE P t H (E x) (lo.map E) (hi.map E) (mx.map E) := by
  simp only [qstep, slcE]
  cases optInt (lo.map E) <;> cases optInt (hi.map E) <;> cases optInt (mx.map E) <;> cases E x <;> first | rfl | (cases tySl P t <;> rfl)
theorem q_fldE {E : Operand → AV} {H : AH} : qstep P E H (.fieldAddr t x j) = fldE (tyFld P t j) H (E x) := by
  simp only [qstep, fldE]
  cases tyFld P t j with
  | none => rfl
  | some f => cases E x <;> first | rfl | (simp only [onLive]; split <;> rfl)
theorem q_fieldE {E : Operand → AV} {H : AH} : qstep P E H (.field t x j) = fieldE (tyFld P t j) (E x) := by
  simp only [qstep, fieldE]
  cases tyFld P t j with
  | none => rfl
  | some f => cases E x <;> rfl
theorem q_idxE {E : Operand → AV} {H : AH} : qstep P E H (.indexAddr t x y) = idxE (tySl P t) H (E x) (E y) := by
  simp only [qstep, idxE]
  cases tySl P t with
  | none => rfl
  | some f => cases E y <;> first | rfl | (cases E x <;> first | rfl | (simp only [onLive]; split <;> rfl))
theorem q_indexE {E : Operand → AV} {H : AH} : qstep P E H (.index t x y) = indexE P t (E x) (E y) := by
  simp only [qstep, indexE]
  cases E x <;> cases E y <;> rfl
theorem q_extE {E : Operand → AV} {H : AH} : qstep P E H (.extract x j) = extE (E x) j := rfl
theorem q_bltE {E : Operand → AV} {H : AH} {bi : Builtin} {args : List Operand} {tys : List TypeId} : qstep P E H (.call ⟨.builtin bi, args.toArray, tys.toArray⟩) = builtA P H bi tys (args.map E) := by simp [qstep]
end
end
end
end Go.TH
