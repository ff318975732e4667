/-
  TH, part 2: operations that leave the world alone: what they answer on abstract values.
-/
import Derived.Test.YtbhibkochjfdfaaTh1
set_option linter.unusedVariables false
namespace Go.TH
open Go

/-! ### Types, asked once -/
def tyAS (P : Program) (t : TypeId) : Option (Bool × Nat) :=
  match P.underlying t, P.info? t with
  | some d, some i => some (d.isRow, i.size)
  | _, _ => none
def tySl (P : Program) (t : TypeId) : Option (TypeId × Nat × Nat) :=
  match P.underlying t with
  | some (.slice e) => (P.info? e).map fun i => (e, i.size, i.bytes)
  | _ => none
def tyInt (P : Program) (t : TypeId) : Option IntKind :=
  match P.underlying t with
  | some (.int k) => some k
  | _ => none
def tyStr (P : Program) (t : TypeId) : Bool :=
  match P.underlying t with
  | some .string => true
  | _ => false
def tyBool (P : Program) (t : TypeId) : Bool :=
  match P.underlying t with
  | some .bool => true
  | _ => false
/-- A field: where it begins, how many cells, an aggregate? -/
def tyFld (P : Program) (t : TypeId) (j : Nat) : Option (Nat × Nat × Bool) :=
  match P.underlying t with
  | some (.struct fs) =>
    match fs[j]? with
    | some f =>
      match tyAS P f.type with
      | some (g, n) => if n = 0 then none else some (f.offset, n, g)
      | none => none
    | none => none
  | _ => none

def cst1 : Value → AV
  | .int k n => .int k n
  | .bool b => .bool b
  | .string s => .str s
  | .slice none 0 0 => .sl 0 true []
  | .pointer none => .nilp
  | _ => .junk
def cstA : Value → AV
  | .agg cs => if cs.all (·.oneCell') then .agg (cs.toList.map cst1) else .junk
  | v => cst1 v
theorem cst1_rep (κ : Cx) (v : Value) : Rep κ.W κ.M κ.F v (cst1 v) := by
  unfold cst1
  split
  · exact .int _ _
  · exact .bool _
  · exact .str _
  · exact .sl0 _ _ _ _ (Nat.le_refl _) (fun _ => rfl)
  · exact .nilp
  · exact .junk _
theorem cst_reps (κ : Cx) (vs : List Value) : Reps κ vs (vs.map cst1) := by
  refine ⟨by simp, fun j v a h1 h2 => ?_⟩
  rw [List.getElem?_map, h1] at h2
  cases h2
  exact cst1_rep κ v
theorem cstA_rep (κ : Cx) (v : Value) : Rep κ.W κ.M κ.F v (cstA v) := by
  unfold cstA
  split
  · rename_i cs
    split
    · rename_i hc
      have := Rep.agg (W := κ.W) (M := κ.M) (F := κ.F) cs.toList (cs.toList.map cst1) (by simp) (fun v hv => by
        have := (Array.all_eq_true_iff_forall_mem.1 hc) v (by simpa using hv)
        exact this) (cst_reps κ _).2
      simpa using this
    · exact .junk _
  · exact cst1_rep κ _

/-- The zero value's cells. -/
def tyZ (P : Program) (t : TypeId) : Option (List AV) :=
  match P.info? t with
  | some i =>
    match i.zero with
    | some z => if z.cells.all (·.oneCell') && z.cells.size == i.size then some (z.cells.toList.map cst1) else none
    | none => none
  | none => none

/-- The fields' places. -/
def tyFs (P : Program) (t : TypeId) : Option (List (Nat × Nat)) :=
  match P.underlying t with
  | some (.struct fields) => fields.toList.mapM (fun f => (P.info? f.type).map fun i => (f.offset, i.size))
  | _ => none

/-- A value's cells. -/
def cellsA (H : AH) : AV → Option (List AV)
  | .agg cs => some cs
  | .junk => none
  | .tup _ => none
  | .ptr id ver off => (match H id with | .live v _ => if v = ver then some [.ptr id ver off] else none | .dead => none)
  | .msl id ver sz off n => (match H id with | .live v _ => if v = ver then some [.msl id ver sz off n] else none | .dead => none)
  | a => some [a]

/-! ### Equality of structs -/
inductive LK where
  | int (k : IntKind)
  | bool
  | str
def leafFs (leaf : TypeId → Option (List LK)) (size : TypeId → Nat) : List Field → Nat → Option (List LK)
  | [], _ => some []
  | f :: fs, off =>
    if f.name = "_" then none else
    if f.offset ≠ off ∨ size f.type = 0 then none else
    match leaf f.type, leafFs leaf size fs (off + size f.type) with
    | some a, some b => if a.length = size f.type then some (a ++ b) else none
    | _, _ => none
def leafK (P : Program) : Nat → TypeId → Option (List LK)
  | 0, _ => none
  | d + 1, t =>
    match P.underlying t with
    | some .bool => some [.bool]
    | some (.int k) => some [.int k]
    | some .string => some [.str]
    | some (.struct fs) => if P.stoodInHeld t then none else leafFs (leafK P d) (P.cellsOf ·) fs.toList 0
    | _ => none
/-- The kinds of a struct's cells, where '==' asks just these. -/
def tyEq (P : Program) (t : TypeId) : Option (List LK) :=
  match P.underlying t with
  | some (.struct _) => if P.eqGuardType P.depth t then none else leafK P 20 t
  | _ => none
def eq1 : LK → AV → AV → Option Bool
  | .int k, .int k1 a, .int k2 b => if k1 = k ∧ k2 = k then some (a == b) else none
  | .bool, .bool a, .bool b => some (a == b)
  | .str, .str a, .str b => some (decide (a = b))
  | _, _, _ => none
def eqL : List LK → List AV → List AV → Option Bool
  | [], [], [] => some true
  | k :: ls, x :: xs, y :: ys => (match eq1 k x y, eqL ls xs ys with | some a, some b => some (a && b) | _, _ => none)
  | _, _, _ => none

/-! ### Whole numbers, texts -/
def intBin (op : BinOp) (k : IntKind) (a b : Int) : Option (Prop × AV) :=
  match op with
  | .add => some (True, .int k (k.wrap (a + b)))
  | .sub => some (True, .int k (k.wrap (a - b)))
  | .mul => some (True, .int k (k.wrap (a * b)))
  | .quo => some (b ≠ 0, .int k (k.wrap (a.tdiv b)))
  | .rem => some (b ≠ 0, .int k (a.tmod b))
  | .and => some (True, .int k (k.wrap ((BitVec.ofInt k.bits a &&& BitVec.ofInt k.bits b).toNat)))
  | .or => some (True, .int k (k.wrap ((BitVec.ofInt k.bits a ||| BitVec.ofInt k.bits b).toNat)))
  | .xor => some (True, .int k (k.wrap ((BitVec.ofInt k.bits a ^^^ BitVec.ofInt k.bits b).toNat)))
  | .eql => some (True, .bool (a == b))
  | .neq => some (True, .bool (a != b))
  | .lss => some (True, .bool (decide (a < b)))
  | .leq => some (True, .bool (decide (a ≤ b)))
  | .gtr => some (True, .bool (decide (b < a)))
  | .geq => some (True, .bool (decide (b ≤ a)))
  | _ => none
def shiftA (op : BinOp) (k : IntKind) (a b : Int) : Option (Prop × AV) :=
  match op with
  | .shl => some (0 ≤ b, .int k (k.wrap (a * 2 ^ (min b.toNat k.bits))))
  | .shr => some (0 ≤ b, .int k (a.fdiv (2 ^ (min b.toNat k.bits))))
  | _ => none
def strBin (op : BinOp) (a b : ByteArray) : Option (Prop × AV) :=
  match op with
  | .add => some ((a.size : Int) + b.size ≤ 9223372036854775807, .str (a ++ b))
  | .eql => some (True, .bool (decide (a = b)))
  | .neq => some (True, .bool (!decide (a = b)))
  | .lss => some (True, .bool (Op.bytesLess a.data.toList b.data.toList))
  | .leq => some (True, .bool (Op.bytesLess a.data.toList b.data.toList || decide (a = b)))
  | .gtr => some (True, .bool (!(Op.bytesLess a.data.toList b.data.toList || decide (a = b))))
  | .geq => some (True, .bool (!Op.bytesLess a.data.toList b.data.toList))
  | _ => none
def isShift : BinOp → Bool
  | .shl | .shr => true
  | _ => false
def binA (P : Program) (op : BinOp) (t : TypeId) : AV → AV → Option (Prop × AV)
  | .int k a, .int k' b => if isShift op then shiftA op k a b else if k = k' then intBin op k a b else none
  | .str a, .str b => strBin op a b
  | .bool a, .bool b => if tyBool P t then (match op with | .eql => some (True, .bool (a == b)) | .neq => some (True, .bool (!(a == b))) | _ => none) else none
  | .agg xs, .agg ys =>
    match tyEq P t with
    | some ls => match eqL ls xs ys with
      | some r => (match op with | .eql => some (True, .bool r) | .neq => some (True, .bool (!r)) | _ => none)
      | none => none
    | none => none
  | _, _ => none
def unA (op : UnOp) : AV → Option (Prop × AV)
  | .int k n => (match op with | .neg => some (True, .int k (k.wrap (0 - n))) | _ => none)
  | .bool b => (match op with | .not => some (True, .bool (!b)) | _ => none)
  | _ => none

/-! ### Bytes -/
def isU8 : AV → Bool
  | .int .u8 _ => true
  | _ => false
def u8of : AV → UInt8
  | .int _ n => UInt8.ofNat n.toNat
  | _ => 0
def bytesA (cells : List AV) : ByteArray := ⟨(cells.map u8of).toArray⟩

/-- A slice that is read: how many elements, and its cells. -/
def rdSl (H : AH) : AV → Option (Nat × List AV)
  | .sl n _ cells => some (n, cells)
  | .msl id ver sz off n => match H id with
    | .live v cells => if v = ver then some (n, (cells.drop off).take (n * sz)) else none
    | .dead => none
  | _ => none

def optInt : Option AV → Option (Option Int)
  | none => some none
  | some (.int _ n) => some (some n)
  | _ => none

def sliceA (H : AH) (sz : Nat) (x : AV) (lo hi mx : Option Int) : Option (Prop × AV) :=
  match x with
  | .sl n t cells =>
    match mx with
    | none => some (0 ≤ lo.getD 0 ∧ lo.getD 0 ≤ hi.getD n ∧ hi.getD n ≤ n,
        .sl (hi.getD n - lo.getD 0).toNat (t && decide (hi.getD n = n)) ((cells.drop ((lo.getD 0).toNat * sz)).take ((hi.getD n - lo.getD 0).toNat * sz)))
    | some m =>
      match hi with
      | none => none
      | some h => some (0 ≤ lo.getD 0 ∧ lo.getD 0 ≤ h ∧ h ≤ m ∧ m ≤ n,
        .sl (h - lo.getD 0).toNat (decide (m = h)) ((cells.drop ((lo.getD 0).toNat * sz)).take ((h - lo.getD 0).toNat * sz)))
  | .msl id ver sz' off n =>
    match H id with
    | .dead => none
    | .live v _ =>
      match mx with
      | none => some (v = ver ∧ sz' = sz ∧ 0 ≤ lo.getD 0 ∧ lo.getD 0 ≤ hi.getD n ∧ hi.getD n ≤ n,
        .msl id ver sz' (off + (lo.getD 0).toNat * sz) (hi.getD n - lo.getD 0).toNat)
      | some m =>
        match hi with
        | none => none
        | some h => some (v = ver ∧ sz' = sz ∧ 0 ≤ lo.getD 0 ∧ lo.getD 0 ≤ h ∧ h ≤ m ∧ m ≤ n,
          .msl id ver sz' (off + (lo.getD 0).toNat * sz) (h - lo.getD 0).toNat)
  | _ => none
def sliceS (s : ByteArray) (lo hi : Option Int) : Option (Prop × AV) :=
  some (0 ≤ lo.getD 0 ∧ lo.getD 0 ≤ hi.getD s.size ∧ hi.getD s.size ≤ s.size, .str (s.extract (lo.getD 0).toNat (hi.getD s.size).toNat))

/-- Parts put into a struct. -/
def fillA (H : AH) (places : List (Nat × Nat)) (cells : List AV) : List (Nat × AV) → Option (List AV)
  | [] => some cells
  | (i, a) :: rest =>
    match places[i]?, cellsA H a with
    | some (off, size), some cs => if cs.length = size ∧ off + size ≤ cells.length then fillA H places (cells.take off ++ cs ++ cells.drop (off + size)) rest else none
    | _, _ => none

def loadA (cells : List AV) (off : Nat) : Bool × Nat → Prop × AV
  | (true, n) => (off + n ≤ cells.length, .agg ((cells.drop off).take n))
  | (false, _) => (off < cells.length, cells.getD off .junk)

def lenT (P : Program) (H : AH) (t : TypeId) : AV → Option (Prop × AV)
  | .str s => if tyStr P t then some (True, .int .i64 s.size) else none
  | .sl n _ _ => if (tySl P t).isSome then some (True, .int .i64 n) else none
  | .msl id ver _ _ n => if (tySl P t).isSome then (match H id with
    | .live v _ => some (v = ver, .int .i64 n)
    | .dead => none) else none
  | _ => none
def foldI (f : Int → Int → Int) (k : IntKind) : Int → List AV → Option Int
  | x, [] => some x
  | x, .int k' y :: r => if k' = k then foldI f k (f x y) r else none
  | _, _ => none
def builtA (P : Program) (H : AH) (b : Builtin) (argTypes : List TypeId) (args : List AV) : Option (Prop × AV) :=
  match b, argTypes, args with
  | .len, [t], [x] => lenT P H t x
  | .max, _, .int k x :: r => (foldI (fun a b => if b > a then b else a) k x r).map fun n => (True, .int k n)
  | .min, _, .int k x :: r => (foldI (fun a b => if b < a then b else a) k x r).map fun n => (True, .int k n)
  | _, _, _ => none

/-- OPERATIONS THAT LEAVE THE WORLD ALONE. -/
def qstep (P : Program) (E : Operand → AV) (H : AH) : Op → Option (Prop × AV)
  | .move x => some (True, E x)
  | .assign x => some (True, E x)
  | .pick c a b => (match E c with | .bool q => some (True, if q then E a else E b) | _ => none)
  | .build t parts => (match tyZ P t, tyFs P t with
      | some z, some places => (fillA H places z (parts.toList.map fun x => (x.1, E x.2))).map fun cs => (True, .agg cs)
      | _, _ => none)
  | .load t x => (match tyAS P t with
      | some s => (match E x with
          | .ro cells => some (loadA cells 0 s)
          | .ptr id ver off => (match H id with
              | .live v cells => some (v = ver ∧ (loadA cells off s).1, (loadA cells off s).2)
              | .dead => none)
          | _ => none)
      | none => none)
  | .nilCheck x => (match E x with
      | .ro cells => some (True, .ro cells)
      | .ptr id ver off => (match H id with
          | .live v _ => some (v = ver, .ptr id ver off)
          | .dead => none)
      | _ => none)
  | .binOp op t x y _ => binA P op t (E x) (E y)
  | .unOp op _ x => unA op (E x)
  | .convert src dst x => (match E x with
      | .int _ n => (match tyInt P dst with | some k => if (P.underlying src).isSome then some (True, .int k (k.wrap n)) else none | none => none)
      | .str s => if tyStr P dst ∧ (P.underlying src).isSome then some (True, .str s) else none
      | a => (match tySl P src with
          | some (e, _, _) => if tyInt P e = some .u8 ∧ tyStr P dst = true then (match rdSl H a with
              | some (n, cells) => some (n ≤ cells.length ∧ (cells.take n).all isU8 = true, .str (bytesA (cells.take n)))
              | none => none) else none
          | none => none))
  | .makeFunc (.func f) first captured => if first.size = 0 then some (True, .fn f (captured.toList.map E)) else none
  | .slice t x lo hi mx => (match optInt (lo.map E), optInt (hi.map E), optInt (mx.map E) with
      | some l, some h, some m => (match E x with
          | .str s => if tyStr P t ∧ m = none then sliceS s l h else none
          | a => (match tySl P t with | some (_, sz, _) => sliceA H sz a l h m | none => none))
      | _, _, _ => none)
  | .fieldAddr t x j => (match tyFld P t j with
      | some (off, _, _) => (match E x with
          | .ro cells => some (True, .ro (cells.drop off))
          | .ptr id ver o => (match H id with
              | .live v _ => some (v = ver, .ptr id ver (o + off))
              | .dead => none)
          | _ => none)
      | none => none)
  | .field t x j => (match tyFld P t j with
      | some (off, n, g) => (match E x with | .agg cells => some (loadA cells off (g, n)) | _ => none)
      | none => none)
  | .indexAddr t x i => (match tySl P t, E i with
      | some (_, sz, _), .int _ k => (match E x with
          | .sl n _ cells => some (0 ≤ k ∧ k < n ∧ k.toNat * sz < cells.length, .ro (cells.drop (k.toNat * sz)))
          | .msl id ver sz' off n => (match H id with
              | .live v cells => some (v = ver ∧ sz' = sz ∧ 0 ≤ k ∧ k < n, .ptr id ver (off + k.toNat * sz))
              | .dead => none)
          | _ => none)
      | _, _ => none)
  | .index t x i => (match E x, E i with
      | .str s, .int _ k => if tyStr P t then some (0 ≤ k ∧ k < s.size, .int .u8 ((s.data.toList.getD k.toNat 0).toNat)) else none
      | _, _ => none)
  | .extract x j => (match E x with | .tup as => some (j < as.length, as.getD j .junk) | _ => none)
  | .call c => (match c.callee with
      | .builtin b => builtA P H b c.argTypes.toList (c.args.toList.map E)
      | _ => none)
  | _ => none
end Go.TH
