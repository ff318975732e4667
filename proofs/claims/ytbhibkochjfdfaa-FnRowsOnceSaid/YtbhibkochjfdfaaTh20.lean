/-
  TH, part 20: the rules, operation by operation.
-/
import Derived.Test.YtbhibkochjfdfaaTh19
set_option linter.unusedVariables false
set_option linter.unusedSimpArgs false
namespace Go.TH
open Go
section
variable {P : Program} {s : ASt} {K : ASt → Prop} {d : Option Tmp} {t : TypeId} {x y c b : Operand} {j : Nat} {S : Nat → Bool}

@[go_sem] theorem aop_pick {a : Operand} : aop P d (.pick c a b) s K = bindB (pickE (evA s.tmps c) (evA s.tmps a) (evA s.tmps b)) (QK s d K) .mk := by rw [aop_q rfl rfl, q_pickE]; rfl
@[go_sem] theorem aop_build {parts : List (Nat × Operand)} : aop P d (.build t parts.toArray) s K = bindB (buildE s.H (tyZ P t) (tyFs P t) (parts.map fun x => (x.1, evA s.tmps x.2))) (QK s d K) .mk := by rw [aop_q rfl rfl, q_buildE]; rfl
@[go_sem] theorem aop_load : aop P d (.load t x) s K = bindB (loadE (tyAS P t) s.H (evA s.tmps x)) (QK s d K) .mk := by rw [aop_q rfl rfl, q_loadE]; rfl
@[go_sem] theorem aop_nil : aop P d (.nilCheck x) s K = bindB (nilE s.H (evA s.tmps x)) (QK s d K) .mk := by rw [aop_q rfl rfl, q_nilE]; rfl
@[go_sem] theorem aop_bin {op : BinOp} {t2 : TypeId} : aop P d (.binOp op t x y t2) s K = bindB (binA P op t (evA s.tmps x) (evA s.tmps y)) (QK s d K) .mk := by rw [aop_q rfl rfl, q_binE]; rfl
@[go_sem] theorem aop_un {op : UnOp} : aop P d (.unOp op t x) s K = bindB (unA op (evA s.tmps x)) (QK s d K) .mk := by rw [aop_q rfl rfl, q_unE]; rfl
@[go_sem] theorem aop_mkf {f : FuncId} {first cap : List Operand} : aop P d (.makeFunc (.func f) first.toArray cap.toArray) s K = bindB (mkfE f first (cap.map (evA s.tmps))) (QK s d K) .mk := by rw [aop_q rfl rfl, q_mkfE]; rfl
@[go_sem] theorem aop_slc {lo hi mx : Option Operand} : aop P d (.slice t x lo hi mx) s K = bindB (slcE P t s.H (evA s.tmps x) (lo.map (evA s.tmps)) (hi.map (evA s.tmps)) (mx.map (evA s.tmps))) (QK s d K) .mk := by rw [aop_q rfl rfl, q_slcE]; rfl
@[go_sem] theorem aop_fld : aop P d (.fieldAddr t x j) s K = bindB (fldE (tyFld P t j) s.H (evA s.tmps x)) (QK s d K) .mk := by rw [aop_q rfl rfl, q_fldE]; rfl
@[go_sem] theorem aop_field : aop P d (.field t x j) s K = bindB (fieldE (tyFld P t j) (evA s.tmps x)) (QK s d K) .mk := by rw [aop_q rfl rfl, q_fieldE]; rfl
@[go_sem] theorem aop_idx : aop P d (.indexAddr t x y) s K = bindB (idxE (tySl P t) s.H (evA s.tmps x) (evA s.tmps y)) (QK s d K) .mk := by rw [aop_q rfl rfl, q_idxE]; rfl
@[go_sem] theorem aop_index : aop P d (.index t x y) s K = bindB (indexE P t (evA s.tmps x) (evA s.tmps y)) (QK s d K) .mk := by rw [aop_q rfl rfl, q_indexE]; rfl
@[go_sem] theorem aop_ext : aop P d (.extract x j) s K = bindB (extE (evA s.tmps x) j) (QK s d K) .mk := by rw [aop_q rfl rfl, q_extE]; rfl
theorem blt_h {E : Operand → AV} {H : AH} {nx : Nat} {bi : Builtin} {args : List Operand} {tys : List TypeId} (hb : bi = .len ∨ bi = .max ∨ bi = .min) : hstep P E H nx (.call ⟨.builtin bi, args.toArray, tys.toArray⟩) = none := by
  rcases hb with rfl | rfl | rfl <;> rfl
@[go_sem] theorem aop_len {args : List Operand} {tys : List TypeId} : aop P d (.call ⟨.builtin .len, args.toArray, tys.toArray⟩) s K = bindB (builtA P s.H .len tys (args.map (evA s.tmps))) (QK s d K) .mk := by rw [aop_q rfl (blt_h (.inl rfl)), q_bltE]; rfl
@[go_sem] theorem aop_max {args : List Operand} {tys : List TypeId} : aop P d (.call ⟨.builtin .max, args.toArray, tys.toArray⟩) s K = bindB (builtA P s.H .max tys (args.map (evA s.tmps))) (QK s d K) .mk := by rw [aop_q rfl (blt_h (.inr (.inl rfl))), q_bltE]; rfl
@[go_sem] theorem aop_min {args : List Operand} {tys : List TypeId} : aop P d (.call ⟨.builtin .min, args.toArray, tys.toArray⟩) s K = bindB (builtA P s.H .min tys (args.map (evA s.tmps))) (QK s d K) .mk := by rw [aop_q rfl (blt_h (.inr (.inr rfl))), q_bltE]; rfl
def convH (P : Program) (src dst : TypeId) (H : AH) (nx : Nat) (x : AV) : Option (Prop × AV × AH × Nat) :=
  match convE P src dst H x with
  | some (p, r) => some (p, r, H, nx)
  | none => (match x, tySl P dst with
      | .str s, some (e, _, _) => if tyInt P e = some .u8 ∧ (P.underlying src).isSome then some (s.size ≤ 140737488355328, .sl s.size false (bytesCells s), H, nx) else none
      | _, _ => none)
@[go_sem] theorem aop_conv {src dst : TypeId} : aop P d (.convert src dst x) s K = bindB (convH P src dst s.H s.nx (evA s.tmps x)) (HK s d K) .mk := by
  unfold aop astep
  simp only [callV, q_convE, convH, hstep]
  cases convE P src dst s.H (evA s.tmps x) with
  | none => simp only; cases evA s.tmps x <;> first | rfl | (cases tySl P dst <;> rfl)
  | some q => obtain ⟨p, r⟩ := q; rfl

def allocE (H : AH) (nx : Nat) (z : Option (List AV)) : Option (Prop × AV × AH × Nat) := z.map fun cs => (True, .ptr nx 0 0, upd H nx (.live 0 cs), nx + 1)
@[go_sem] theorem allocE_some {H : AH} {nx : Nat} {z : List AV} : allocE H nx (some z) = some (True, .ptr nx 0 0, upd H nx (.live 0 z), nx + 1) := rfl
@[go_sem] theorem aop_alloc : aop P d (.alloc t) s K = bindB (allocE s.H s.nx (tyZ P t)) (HK s d K) .mk := by
  rw [aop_h rfl rfl]
  simp only [hstep, allocE]
  cases tyZ P t <;> rfl
@[go_sem] theorem aop_box : aop P d (.box t x) s K = bindB (allocE s.H s.nx (cellsA s.H (evA s.tmps x))) (HK s d K) .mk := by
  rw [aop_h rfl rfl]
  simp only [hstep, allocE]
  cases cellsA s.H (evA s.tmps x) <;> rfl
def bslE (P : Program) (H : AH) (nx : Nat) (e : Option (TypeId × Nat × Nat)) (len : Nat) (parts : List (Nat × AV)) : Option (Prop × AV × AH × Nat) :=
  match e with
  | none => none
  | some e => match tyZ P e.1 with
    | none => none
    | some z => if z.length = e.2.1 ∧ len * e.2.1 ≤ 16777216 then (fillB H e.2.1 (List.replicate len z).flatten parts).map fun cs => (True, .msl nx 0 e.2.1 0 len, upd H nx (.live 0 cs), nx + 1) else none
@[go_sem] theorem aop_bsl {len : Nat} {parts : List (Nat × Operand)} : aop P d (.buildSlice t len parts.toArray) s K = bindB (bslE P s.H s.nx (tySl P t) len (parts.map fun x => (x.1, evA s.tmps x.2))) (HK s d K) .mk := by
  rw [aop_h rfl rfl]
  simp only [hstep, bslE]
  cases tySl P t with
  | none => rfl
  | some e =>
    obtain ⟨e, sz, by'⟩ := e
    simp only
    cases tyZ P e <;> rfl
def storeE (H : AH) (nx : Nat) (ty : Option (Bool × Nat)) (x : AV) (cs : Option (List AV)) : Option (Prop × AV × AH × Nat) :=
  match ty, x, cs with
  | some (_, n), .ptr id ver off, some cs => (match H id with
      | .live v cells => some (v = ver ∧ cs.length = n ∧ off + n ≤ cells.length, .tup [], upd H id (.live v (cells.take off ++ cs ++ cells.drop (off + n))), nx)
      | .dead => none)
  | _, _, _ => none
@[go_sem] theorem aop_store : aop P d (.store t x y) s K = bindB (storeE s.H s.nx (tyAS P t) (evA s.tmps x) (cellsA s.H (evA s.tmps y))) (HK s d K) .mk := by
  rw [aop_h rfl rfl]
  simp only [hstep, storeE]
  cases tyAS P t with
  | none => rfl
  | some q =>
    obtain ⟨g, n⟩ := q
    cases evA s.tmps x with
    | ptr id ver off =>
      cases hl : s.H id with
      | dead => cases cellsA s.H (evA s.tmps y) <;> simp only [hl] <;> rfl
      | live v cells => cases cellsA s.H (evA s.tmps y) <;> simp only [hl] <;> rfl
    | _ => rfl
def mkslE (P : Program) (H : AH) (nx : Nat) (e : Option (TypeId × Nat × Nat)) (l c : AV) : Option (Prop × AV × AH × Nat) :=
  match e, l, c with
  | some e, .int _ l, .int _ c => (match tyZ P e.1 with
      | some z => if z.length = e.2.1 then some (0 ≤ l ∧ l ≤ c ∧ c.toNat * e.2.2 ≤ 140737488355328 ∧ c ≤ 140737488355328, .msl nx 0 e.2.1 0 l.toNat, upd H nx (.live 0 (List.replicate l.toNat z).flatten), nx + 1) else none
      | none => none)
  | _, _, _ => none
@[go_sem] theorem aop_mksl : aop P d (.makeSlice t x y) s K = bindB (mkslE P s.H s.nx (tySl P t) (evA s.tmps x) (evA s.tmps y)) (HK s d K) .mk := by
  rw [aop_h rfl rfl]
  simp only [hstep, mkslE]
  cases tySl P t with
  | none => rfl
  | some e =>
    obtain ⟨e, sz, by'⟩ := e
    cases evA s.tmps x <;> cases evA s.tmps y <;> first | rfl | (simp only; cases tyZ P e <;> rfl)
def appE (P : Program) (H : AH) (nx : Nat) (tys : List TypeId) (args : List AV) : Option (Prop × AV × AH × Nat) := match tys, args with | [t, tx], [s, x] => appA P H nx t tx s x | _, _ => none
def copE (P : Program) (H : AH) (nx : Nat) (tys : List TypeId) (args : List AV) : Option (Prop × AV × AH × Nat) := match tys, args with | [t, tx], [s, x] => copA P H nx t tx s x | _, _ => none
@[go_sem] theorem appE_two {H : AH} {nx : Nat} {tx : TypeId} {a x : AV} : appE P H nx [t, tx] [a, x] = appA P H nx t tx a x := rfl
@[go_sem] theorem copE_two {H : AH} {nx : Nat} {tx : TypeId} {a x : AV} : copE P H nx [t, tx] [a, x] = copA P H nx t tx a x := rfl
@[go_sem] theorem aop_append {args : List Operand} {tys : List TypeId} : aop P d (.call ⟨.builtin .append, args.toArray, tys.toArray⟩) s K = bindB (appE P s.H s.nx tys (args.map (evA s.tmps))) (HK s d K) .mk := by
  rw [aop_h rfl (by simp [qstep, builtA])]
  congr 1
  simp only [hstep, appE]
  match tys, args.map (evA s.tmps) with
  | [], _ => rfl
  | [_], _ => rfl
  | [_, _], [] => rfl
  | [_, _], [_] => rfl
  | [_, _], [_, _] => rfl
  | [_, _], _ :: _ :: _ :: _ => rfl
  | _ :: _ :: _ :: _, _ => rfl
@[go_sem] theorem aop_copy {args : List Operand} {tys : List TypeId} : aop P d (.call ⟨.builtin .copy, args.toArray, tys.toArray⟩) s K = bindB (copE P s.H s.nx tys (args.map (evA s.tmps))) (HK s d K) .mk := by
  rw [aop_h rfl (by simp [qstep, builtA])]
  congr 1
  simp only [hstep, copE]
  match tys, args.map (evA s.tmps) with
  | [], _ => rfl
  | [_], _ => rfl
  | [_, _], [] => rfl
  | [_, _], [_] => rfl
  | [_, _], [_, _] => rfl
  | [_, _], _ :: _ :: _ :: _ => rfl
  | _ :: _ :: _ :: _, _ => rfl

/-! ### Slots -/
def nthA : List AV → Nat → AV
  | [], _ => .junk
  | a :: _, 0 => a
  | _ :: l, n + 1 => nthA l n
theorem nthA_eq : ∀ (l : List AV) (n : Nat), l.getD n .junk = nthA l n
  | [], n => by simp [nthA]
  | a :: l, 0 => by simp [nthA]
  | a :: l, n + 1 => by simp [nthA, ← nthA_eq l n]
@[go_sem] theorem nthA_zero {a : AV} {l : List AV} : nthA (a :: l) 0 = a := rfl
@[go_sem] theorem nthA_succ {a : AV} {l : List AV} {n : Nat} : nthA (a :: l) (n + 1) = nthA l n := rfl
@[go_sem] theorem evA_tmp {T : List AV} {n : Nat} : evA T (.tmp n) = nthA T n := nthA_eq T n
@[go_sem] theorem evA_func {T : List AV} {f : FuncId} : evA T (.func f) = .fn f [] := rfl
@[go_sem] theorem evA_int {T : List AV} {k : IntKind} {n : Int} : evA T (.const (.int k n)) = .int k n := rfl
@[go_sem] theorem evA_bool {T : List AV} {b : Bool} : evA T (.const (.bool b)) = .bool b := rfl
@[go_sem] theorem evA_str {T : List AV} {b : ByteArray} : evA T (.const (.string b)) = .str b := rfl
@[go_sem] theorem evA_nil {T : List AV} : evA T (.const (.slice none 0 0)) = .sl 0 true [] := rfl
@[go_sem] theorem evA_nilp {T : List AV} : evA T (.const (.pointer none)) = .nilp := rfl
@[go_sem] theorem evA_agg {T : List AV} {cs : List Value} : evA T (.const (.agg cs.toArray)) = if cs.all (·.oneCell') then .agg (cs.map cst1) else .junk := by simp [evA, cstA]
def setN : List AV → Nat → AV → List AV
  | [], _, _ => []
  | _ :: l, 0, a => a :: l
  | b :: l, n + 1, a => b :: setN l n a
theorem setN_eq : ∀ (l : List AV) (n : Nat) (a : AV), l.set n a = setN l n a
  | [], n, a => by simp [setN]
  | b :: l, 0, a => by simp [setN]
  | b :: l, n + 1, a => by simp [setN, ← setN_eq l n a]
@[go_sem] theorem setN_zero {a b : AV} {l : List AV} : setN (b :: l) 0 a = a :: l := rfl
@[go_sem] theorem setN_succ {a b : AV} {l : List AV} {n : Nat} : setN (b :: l) (n + 1) a = b :: setN l n a := rfl
@[go_sem] theorem putA_some {T : List AV} {n : Nat} {a : AV} : putA T (some n) a = setN T n a := setN_eq T n a
@[go_sem] theorem putA_none {T : List AV} {a : AV} : putA T none a = T := rfl
end
end Go.TH
