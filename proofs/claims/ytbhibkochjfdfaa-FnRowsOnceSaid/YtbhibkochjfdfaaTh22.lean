/-
  TH, part 22: loops, drawn regions, forks.
-/
import Derived.Test.YtbhibkochjfdfaaTh21
set_option linter.unusedVariables false
set_option linter.unusedSimpArgs false
namespace Go.TH
open Go
section
variable {P : Program} {s : ASt} {K : ASt → Prop} {d : Option Tmp} {t : TypeId} {x y c b : Operand} {j : Nat} {S : Nat → Bool}

/-! ### Loops -/
def LQ {ι : Type} (st : ι → ASt) (μ : ι → Nat) (G : ι → Prop) (i : ι) (Q : AEx → ASt → Prop) : AEx → ASt → Prop
  | .normal, s2 => ∃ j, G j ∧ μ j < μ i ∧ Weak s2 (st j)
  | e, s2 => Q e s2
@[go_sem] theorem LQ_exit {ι : Type} {st : ι → ASt} {μ : ι → Nat} {G : ι → Prop} {i : ι} {Q : AEx → ASt → Prop} {k : Nat} {s2 : ASt} : LQ st μ G i Q (.exit k) s2 = Q (.exit k) s2 := rfl
@[go_sem] theorem LQ_ret {ι : Type} {st : ι → ASt} {μ : ι → Nat} {G : ι → Prop} {i : ι} {Q : AEx → ASt → Prop} {s2 : ASt} : LQ st μ G i Q .ret s2 = Q .ret s2 := rfl
@[congr] theorem LQ_congr {ι : Type} {st : ι → ASt} {μ : ι → Nat} {G : ι → Prop} {i : ι} {Q : AEx → ASt → Prop} {e : AEx} {s2 s3 : ASt} (h : s2 = s3) : LQ st μ G i Q e s2 = LQ st μ G i Q e s3 := by rw [h]
theorem LQ.next {ι : Type} {st : ι → ASt} {μ : ι → Nat} {G : ι → Prop} {i : ι} {Q : AEx → ASt → Prop} {s2 : ASt} (j : ι) (h1 : G j) (h2 : μ j < μ i) (h3 : Weak s2 (st j)) : LQ st μ G i Q .normal s2 := ⟨j, h1, h2, h3⟩
theorem LoopB.intro {body : (AEx → ASt → Prop) → ASt → Prop} {Q : AEx → ASt → Prop} {w : Box body} {w2 : Box Q} {ι : Type} (st : ι → ASt) (μ : ι → Nat) (G : ι → Prop) (i : ι) (h0 : Weak s (st i)) (hG : G i)
    (step : ∀ i, G i → body (LQ st μ G i Q) (st i)) : LoopB body Q s w w2 := by
  refine ⟨fun s n => ∃ i, G i ∧ n = μ i ∧ s = st i, μ i, ⟨_, h0, i, hG, rfl, rfl⟩, ?_⟩
  rintro s' n' ⟨i, hi, rfl, rfl⟩
  have := step i hi
  have e : (LQ st μ G i Q) = (fun e s2 => match e with | .normal => ∃ m, m < μ i ∧ ∃ s0, Weak s2 s0 ∧ ∃ i, G i ∧ m = μ i ∧ s0 = st i | e => Q e s2) := by
    funext e s2
    cases e with
    | normal =>
      refine propext ⟨?_, ?_⟩
      · rintro ⟨j, h1, h2, h3⟩; exact ⟨μ j, h2, _, h3, j, h1, rfl, rfl⟩
      · rintro ⟨m, h1, s0, h2, j, h3, rfl, rfl⟩; exact ⟨j, h3, h1, h2⟩
    | exit k => rfl
    | ret => rfl
  rw [e] at this
  exact this
theorem Weak.mk {T T0 : List AV} {H : AH} {nx : Nat} (h : wkL T T0) : Weak ⟨T, H, nx⟩ ⟨T0, H, nx⟩ := Weak0.toW ⟨h, fun _ => .inl rfl, Nat.le_refl _⟩
@[go_sem] theorem wkL_nil : wkL [] [] = True := rfl
@[go_sem] theorem wkL_junk {a : AV} {l l' : List AV} : wkL (a :: l) (.junk :: l') = wkL l l' := by simp [wkL]
theorem wkL_same {a : AV} {l l' : List AV} : wkL l l' → wkL (a :: l) (a :: l') := fun h => ⟨.inr rfl, h⟩
theorem wkL_cons {a b : AV} {l l' : List AV} (h : a = b) : wkL l l' → wkL (a :: l) (b :: l') := fun h' => ⟨.inr h, h'⟩
/-- A frame of which just some slots are known. -/
def mkT (n : Nat) (l : List (Nat × AV)) : List AV := go n 0 l
where go : Nat → Nat → List (Nat × AV) → List AV
  | 0, _, _ => []
  | n + 1, k, (i, a) :: l => if i = k then a :: go n (k + 1) l else .junk :: go n (k + 1) ((i, a) :: l)
  | n + 1, k, [] => .junk :: go n (k + 1) []
theorem mkT_eq {n : Nat} {l : List (Nat × AV)} : mkT n l = mkT.go n 0 l := rfl
theorem mkT_zero {k : Nat} {l : List (Nat × AV)} : mkT.go 0 k l = [] := by unfold mkT.go; rfl
theorem mkT_cons {n k i : Nat} {a : AV} {l : List (Nat × AV)} : mkT.go (n + 1) k ((i, a) :: l) = if i = k then a :: mkT.go n (k + 1) l else .junk :: mkT.go n (k + 1) ((i, a) :: l) := by rw [mkT.go]
theorem mkT_nil {n k : Nat} : mkT.go (n + 1) k [] = .junk :: mkT.go n (k + 1) [] := by rw [mkT.go]

/-! ### Regions that draw -/
theorem DrawB.intro {ops : List Oper} {w : Box ops} {w2 : Box K} (effs frees : List Nat) (S : Nat → Bool) (hok : drawOk ops effs frees = true) (h : dops P ops effs frees S K 0 ops s) : DrawB P ops K s w w2 := ⟨effs, frees, S, hok, h⟩
/-- Nothing but quiet steps. -/
def noS : Nat → Bool := fun _ => false
@[go_sem] theorem maskH_noS {H : AH} : maskH noS H = H := by funext i; simp [maskH, noS]
theorem DrawB.quiet {ops : List Oper} {w : Box ops} {w2 : Box K} (hok : drawOk ops [] [] = true) (h : dops P ops [] [] noS K 0 ops s) : DrawB P ops K s w w2 := ⟨[], [], noS, hok, h⟩
/-- Three places. -/
def inS (a b c : Nat) : Nat → Bool := fun i => decide (i = a ∨ i = b ∨ i = c)
@[go_sem] theorem maskI_upd {H : AH} {a b c i : Nat} {x : ABlk} (h : i = a ∨ i = b ∨ i = c) : maskH (inS a b c) (upd H i x) = maskH (inS a b c) H := by
  funext k
  simp only [maskH, upd, inS, decide_eq_true_eq]
  split
  · rfl
  · split
    · subst_vars; contradiction
    · rfl
@[go_sem] theorem maskI_get {H : AH} {a b c i : Nat} (h : i ≠ a ∧ i ≠ b ∧ i ≠ c) : maskH (inS a b c) H i = H i := by
  have : ¬ (i = a ∨ i = b ∨ i = c) := by omega
  simp [maskH, inS, this]
@[go_sem] theorem maskH_all {H : AH} : maskH (fun _ => true) H = noH := by funext i; simp [maskH, noH]
attribute [go_sem] SF
theorem maskH_upd {H : AH} {i : Nat} {b : ABlk} (h : S i = true) : maskH S (upd H i b) = maskH S H := by
  funext k
  simp only [maskH, upd]
  split
  · rfl
  · split
    · rename_i h1 h2; subst h2; exact absurd h h1
    · rfl
theorem maskH_out {H : AH} {i : Nat} (h : S i = false) : maskH S H i = H i := by simp [maskH, h]
@[go_sem] theorem contains_nil {i : Nat} : ([] : List Nat).contains i = false := rfl
@[go_sem] theorem contains_cons {i k : Nat} {l : List Nat} : (k :: l).contains i = (i == k || l.contains i) := by rw [List.contains_cons]

/-- Behind a step with an effect. -/
def EK (S : Nat → Bool) (H : AH) (K : ASt → Prop) (s' : ASt) : Prop := AndB (maskH S s'.H = maskH S H) (K s') .mk
@[go_sem] theorem EK_eq {H : AH} {s' : ASt} : EK S H K s' = AndB (maskH S s'.H = maskH S H) (K s') .mk := rfl
@[go_sem] theorem dop_eff {op : Op} : dop P true S d op s K = aopD P d op s (EK S s.H K) := by unfold dop; rw [if_pos rfl]; rfl
/-- A call with its one result. -/
structure ECallB (P : Program) (f : AV) (args : List AV) (s : ASt) (K : AV → AH → Nat → Prop) (_ : Box K) : Prop where
  out : match f with
    | .fn g cap => ACallD P g (args ++ cap) s.H s.nx K
    | _ => False
@[congr] theorem ECallB_congr {f g : AV} {args args' : List AV} {s s' : ASt} {K : AV → AH → Nat → Prop} {w : Box K} (h1 : f = g) (h2 : args = args') (h3 : s = s') : ECallB P f args s K w = ECallB P g args' s' K w := by rw [h1, h2, h3]
theorem ECallB.of {g : FuncId} {args : List AV} {r : AV} {H' : AH} {nx' : Nat} {K : AV → AH → Nat → Prop} {w : Box K} (h : CallC P g args s.H s.nx r H' nx') (k : K r H' nx') : ECallB P (.fn g []) args s K w := ⟨⟨r, H', nx', by rw [List.append_nil]; exact h, k⟩⟩
@[go_sem] theorem aopD_is {op : Op} : aopD P d op s K = aop P d op s K := by
  unfold aopD aop
  rfl
theorem aopD_call {f : Operand} {args : List Operand} {tys : Array TypeId} : aopD P d (.call ⟨.value f, args.toArray, tys⟩) s K = ECallB P (evA s.tmps f) (args.map (evA s.tmps)) s (CK s d K) .mk := by
  refine propext (Iff.trans ?_ ⟨fun h => ⟨h⟩, fun h => h.out⟩)
  unfold aopD
  simp only [callV]
  cases evA s.tmps f <;> simp [CK]
  rfl
@[congr] theorem EK_congr {H : AH} {s' s2 : ASt} (h : s' = s2) : EK S H K s' = EK S H K s2 := by rw [h]
structure DCallB (P : Program) (f : AV) (args : List AV) (K : AV → Prop) (_ : Box K) : Prop where
  out : match f with
    | .fn g cap => ∃ q, QCall P g (args ++ cap) q ∧ K q
    | _ => False
@[congr] theorem DCallB_congr {f g : AV} {args args' : List AV} {K : AV → Prop} {w : Box K} (h1 : f = g) (h2 : args = args') : DCallB P f args K w = DCallB P g args' K w := by rw [h1, h2]
theorem DCallB.q {g : FuncId} {cap args : List AV} {K : AV → Prop} {w : Box K} {r : AV} (h : QCall P g (args ++ cap) r) (k : K r) : DCallB P (.fn g cap) args K w := ⟨⟨r, h, k⟩⟩
@[go_sem] theorem dop_call {f : Operand} {args : List Operand} {tys : Array TypeId} : dop P false S d (.call ⟨.value f, args.toArray, tys⟩) s K =
    DCallB P (evA s.tmps f) (args.map (evA s.tmps)) (QK s d K) .mk := by
  refine propext (Iff.trans ?_ ⟨fun h => ⟨h⟩, fun h => h.out⟩)
  unfold dop
  simp only [callV, Bool.false_eq_true, if_false]
  cases evA s.tmps f <;> simp [QK]
theorem DCallB.q0 {g : FuncId} {args : List AV} {K : AV → Prop} {w : Box K} {r : AV} (h : QCall P g args r) (k : K r) : DCallB P (.fn g []) args K w := ⟨⟨r, by rw [List.append_nil]; exact h, k⟩⟩
theorem dstep_q {E : Operand → AV} {H : AH} {op : Op} (h : fstep P E H op = none) : dstep P E H op = qstep P E H op := by
  unfold dstep
  split
  · rename_i h'; exact h'.symm
  · rename_i h'; rw [h, h']
@[go_sem] theorem dop_move : dop P false S d (.move x) s K = K ⟨putA s.tmps d (evA s.tmps x), s.H, s.nx⟩ := by rw [dop_q rfl, dstep_q rfl]; simp [qstep, bindP, QK]
@[go_sem] theorem dop_assign : dop P false S d (.assign x) s K = K ⟨putA s.tmps d (evA s.tmps x), s.H, s.nx⟩ := by rw [dop_q rfl, dstep_q rfl]; simp [qstep, bindP, QK]
@[go_sem] theorem dop_pick {a : Operand} : dop P false S d (.pick c a b) s K = bindB (pickE (evA s.tmps c) (evA s.tmps a) (evA s.tmps b)) (QK s d K) .mk := by rw [dop_q rfl, dstep_q rfl, q_pickE]; rfl
@[go_sem] theorem dop_build {parts : List (Nat × Operand)} : dop P false S d (.build t parts.toArray) s K = bindB (buildE (maskH S s.H) (tyZ P t) (tyFs P t) (parts.map fun x => (x.1, evA s.tmps x.2))) (QK s d K) .mk := by rw [dop_q rfl, dstep_q rfl, q_buildE]; rfl
@[go_sem] theorem dop_load : dop P false S d (.load t x) s K = bindB (loadE (tyAS P t) (maskH S s.H) (evA s.tmps x)) (QK s d K) .mk := by rw [dop_q rfl, dstep_q rfl, q_loadE]; rfl
@[go_sem] theorem dop_nil : dop P false S d (.nilCheck x) s K = bindB (nilE (maskH S s.H) (evA s.tmps x)) (QK s d K) .mk := by rw [dop_q rfl, dstep_q rfl, q_nilE]; rfl
@[go_sem] theorem dop_bin {op : BinOp} {t2 : TypeId} : dop P false S d (.binOp op t x y t2) s K = bindB (binA P op t (evA s.tmps x) (evA s.tmps y)) (QK s d K) .mk := by rw [dop_q rfl, dstep_q rfl, q_binE]; rfl
@[go_sem] theorem dop_un {op : UnOp} : dop P false S d (.unOp op t x) s K = bindB (unA op (evA s.tmps x)) (QK s d K) .mk := by rw [dop_q rfl, dstep_q rfl, q_unE]; rfl
@[go_sem] theorem dop_mkf {f : FuncId} {first cap : List Operand} : dop P false S d (.makeFunc (.func f) first.toArray cap.toArray) s K = bindB (mkfE f first (cap.map (evA s.tmps))) (QK s d K) .mk := by rw [dop_q rfl, dstep_q rfl, q_mkfE]; rfl
@[go_sem] theorem dop_slc {lo hi mx : Option Operand} : dop P false S d (.slice t x lo hi mx) s K = bindB (slcE P t (maskH S s.H) (evA s.tmps x) (lo.map (evA s.tmps)) (hi.map (evA s.tmps)) (mx.map (evA s.tmps))) (QK s d K) .mk := by rw [dop_q rfl, dstep_q rfl, q_slcE]; rfl
@[go_sem] theorem dop_fld : dop P false S d (.fieldAddr t x j) s K = bindB (fldE (tyFld P t j) (maskH S s.H) (evA s.tmps x)) (QK s d K) .mk := by rw [dop_q rfl, dstep_q rfl, q_fldE]; rfl
@[go_sem] theorem dop_field : dop P false S d (.field t x j) s K = bindB (fieldE (tyFld P t j) (evA s.tmps x)) (QK s d K) .mk := by rw [dop_q rfl, dstep_q rfl, q_fieldE]; rfl
@[go_sem] theorem dop_idx : dop P false S d (.indexAddr t x y) s K = bindB (idxE (tySl P t) (maskH S s.H) (evA s.tmps x) (evA s.tmps y)) (QK s d K) .mk := by rw [dop_q rfl, dstep_q rfl, q_idxE]; rfl
@[go_sem] theorem dop_index : dop P false S d (.index t x y) s K = bindB (indexE P t (evA s.tmps x) (evA s.tmps y)) (QK s d K) .mk := by rw [dop_q rfl, dstep_q rfl, q_indexE]; rfl
@[go_sem] theorem dop_ext : dop P false S d (.extract x j) s K = bindB (extE (evA s.tmps x) j) (QK s d K) .mk := by rw [dop_q rfl, dstep_q rfl, q_extE]; rfl
@[go_sem] theorem dop_blt {bi : Builtin} {args : List Operand} {tys : List TypeId} : dop P false S d (.call ⟨.builtin bi, args.toArray, tys.toArray⟩) s K = bindB (builtA P (maskH S s.H) bi tys (args.map (evA s.tmps))) (QK s d K) .mk := by rw [dop_q rfl, dstep_q rfl, q_bltE]; rfl
def convD (P : Program) (src dst : TypeId) (H : AH) (x : AV) : Option (Prop × AV) :=
  match convE P src dst H x with
  | some x => some x
  | none => (match x, tySl P dst with
      | .str s, some (e, _, _) => if tyInt P e = some .u8 ∧ (P.underlying src).isSome then some (s.size ≤ 140737488355328, .sl s.size false (bytesCells s)) else none
      | _, _ => none)
@[go_sem] theorem dop_conv {src dst : TypeId} : dop P false S d (.convert src dst x) s K = bindB (convD P src dst (maskH S s.H) (evA s.tmps x)) (QK s d K) .mk := by
  rw [dop_q rfl]
  unfold dstep
  rw [q_convE]
  rfl
def bslD (P : Program) (H : AH) (e : Option (TypeId × Nat × Nat)) (len : Nat) (parts : List (Nat × AV)) : Option (Prop × AV) :=
  match e with
  | none => none
  | some e => match tyZ P e.1 with
    | none => none
    | some z => if z.length = e.2.1 ∧ len * e.2.1 ≤ 16777216 then (fillB H e.2.1 (List.replicate len z).flatten parts).map fun cs => (True, .sl len true cs) else none
@[go_sem] theorem dop_bsl {len : Nat} {parts : List (Nat × Operand)} : dop P false S d (.buildSlice t len parts.toArray) s K = bindB (bslD P (maskH S s.H) (tySl P t) len (parts.map fun x => (x.1, evA s.tmps x.2))) (QK s d K) .mk := by
  rw [dop_q rfl]
  have e : dstep P (evA s.tmps) (maskH S s.H) (.buildSlice t len parts.toArray) = bslD P (maskH S s.H) (tySl P t) len (parts.map fun x => (x.1, evA s.tmps x.2)) := by
    unfold dstep bslD
    simp only [qstep, fstep]
    cases tySl P t with
    | none => rfl
    | some e =>
      obtain ⟨e, sz, by'⟩ := e
      simp only
      cases tyZ P e <;> rfl
  rw [e]
  rfl

/-! ### Forks -/
theorem IfB.dec {p : Prop} [Decidable p] {A B : Prop} {w : Box A} {w2 : Box B} (h1 : p → A) (h2 : ¬ p → B) : IfB (decide p) A B w w2 :=
  IfB.split (fun h => h1 (of_decide_eq_true h)) (fun h => h2 (of_decide_eq_false h))
end
/-! ### Pictures -/
section
variable {d : Nat} {H : AH}
theorem snapA_mapRef (d : Nat) (H : AH) : ∃ g, ∀ a, snapA d H a = mapRef g a := by cases d <;> exact ⟨_, fun _ => rfl⟩
@[go_sem] theorem snapA_int {k : IntKind} {n : Int} : snapA d H (.int k n) = .int k n := by cases d <;> rfl
@[go_sem] theorem snapA_bool {b : Bool} : snapA d H (.bool b) = .bool b := by cases d <;> rfl
@[go_sem] theorem snapA_str {b : ByteArray} : snapA d H (.str b) = .str b := by cases d <;> rfl
@[go_sem] theorem snapA_nilp : snapA d H .nilp = .nilp := by cases d <;> rfl
@[go_sem] theorem snapA_junk : snapA d H .junk = .junk := by cases d <;> rfl
theorem mapRefL_snap {g : AV → AV} {d : Nat} {H : AH} (h : ∀ a, snapA d H a = mapRef g a) (cs : List AV) : mapRefL g cs = cs.map (snapA d H) := by
  rw [mapRefL_map]; exact List.map_congr_left fun a _ => (h a).symm
@[go_sem] theorem snapA_tup {cs : List AV} : snapA d H (.tup cs) = .tup (cs.map (snapA d H)) := by obtain ⟨g, h⟩ := snapA_mapRef d H; rw [h]; simp only [mapRef, mapRefL_snap h]
@[go_sem] theorem snapA_agg {cs : List AV} : snapA d H (.agg cs) = .agg (cs.map (snapA d H)) := by obtain ⟨g, h⟩ := snapA_mapRef d H; rw [h]; simp only [mapRef, mapRefL_snap h]
@[go_sem] theorem snapA_fn {f : FuncId} {cs : List AV} : snapA d H (.fn f cs) = .fn f (cs.map (snapA d H)) := by obtain ⟨g, h⟩ := snapA_mapRef d H; rw [h]; simp only [mapRef, mapRefL_snap h]
@[go_sem] theorem snapA_sl {n : Nat} {t : Bool} {cs : List AV} : snapA d H (.sl n t cs) = .sl n t (cs.map (snapA d H)) := by obtain ⟨g, h⟩ := snapA_mapRef d H; rw [h]; simp only [mapRef, mapRefL_snap h]
@[go_sem] theorem snapA_ro {cs : List AV} : snapA d H (.ro cs) = .ro (cs.map (snapA d H)) := by obtain ⟨g, h⟩ := snapA_mapRef d H; rw [h]; simp only [mapRef, mapRefL_snap h]
def snapM (b : ABlk) (ver sz off n d : Nat) (H : AH) : AV := match b with
  | .live v cells => if v = ver then .sl n false (((cells.drop off).take (n * sz)).map (snapA d H)) else .junk
  | .dead => .junk
@[go_sem] theorem snapM_live {v ver sz off n d : Nat} {cells : List AV} : snapM (.live v cells) ver sz off n d H = if v = ver then .sl n false (((cells.drop off).take (n * sz)).map (snapA d H)) else .junk := rfl
@[go_sem] theorem snapA_msl {id ver sz off n : Nat} : snapA (d + 1) H (.msl id ver sz off n) = snapM (H id) ver sz off n d H := by
  simp only [snapA, mapRef, derefA, snapM]; rfl
def snapP (b : ABlk) (ver off d : Nat) (H : AH) : AV := match b with
  | .live v cells => if v = ver then .ro ((cells.drop off).map (snapA d H)) else .junk
  | .dead => .junk
@[go_sem] theorem snapP_live {v ver off d : Nat} {cells : List AV} : snapP (.live v cells) ver off d H = if v = ver then .ro ((cells.drop off).map (snapA d H)) else .junk := rfl
@[go_sem] theorem snapA_ptr {id ver off : Nat} : snapA (d + 1) H (.ptr id ver off) = snapP (H id) ver off d H := by
  simp only [snapA, mapRef, derefA, snapP]; rfl
end
theorem w64 {x : Int} (h : -9223372036854775808 ≤ x ∧ x ≤ 9223372036854775807) : IntKind.i64.wrap x = x := by rw [IntKind.wrap_i64]; omega
/-- What is asked on the way, where the discharger sees it. -/
theorem AndB_of {p A : Prop} {w : Box A} (h : p) : AndB p A w = A := by simp [AndB, h]
@[go_sem] theorem beq_int {a b : Int} : (a == b) = decide (a = b) := by by_cases h : a = b <;> simp [h]
@[go_sem] theorem bne_int {a b : Int} : (a != b) = !decide (a = b) := by by_cases h : a = b <;> simp [h]
@[go_sem] theorem cast_pred {j : Nat} : ((j + 1 : Nat) : Int) - 1 = (j : Int) := by omega
theorem IfB_of {p : Prop} [Decidable p] {A B : Prop} {w : Box A} {w2 : Box B} (h : p) : IfB (decide p) A B w w2 = A := by simp [h, IfB, AIf]
theorem IfB_no {p : Prop} [Decidable p] {A B : Prop} {w : Box A} {w2 : Box B} (h : ¬ p) : IfB (decide p) A B w w2 = B := by simp [h, IfB, AIf]
theorem pickE_of {p : Prop} [Decidable p] {a b : AV} (h : p) : pickE (.bool (decide p)) a b = some (True, a) := by simp [pickE, h]
theorem pickE_no {p : Prop} [Decidable p] {a b : AV} (h : ¬ p) : pickE (.bool (decide p)) a b = some (True, b) := by simp [pickE, h]
@[go_sem high] theorem nthA_8 {a b c d e f g h : AV} {l : List AV} {n : Nat} : nthA (a :: b :: c :: d :: e :: f :: g :: h :: l) (n + 8) = nthA l n := rfl
@[go_sem high] theorem setN_8 {a b c d e f g h x : AV} {l : List AV} {n : Nat} : setN (a :: b :: c :: d :: e :: f :: g :: h :: l) (n + 8) x = a :: b :: c :: d :: e :: f :: g :: h :: setN l n x := rfl
theorem ite_of {α : Type} {p : Prop} [Decidable p] {a b : α} (h : p) : (if p then a else b) = a := if_pos h
theorem ite_no {α : Type} {p : Prop} [Decidable p] {a b : α} (h : ¬ p) : (if p then a else b) = b := if_neg h
theorem Weak.noH {T T0 : List AV} {H : AH} {nx nx0 : Nat} (h : wkL T T0) (hn : nx ≤ nx0) : Weak ⟨T, H, nx⟩ ⟨T0, Go.TH.noH, nx0⟩ := Weak0.toW ⟨h, fun _ => .inr rfl, hn⟩
@[go_sem] theorem beq_bool {b : Bool} : (b == b) = true := by simp
@[go_sem] theorem IfB_or {a b : Bool} {A B : Prop} {w : Box A} {w2 : Box B} : IfB (a || b) A B w w2 = IfB a A (IfB b A B .mk .mk) .mk .mk := by cases a <;> simp [IfB, AIf]
@[go_sem] theorem IfB_and {a b : Bool} {A B : Prop} {w : Box A} {w2 : Box B} : IfB (a && b) A B w w2 = IfB a (IfB b A B .mk .mk) B .mk .mk := by cases a <;> simp [IfB, AIf]
@[go_sem] theorem cast_zero : ((0 : Nat) : Int) = 0 := rfl
@[go_sem] theorem lt_one {n : Nat} : (0 < n + 1) = True := by simp
attribute [go_sem] upd_upd convD bslD Option.isSome_some Option.isSome_none reduceCtorEq false_and and_false not_false_eq_true not_true_eq_false or_true true_or false_or or_false
attribute [go_sem_proc] Nat.reduceAdd Nat.reduceLT Nat.reduceMul Nat.reduceSub Nat.reduceEqDiff Nat.reduceBEq Int.reduceAdd Int.reduceLT Int.reduceLE Int.reduceNeg Int.reduceToNat Nat.reduceLeDiff reduceIte reduceDIte Int.reduceMul Int.reduceSub Int.reduceEq Int.reduceBEq
end Go.TH
