/-
  TH, part 8: the built-in functions that leave the world alone; all quiet operations together.
-/
import Derived.Test.YtbhibkochjfdfaaTh7
set_option linter.unusedVariables false
set_option linter.unusedSimpArgs false
namespace Go.TH
open Go
section
variable {P : Program} {o : Oper} {E : Operand → AV} {H : AH} {p : Prop} {r : AV}

theorem lenT_spec {base nx : Nat} {κ : Cx} (hi : Inv base κ H nx) {t : TypeId} {a : AV} (h : lenT P H t a = some (p, r)) (hp : p) {v : Value} (hr : Rep κ.W κ.M κ.F v a) (W : World) :
    ∃ w, (Builtin.len_ #[t] 0 #[v]).run P W = .ok w W ∧ Rep κ.W κ.M κ.F w r := by
  cases a with
  | str s =>
    simp only [lenT] at h
    split at h
    · rename_i ht
      cases h
      obtain rfl := hr.str_inv
      exact ⟨_, by simp [Builtin.len_, run_underlying (tyStr_spec ht), goInt], .int _ _⟩
    · cases h
  | sl n t' cells =>
    simp only [lenT] at h
    split at h
    · rename_i ht
      cases h
      obtain ⟨⟨e, a, b'⟩, he⟩ := Option.isSome_iff_exists.1 ht
      obtain ⟨A, c, rfl, _⟩ := hr.sl_inv
      exact ⟨_, by simp [Builtin.len_, run_underlying (tySl_spec he).1, goInt], .int _ _⟩
    · cases h
  | msl id ver sz off n =>
    simp only [lenT] at h
    split at h
    · rename_i ht
      obtain ⟨⟨e, a, b'⟩, he⟩ := Option.isSome_iff_exists.1 ht
      cases hl : H id with
      | dead => rw [hl] at h; cases h
      | live v' cells =>
        rw [hl] at h
        cases h
        subst hp
        have : ∃ A c, v = .slice A n c := by
          rcases hi.msl_inv hl hr with ⟨b, c, cs, T, fz, rfl, _⟩ | ⟨A, b, rfl, _, hn⟩
          · exact ⟨_, _, rfl⟩
          · subst hn
            exact ⟨_, _, rfl⟩
        obtain ⟨A, c, rfl⟩ := this
        exact ⟨_, by simp [Builtin.len_, run_underlying (tySl_spec he).1, goInt], .int _ _⟩
    · cases h
  | _ => simp [lenT] at h
theorem foldI_run (f2 : Value → Value → Sem Value) (f : Int → Int → Int) (k : IntKind) (hf : ∀ x y, f2 (.int k x) (.int k y) = pure (.int k (f x y))) {κ : Cx} :
    ∀ (as : List AV) (vs : List Value) (x n : Int), Reps κ vs as → foldI f k x as = some n → (vs.foldlM f2 (.int k x)).run P κ.W = .ok (.int k n) κ.W
  | [], vs, x, n, hr, h => by
    obtain rfl := hr.unnil
    cases h
    simp
  | a :: as, vs, x, n, hr, h => by
    obtain ⟨v, vs', rfl, hv, hr'⟩ := hr.uncons
    cases a with
    | int k' y =>
      simp only [foldI] at h
      split at h
      · rename_i hk
        subst hk
        obtain rfl := hv.int_inv
        rw [List.foldlM_cons, hf]
        simp only [pure_bind]
        exact foldI_run f2 f k' hf as vs' _ n hr' h
      · cases h
    | _ => simp [foldI] at h
theorem reps_map {κ : Cx} {ρ : Operand → Value} {E : Operand → AV} (xs : List Operand) (h : ∀ x ∈ xs, Rep κ.W κ.M κ.F (ρ x) (E x)) : Reps κ (xs.map ρ) (xs.map E) := by
  refine ⟨by simp, fun j v a h1 h2 => ?_⟩
  rw [List.getElem?_map] at h1 h2
  cases hj : xs[j]? with
  | none => rw [hj] at h1; cases h1
  | some x =>
    rw [hj] at h1 h2
    cases h1
    cases h2
    exact h x (List.mem_of_getElem? hj)
theorem q_call {c : Call} (ho : o.op = .call c) (h : qstep P E H o.op = some (p, r)) : QOk P o E H p r := by
  rw [ho] at h
  simp only [qstep] at h
  intro base nx κ ρ hp hi hρ
  rw [ho] at hρ
  split at h
  · rename_i b hb
    have hall : ∀ x ∈ c.args.toList, Rep κ.W κ.M κ.F (ρ x) (E x) := fun x hx => hρ x (by simp [Op.operands, Call.operands, hb, hx])
    have hreps := reps_map c.args.toList hall
    have fin : ∀ v, (builtin b c.argTypes o.type (c.args.map fun | .const _ => true | _ => false) (c.args.map ρ)).run P κ.W = .ok (.value v) κ.W → (execOp ρ o).run P κ.W = .ok (.value v) κ.W := by
      intro v hv
      simp only [execOp, ho, resolve, hb, Sem.run_bind, Sem.run_pure, Result.andThen_ok, invoke]
      exact hv
    unfold builtA at h
    split at h
    · rename_i t x hty hargs
      obtain ⟨xo, hxo, hxe⟩ : ∃ xo, c.args.toList = [xo] ∧ E xo = x := by
        cases hq : c.args.toList with
        | nil => rw [hq] at hargs; cases hargs
        | cons xo r' =>
          rw [hq] at hargs
          cases r' with
          | nil => simp at hargs; exact ⟨xo, rfl, hargs⟩
          | cons _ _ => simp at hargs
      have hargs' : c.args = #[xo] := by rw [← Array.toArray_toList (xs := c.args), hxo]
      have hty' : c.argTypes = #[t] := by rw [← Array.toArray_toList (xs := c.argTypes), hty]
      have hx := hall xo (by rw [hxo]; simp)
      rw [hxe] at hx
      obtain ⟨w, hw, hrep⟩ := lenT_spec hi h hp hx κ.W
      refine ⟨w, fin _ ?_, hrep⟩
      rw [hargs', hty']
      simp only [builtin]
      refine run_v ?_
      have : (#[xo].map ρ) = #[ρ xo] := by simp
      rw [this]
      exact hw
    · rename_i k x rest hargs
      cases hf : foldI (fun a b => if b > a then b else a) k x rest with
      | none => rw [hf] at h; cases h
      | some n =>
        rw [hf] at h
        cases h
        rw [hargs] at hreps
        obtain ⟨v, vs, hvs, hv, hr'⟩ := hreps.uncons
        obtain rfl := hv.int_inv
        refine ⟨_, fin (.int k n) ?_, .int _ _⟩
        have := foldI_run (P := P) Builtin.max2 _ k (fun x y => rfl) rest vs x n hr' hf
        have hm : (c.args.map ρ).toList = .int k x :: vs := by rw [Array.toList_map]; exact hvs
        simp only [builtin]
        refine run_v ?_
        simp only [Builtin.max_, hm, this]
    · rename_i k x rest hargs
      cases hf : foldI (fun a b => if b < a then b else a) k x rest with
      | none => rw [hf] at h; cases h
      | some n =>
        rw [hf] at h
        cases h
        rw [hargs] at hreps
        obtain ⟨v, vs, hvs, hv, hr'⟩ := hreps.uncons
        obtain rfl := hv.int_inv
        refine ⟨_, fin (.int k n) ?_, .int _ _⟩
        have := foldI_run (P := P) Builtin.min2 _ k (fun x y => rfl) rest vs x n hr' hf
        have hm : (c.args.map ρ).toList = .int k x :: vs := by rw [Array.toList_map]; exact hvs
        simp only [builtin]
        refine run_v ?_
        simp only [Builtin.min_, hm, this]
    · cases h
  · cases h

theorem qstep_sound (h : qstep P E H o.op = some (p, r)) : QOk P o E H p r := by
  cases ho : o.op with
  | move x => exact q_move ho h
  | assign x => exact q_assign ho h
  | pick c a b => exact q_pick ho h
  | build t parts => exact q_build ho h
  | load t x => exact q_load ho h
  | nilCheck x => exact q_nilCheck ho h
  | binOp op t x y yt => exact q_binOp ho h
  | unOp op t x => exact q_unOp ho h
  | convert src dst x => exact q_convert ho h
  | makeFunc fn first captured => exact q_makeFunc ho h
  | slice t x lo hi mx => exact q_slice ho h
  | fieldAddr t x j => exact q_fieldAddr ho h
  | field t x j => exact q_field ho h
  | indexAddr t x i => exact q_indexAddr ho h
  | index t x i => exact q_index ho h
  | extract x j => exact q_extract ho h
  | call c => exact q_call ho h
  | _ => rw [ho] at h; simp [qstep] at h
end
end Go.TH
