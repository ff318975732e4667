/-
  TH, part 17: code; functions; contracts.
-/
import Derived.Test.YtbhibkochjfdfaaTh16
set_option linter.unusedVariables false
set_option linter.unusedSimpArgs false
namespace Go.TH
open Go

/-- What a piece of code comes to. -/
def awp (P : Program) : Code → (AEx → ASt → Prop) → ASt → Prop
  | .skip, Q, s => Q .normal s
  | .region _ ops draw, Q, s => if draw = true then ADraw P ops.toList (Q .normal) s else aops P ops.toList (Q .normal) ops.toList s
  | .seq a b, Q, s => awp P a (thenQ (awp P b Q) Q) s
  | .cond c a b, Q, s => ACond (evA s.tmps c) (awp P a Q s) (awp P b Q s)
  | .block id b, Q, s => awp P b (blockQ id Q) s
  | .loop b, Q, s => ALoop (awp P b) Q s
  | .exit id, Q, s => Q (.exit id) s
  | .ret, Q, s => Q .ret s
  | _, _, _ => False

theorem exists_least (p : Nat → Prop) (h : ∃ n, p n) : ∃ n, p n ∧ ∀ m, p m → n ≤ m := by
  obtain ⟨n, hn⟩ := h
  induction n using Nat.strongRecOn with
  | _ n ih =>
    by_cases hl : ∃ m, m < n ∧ p m
    · obtain ⟨m, h1, h2⟩ := hl
      exact ih m h1 h2
    · exact ⟨n, hn, fun m hm => Nat.le_of_not_lt fun h => hl ⟨m, h, hm⟩⟩
open Classical in
noncomputable def leastN (p : Nat → Prop) : Nat := if h : ∃ n, p n then (exists_least p h).choose else 0
theorem leastN_spec {p : Nat → Prop} (h : ∃ n, p n) : p (leastN p) ∧ ∀ m, p m → leastN p ≤ m := by
  unfold leastN
  rw [dif_pos h]
  exact (exists_least p h).choose_spec

theorem awp_sound {P : Program} (hm : P.follows .mixedOrders = true) : ∀ (c : Code) {Q : AEx → ASt → Prop} {s : ASt}, awp P c Q s → ∀ {base : Nat} {κ : Cx} {a : Act}, St base κ a s →
    ∀ {QQ : Exit → Act → World → Prop}, (∀ e s' κ' a', Q e s' → St base κ' a' s' → Ext base κ κ' → QQ (AEx.ex e) a' κ'.W) → c.wp P QQ a κ.W
  | .skip, Q, s, h, base, κ, a, hs, QQ, hQ => wp_skip (hQ .normal s κ a h hs (.refl _ _))
  | .region id ops draw, Q, s, h, base, κ, a, hs, QQ, hQ => by
    unfold awp at h
    have fin : ∀ a' W', Post base κ (Q .normal) a' W' → QQ .normal a' W' := by
      rintro a' W' ⟨s', κ', rfl, hs', hext, hK⟩
      exact hQ .normal s' κ' a' hK hs' hext
    cases draw with
    | true =>
      simp only [if_true] at h
      have := draw_sound (id := id) hm h hs fin
      simpa using this
    | false =>
      simp only [Bool.false_eq_true, if_false] at h
      have := aops_sound ops.toList h hs fin
      exact wp_region_list (by simpa using this)
  | .seq x y, Q, s, h, base, κ, a, hs, QQ, hQ => by
    unfold awp at h
    refine wp_seq (awp_sound hm x h hs (fun e s' κ' a' hq hs' hext => ?_))
    cases e with
    | normal => exact awp_sound hm y hq hs' (fun e2 s2 κ2 a2 hq2 hs2 hext2 => hQ e2 s2 κ2 a2 hq2 hs2 (hext.trans hext2))
    | exit id => exact hQ (.exit id) s' κ' a' hq hs' hext
    | ret => exact hQ .ret s' κ' a' hq hs' hext
  | .cond c x y, Q, s, h, base, κ, a, hs, QQ, hQ => by
    unfold awp ACond at h
    split at h
    · rename_i b hb
      have hc := evA_rep hs c
      rw [hb] at hc
      have hv := hc.bool_inv
      unfold AIf at h
      cases b with
      | true => simp only [if_true] at h; exact wp_cond_true hv (awp_sound hm x h hs hQ)
      | false => simp only [Bool.false_eq_true, if_false] at h; exact wp_cond_false hv (awp_sound hm y h hs hQ)
    · exact h.elim
  | .block id b, Q, s, h, base, κ, a, hs, QQ, hQ => by
    unfold awp at h
    refine wp_block (awp_sound hm b h hs (fun e s' κ' a' hq hs' hext => ?_))
    cases e with
    | normal => exact hQ .normal s' κ' a' hq hs' hext
    | exit id' =>
      simp only [blockQ] at hq
      simp only [AEx.ex, Exit.inBlock]
      split at hq
      · rename_i hi; rw [if_pos hi]; exact hQ .normal s' κ' a' hq hs' hext
      · rename_i hi; rw [if_neg hi]; exact hQ (.exit id') s' κ' a' hq hs' hext
    | ret => exact hQ .ret s' κ' a' hq hs' hext
  | .loop b, Q, s, h, base, κ, a, hs, QQ, hQ => by
    unfold awp ALoop at h
    obtain ⟨R, n, ⟨s0, hw0, hR⟩, hround⟩ := h
    let J : Act → World → Nat → Prop := fun a' W' n' => ∃ s' κ', κ'.W = W' ∧ St base κ' a' s' ∧ Ext base κ κ' ∧ R s' n'
    obtain ⟨κ0, hκ0, hs0, hext0⟩ := hw0 base κ a hs
    refine wp_loop (fun a' W' => ∃ n', J a' W' n') (fun a' W' => leastN (J a' W')) ⟨n, s0, κ0, hκ0, hs0, hext0, hR⟩ ?_
    intro a1 W1 hJ
    obtain ⟨⟨s1, κ1, rfl, hs1, hext1, hR1⟩, hmin⟩ := leastN_spec hJ
    refine awp_sound hm b (hround s1 _ hR1) hs1 (fun e s' κ' a' hq hs' hext => ?_)
    cases e with
    | normal =>
      obtain ⟨m, hlt, s2, hw2, hRm⟩ := hq
      obtain ⟨κ2, hκ2, hs2, hext2⟩ := hw2 base κ' a' hs'
      have hJ2 : J a' κ'.W m := ⟨s2, κ2, hκ2, hs2, (hext1.trans hext).trans hext2, hRm⟩
      have hJ' : ∃ n', J a' κ'.W n' := ⟨m, hJ2⟩
      have := (leastN_spec hJ').2 m hJ2
      exact ⟨hJ', by omega⟩
    | exit id => exact hQ (.exit id) s' κ' a' hq hs' (hext1.trans hext)
    | ret => exact hQ .ret s' κ' a' hq hs' (hext1.trans hext)
  | .exit id, Q, s, h, base, κ, a, hs, QQ, hQ => wp_exit (hQ (.exit id) s κ a h hs (.refl _ _))
  | .ret, Q, s, h, base, κ, a, hs, QQ, hQ => wp_ret (hQ .ret s κ a h hs (.refl _ _))
  | .rangeFunc .., Q, s, h, base, κ, a, hs, QQ, hQ => by unfold awp at h; exact h.elim
  | .scope .., Q, s, h, base, κ, a, hs, QQ, hQ => by unfold awp at h; exact h.elim
  | .label .., Q, s, h, base, κ, a, hs, QQ, hQ => by unfold awp at h; exact h.elim
  | .goto .., Q, s, h, base, κ, a, hs, QQ, hQ => by unfold awp at h; exact h.elim
  | .refuse .., Q, s, h, base, κ, a, hs, QQ, hQ => by unfold awp at h; exact h.elim

/-! ### Functions -/
def resC (H : AH) (ty : Option (Bool × Nat)) (x : AV) : Option (Prop × AV) :=
  match ty, x with
  | some s, .ptr id ver off => (match H id with
    | .live v cells => some (v = ver ∧ (loadA cells off s).1, (loadA cells off s).2)
    | .dead => none)
  | _, _ => none
def resA (P : Program) (H : AH) (tmps : List AV) : List ResultVar → Option (Prop × List AV)
  | [] => some (True, [])
  | .tmp t :: r => (resA P H tmps r).map fun l => (l.1, tmps.getD t .junk :: l.2)
  | .cell a t :: r => (match resC H (tyAS P t) (tmps.getD a .junk), resA P H tmps r with
    | some (p, v), some l => some (p ∧ l.1, v :: l.2)
    | _, _ => none)
def packA : List AV → AV
  | [a] => a
  | l => .tup l
/-- Behind the body. -/
def bodyQ (P : Program) (rs : List ResultVar) (K : AV → AH → Nat → Prop) : AEx → ASt → Prop
  | .exit _, _ => False
  | _, s => match resA P s.H s.tmps rs with
    | some l => l.1 ∧ K (packA l.2) s.H s.nx
    | none => False

def resF (tmps : Array Value) : ResultVar → Sem Value
  | .tmp t => pure (tmps.getD t undef)
  | .cell a t => do loadVar t (← asAddr (tmps.getD a undef))
theorem results_eq (fn : Func) (tmps : Array Value) : results fn tmps = (do let vs ← fn.results.mapM (resF tmps); pure (if h : vs.size = 1 then vs[0] else .tuple vs)) := by
  unfold results
  congr 2
theorem resA_run {P : Program} {base : Nat} {κ : Cx} {a : Act} {s : ASt} (hs : St base κ a s) : ∀ (rs : List ResultVar) (l : Prop × List AV), resA P s.H s.tmps rs = some l → l.1 →
    ∃ vs : List Value, (rs.mapM (resF a.tmps)).run P κ.W = .ok vs κ.W ∧ Reps κ vs l.2
  | [], l, h, _ => by cases h; exact ⟨[], by simp, Reps.nil κ⟩
  | .tmp t :: rs, l, h, hp => by
    simp only [resA] at h
    cases hr : resA P s.H s.tmps rs with
    | none => rw [hr] at h; cases h
    | some l' =>
      rw [hr] at h
      cases h
      obtain ⟨vs, h1, h2⟩ := resA_run hs rs l' hr hp
      refine ⟨a.tmps.getD t undef :: vs, ?_, Reps.cons (evA_rep hs (.tmp t)) h2⟩
      rw [List.mapM_cons]
      simp only [resF, Sem.run_bind, Sem.run_pure, Result.andThen_ok, h1]
  | .cell x t :: rs, l, h, hp => by
    simp only [resA] at h
    split at h
    · rename_i p v l' hc hr
      cases h
      obtain ⟨vs, h1, h2⟩ := resA_run hs rs l' hr hp.2
      unfold resC at hc
      split at hc
      · rename_i s0 id ver off hty hx
        obtain ⟨g, n⟩ := s0
        split at hc
        · rename_i ver' cells hl
          cases hc
          obtain ⟨⟨rfl, hp1⟩, hp2⟩ := hp
          have hx' := evA_rep hs (.tmp x)
          simp only [evA] at hx'
          rw [hx] at hx'
          obtain ⟨b, us, hv, hca, hus⟩ := hs.inv.ptr_cells hl hx'
          have hd := loadA_drop cells off (g, n) hp1
          obtain ⟨v, hrun, hrep⟩ := run_load_cells hty hca (hus.drop off) hd.1
          rw [hd.2] at hrep
          refine ⟨v :: vs, ?_, Reps.cons hrep h2⟩
          have hv' : a.tmps.getD x undef = Value.pointer (some _) := hv
          rw [List.mapM_cons]
          simp only [resF, hv', asAddr, Sem.run_bind, Sem.run_pure, Result.andThen_ok, hrun, h1]
        · cases hc
      · cases hc
    · cases h

/-- A BODY GIVES A CONTRACT. -/
def WalkOk (P : Program) (c : Code) (Q : AEx → ASt → Prop) (s : ASt) : Prop := ∀ {base : Nat} {κ : Cx} {a : Act}, St base κ a s →
    ∀ {QQ : Exit → Act → World → Prop}, (∀ e s' κ' a', Q e s' → St base κ' a' s' → Ext base κ κ' → QQ (AEx.ex e) a' κ'.W) → c.wp P QQ a κ.W
theorem callQ_of_walk {P : Program} {f : FuncId} {fn : Func} {c : Code} {n : Nat} {rs : List ResultVar} (hf : P.funcs[f]? = some fn) (hb : fn.body = some c) (hn : fn.ntmps = n) (hrs : fn.results = rs.toArray)
    (hname : (fn.name == "runtime.NumGoroutine") = false) {args : List AV} {H : AH} {nx : Nat} {Q : AV → AH → Nat → Prop}
    (h : WalkOk P c (bodyQ P rs Q) ⟨args ++ List.replicate (n - args.length) (.tup []), H, nx⟩) : CallQ P f args H nx Q := by
  refine ⟨⟨fn, hf, hname, by rw [hb]; rfl⟩, fun base κ vs hi hr => ?_⟩
  refine calls_of_wp hf hb ?_
  have hs : St base κ { tmps := vs.toArray ++ Array.replicate (fn.ntmps - vs.toArray.size) undef, defers := [] } ⟨args ++ List.replicate (n - args.length) (.tup []), H, nx⟩ := by
    refine ⟨hi, ?_, rfl⟩
    have : (vs.toArray ++ Array.replicate (fn.ntmps - vs.toArray.size) undef).toList = vs ++ List.replicate (n - args.length) undef := by
      have := hr.1
      simp [hn, this]
    rw [this]
    refine hr.append ⟨by simp, fun j v a h1 h2 => ?_⟩
    rw [List.getElem?_replicate] at h1 h2
    split at h1
    · rename_i hj
      rw [if_pos hj] at h2
      cases h1
      cases h2
      exact .tup [] [] rfl (fun j v a h => by simp at h)
    · cases h1
  refine h hs (fun e s' κ' a' hq hs' hext => ?_)
  have fin : (∃ l, resA P s'.H s'.tmps rs = some l ∧ l.1 ∧ Q (packA l.2) s'.H s'.nx) → a'.defers = [] ∧ ∃ v, (results fn a'.tmps).run P κ'.W = .ok v κ'.W ∧
      ∃ r H' nx', Q r H' nx' ∧ ∃ v' κ2, Ending.returned v = .returned v' ∧ κ2.W = κ'.W ∧ Rep κ2.W κ2.M κ2.F v' r ∧ Ext base κ κ2 ∧ Inv base κ2 H' nx' := by
    rintro ⟨⟨p, l⟩, hl, hp, hq⟩
    refine ⟨hs'.defers, ?_⟩
    obtain ⟨vs', hrun, hrep⟩ := resA_run (P := P) hs' rs (p, l) hl hp
    have hres : (results fn a'.tmps).run P κ'.W = .ok (if h : vs'.toArray.size = 1 then vs'.toArray[0] else .tuple vs'.toArray) κ'.W := by
      rw [results_eq, hrs]
      simp only [Sem.run_bind, Array.mapM_eq_mapM_toList, Sem.run_map, hrun, Result.andThen_ok, Sem.run_pure]
    refine ⟨_, hres, _, _, _, hq, _, κ', rfl, rfl, ?_, hext, hs'.inv⟩
    match l, hrep with
    | [], hrep =>
      obtain rfl := hrep.unnil
      simp only [packA]
      exact .tup [] [] rfl hrep.2
    | [x], hrep =>
      obtain ⟨v, vs2, rfl, h1, h2⟩ := hrep.uncons
      obtain rfl := h2.unnil
      simpa [packA] using h1
    | x :: y :: l, hrep =>
      obtain ⟨v, vs2, rfl, h1, h2⟩ := hrep.uncons
      obtain ⟨v2, vs3, rfl, h3, h4⟩ := h2.uncons
      simp only [packA]
      have : ¬ ((v :: v2 :: vs3).toArray.size = 1) := by simp
      rw [dif_neg this]
      exact .tup _ _ hrep.1 hrep.2
  cases e with
  | exit id => exact hq.elim
  | normal =>
    simp only [bodyQ] at hq
    split at hq
    · rename_i l hl; exact fin ⟨l, hl, hq.1, hq.2⟩
    · exact hq.elim
  | ret =>
    simp only [bodyQ] at hq
    split at hq
    · rename_i l hl; exact fin ⟨l, hl, hq.1, hq.2⟩
    · exact hq.elim
theorem callQ_of_body {P : Program} (hm : P.follows .mixedOrders = true) {f : FuncId} {fn : Func} {c : Code} {n : Nat} {rs : List ResultVar} (hf : P.funcs[f]? = some fn) (hb : fn.body = some c) (hn : fn.ntmps = n) (hrs : fn.results = rs.toArray)
    (hname : (fn.name == "runtime.NumGoroutine") = false) {args : List AV} {H : AH} {nx : Nat} {Q : AV → AH → Nat → Prop}
    (h : awp P c (bodyQ P rs Q) ⟨args ++ List.replicate (n - args.length) (.tup []), H, nx⟩) : CallQ P f args H nx Q :=
  callQ_of_walk hf hb hn hrs hname (fun {base κ a} hs {QQ} hQ => awp_sound hm c h hs hQ)
theorem call_of_body {P : Program} (hm : P.follows .mixedOrders = true) {f : FuncId} {fn : Func} {c : Code} {n : Nat} {rs : List ResultVar} (hf : P.funcs[f]? = some fn) (hb : fn.body = some c) (hn : fn.ntmps = n) (hrs : fn.results = rs.toArray)
    (hname : (fn.name == "runtime.NumGoroutine") = false) {args : List AV} {H : AH} {nx : Nat} {r : AV} {H' : AH} {nx' : Nat}
    (h : awp P c (bodyQ P rs fun r1 H1 nx1 => r1 = r ∧ H1 = H' ∧ nx1 = nx') ⟨args ++ List.replicate (n - args.length) (.tup []), H, nx⟩) : CallC P f args H nx r H' nx' := by
  obtain ⟨h1, h2⟩ := callQ_of_body hm hf hb hn hrs hname h
  refine ⟨h1, fun base κ vs hi hr => (h2 base κ vs hi hr).mono ?_⟩
  rintro e W' ⟨r1, H1, nx1, ⟨rfl, rfl, rfl⟩, h3⟩
  exact h3
theorem CallC.toQ {P : Program} {f : FuncId} {args : List AV} {H : AH} {nx : Nat} {r : AV} {H' : AH} {nx' : Nat} (h : CallC P f args H nx r H' nx') : CallQ P f args H nx (fun r1 H1 nx1 => r1 = r ∧ H1 = H' ∧ nx1 = nx') :=
  ⟨h.1, fun base κ vs hi hr => (h.2 base κ vs hi hr).mono (fun e W' h => ⟨r, H', nx', ⟨rfl, rfl, rfl⟩, h⟩)⟩
end Go.TH
