/-
  TH, part 24: a walk has one end; contracts that tell their result beforehand.
-/
import Derived.Test.YtbhibkochjfdfaaTh23
set_option linter.unusedVariables false
set_option linter.unusedSimpArgs false
namespace Go.TH
open Go
section
variable {P : Program}
theorem AIf.imp {b : Bool} {A B A' B' : Prop} (h : AIf b A B) (ha : A → A') (hb : B → B') : AIf b A' B' := by
  cases b
  · simp [AIf] at h ⊢; exact hb h
  · simp [AIf] at h ⊢; exact ha h
theorem bindP_mono {α : Type} {x : Option (Prop × α)} {k k' : α → Prop} (h : bindP x k) (hk : ∀ a, k a → k' a) : bindP x k' := by
  unfold bindP at *
  cases x with
  | none => exact h
  | some y => exact ⟨h.1, hk _ h.2⟩
theorem bindP_ex {α : Type} {x : Option (Prop × α)} {k : α → Prop} (h : bindP x k) : ∃ a, k a ∧ ∀ k' : α → Prop, k' a → bindP x k' := by
  cases x with
  | none => exact h.elim
  | some y =>
    have h' : y.1 ∧ k y.2 := h
    exact ⟨y.2, h'.2, fun k' hk => (⟨h'.1, hk⟩ : y.1 ∧ k' y.2)⟩
theorem aop_ex {d : Option Tmp} {op : Op} {s : ASt} {K : ASt → Prop} (h : aop P d op s K) : ∃ s', K s' ∧ ∀ K' : ASt → Prop, K' s' → aop P d op s K' := by
  unfold aop at *
  split at h
  · rename_i f args hc
    split at h
    · rename_i g cap hf
      obtain ⟨r, H', nx', h1, h2⟩ := h
      exact ⟨_, h2, fun K' hK => ⟨r, H', nx', h1, hK⟩⟩
    · exact h.elim
  · obtain ⟨a, h1, h2⟩ := bindP_ex h
    exact ⟨_, h1, fun K' hK => h2 _ hK⟩
theorem aops_ex {ops : List Oper} {K : ASt → Prop} : ∀ (l : List Oper) {s : ASt}, aops P ops K l s → ∃ s', K s' ∧ ∀ K' : ASt → Prop, K' s' → aops P ops K' l s
  | [], s, h => ⟨s, h, fun K' hK => hK⟩
  | o :: r, s, h => by
    unfold aops at h
    have one : aop P o.dst o.op s (aops P ops K r) → ∃ s', K s' ∧ ∀ K' : ASt → Prop, K' s' → aop P o.dst o.op s (aops P ops K' r) := by
      intro h
      obtain ⟨s1, h1, h2⟩ := aop_ex h
      obtain ⟨s', h3, h4⟩ := aops_ex r h1
      exact ⟨s', h3, fun K' hK => h2 _ (h4 K' hK)⟩
    cases hg : o.guard with
    | none =>
      rw [hg] at h
      obtain ⟨s', h1, h2⟩ := one h
      refine ⟨s', h1, fun K' hK => ?_⟩
      unfold aops
      rw [hg]
      exact h2 K' hK
    | some jw =>
      obtain ⟨j, want⟩ := jw
      rw [hg] at h
      simp only at h
      cases hq : guardA ops s.tmps j want with
      | none => rw [hq] at h; exact h.elim
      | some b =>
        rw [hq] at h
        simp only at h
        cases b with
        | true =>
          obtain ⟨s', h1, h2⟩ := one (by simpa [AIf] using h)
          refine ⟨s', h1, fun K' hK => ?_⟩
          unfold aops
          simp only [hg, hq]
          simpa [AIf] using h2 K' hK
        | false =>
          obtain ⟨s', h1, h2⟩ := aops_ex r (by simpa [AIf] using h)
          refine ⟨s', h1, fun K' hK => ?_⟩
          unfold aops
          simp only [hg, hq]
          simpa [AIf] using h2 K' hK
theorem dop_ex {eff : Bool} {S : Nat → Bool} {d : Option Tmp} {op : Op} {s : ASt} {K : ASt → Prop} (h : dop P eff S d op s K) : ∃ s', K s' ∧ ∀ K' : ASt → Prop, K' s' → dop P eff S d op s K' := by
  unfold dop at h
  split at h
  · rename_i he
    rw [aopD_is] at h
    obtain ⟨s', h1, h2⟩ := aop_ex h
    refine ⟨s', h1.2, fun K' hK => ?_⟩
    unfold dop
    rw [if_pos he, aopD_is]
    exact h2 _ ⟨h1.1, hK⟩
  · rename_i he
    cases hc : callV op with
    | some fa =>
      obtain ⟨f, args⟩ := fa
      rw [hc] at h
      simp only at h
      split at h
      · rename_i g cap hf
        obtain ⟨q, h1, h2⟩ := h
        refine ⟨_, h2, fun K' hK => ?_⟩
        unfold dop
        rw [if_neg he]
        simp only [hc, hf]
        exact ⟨q, h1, hK⟩
      · exact h.elim
    | none =>
      rw [hc] at h
      obtain ⟨a, h1, h2⟩ := bindP_ex h
      refine ⟨_, h1, fun K' hK => ?_⟩
      unfold dop
      rw [if_neg he]
      simp only [hc]
      exact h2 _ hK
theorem dops_ex {ops : List Oper} {effs frees : List Nat} {S : Nat → Bool} {K : ASt → Prop} : ∀ (l : List Oper) (i : Nat) {s : ASt}, dops P ops effs frees S K i l s → ∃ s', K s' ∧ ∀ K' : ASt → Prop, K' s' → dops P ops effs frees S K' i l s
  | [], i, s, h => ⟨s, h, fun K' hK => hK⟩
  | o :: r, i, s, h => by
    unfold dops at h
    have one : dop P (effs.contains i) (SF frees S i) o.dst o.op s (dops P ops effs frees S K (i + 1) r) → ∃ s', K s' ∧ ∀ K' : ASt → Prop, K' s' → dop P (effs.contains i) (SF frees S i) o.dst o.op s (dops P ops effs frees S K' (i + 1) r) := by
      intro h
      obtain ⟨s1, h1, h2⟩ := dop_ex h
      obtain ⟨s', h3, h4⟩ := dops_ex r (i + 1) h1
      exact ⟨s', h3, fun K' hK => h2 _ (h4 K' hK)⟩
    cases hg : o.guard with
    | none =>
      rw [hg] at h
      obtain ⟨s', h1, h2⟩ := one h
      refine ⟨s', h1, fun K' hK => ?_⟩
      unfold dops
      rw [hg]
      exact h2 K' hK
    | some jw =>
      obtain ⟨j, want⟩ := jw
      rw [hg] at h
      simp only at h
      cases hq : guardA ops s.tmps j want with
      | none => rw [hq] at h; exact h.elim
      | some b =>
        rw [hq] at h
        simp only at h
        cases b with
        | true =>
          obtain ⟨s', h1, h2⟩ := one (by simpa [AIf] using h)
          refine ⟨s', h1, fun K' hK => ?_⟩
          unfold dops
          simp only [hg, hq]
          simpa [AIf] using h2 K' hK
        | false =>
          obtain ⟨s', h1, h2⟩ := dops_ex r (i + 1) (by simpa [AIf] using h)
          refine ⟨s', h1, fun K' hK => ?_⟩
          unfold dops
          simp only [hg, hq]
          simpa [AIf] using h2 K' hK
/-- The end of a walk. -/
def AtQ (e : AEx) (s : ASt) (Q : AEx → ASt → Prop) : Prop := Q e s
/-- One end: whatever holds of it is what the walk comes to. -/
theorem awp_ex : ∀ (c : Code) {Q : AEx → ASt → Prop} {s : ASt}, awp P c Q s → ∃ e s', Q e s' ∧ ∀ Q' : AEx → ASt → Prop, Q' e s' → awp P c Q' s
  | .skip, Q, s, h => ⟨.normal, s, h, fun Q' hq => hq⟩
  | .region id ops draw, Q, s, h => by
    unfold awp at h
    split at h
    · rename_i hd
      obtain ⟨effs, frees, S, h1, h2⟩ := h
      obtain ⟨s', h3, h4⟩ := dops_ex _ _ h2
      refine ⟨.normal, s', h3, fun Q' hq => ?_⟩
      unfold awp
      rw [if_pos hd]
      exact ⟨effs, frees, S, h1, h4 _ hq⟩
    · rename_i hd
      obtain ⟨s', h3, h4⟩ := aops_ex _ h
      refine ⟨.normal, s', h3, fun Q' hq => ?_⟩
      unfold awp
      rw [if_neg hd]
      exact h4 _ hq
  | .seq x y, Q, s, h => by
    unfold awp at h
    obtain ⟨e, s1, h1, h2⟩ := awp_ex x h
    cases e with
    | normal =>
      obtain ⟨e2, s2, h3, h4⟩ := awp_ex y h1
      exact ⟨e2, s2, h3, fun Q' hq => h2 _ (h4 Q' hq)⟩
    | exit id => exact ⟨.exit id, s1, h1, fun Q' hq => h2 (thenQ (awp P y Q') Q') hq⟩
    | ret => exact ⟨.ret, s1, h1, fun Q' hq => h2 (thenQ (awp P y Q') Q') hq⟩
  | .cond c x y, Q, s, h => by
    unfold awp at h
    unfold ACond at h
    split at h
    · rename_i b hb
      cases b with
      | true =>
        obtain ⟨e, s', h1, h2⟩ := awp_ex x (show awp P x Q s by simpa [AIf] using h)
        refine ⟨e, s', h1, fun Q' hq => ?_⟩
        unfold awp ACond
        rw [hb]
        simpa [AIf] using h2 Q' hq
      | false =>
        obtain ⟨e, s', h1, h2⟩ := awp_ex y (show awp P y Q s by simpa [AIf] using h)
        refine ⟨e, s', h1, fun Q' hq => ?_⟩
        unfold awp ACond
        rw [hb]
        simpa [AIf] using h2 Q' hq
    · exact h.elim
  | .block id x, Q, s, h => by
    unfold awp at h
    obtain ⟨e, s1, h1, h2⟩ := awp_ex x h
    cases e with
    | normal => exact ⟨.normal, s1, h1, fun Q' hq => h2 (blockQ id Q') hq⟩
    | ret => exact ⟨.ret, s1, h1, fun Q' hq => h2 (blockQ id Q') hq⟩
    | exit i =>
      by_cases hi : i = id
      · refine ⟨.normal, s1, by simpa [blockQ, hi] using h1, fun Q' hq => h2 (blockQ id Q') (by simpa [blockQ, hi] using hq)⟩
      · refine ⟨.exit i, s1, by simpa [blockQ, hi] using h1, fun Q' hq => h2 (blockQ id Q') (by simpa [blockQ, hi] using hq)⟩
  | .loop x, Q, s, h => by
    unfold awp at h
    obtain ⟨R, n0, ⟨s0, hw0, hR0⟩, hbody⟩ := h
    -- one end from each state of R
    have key : ∀ (N n : Nat) (s1 : ASt), n ≤ N → R s1 n → ∃ e s', Q e s' ∧ ∀ Q' : AEx → ASt → Prop, Q' e s' → ∃ (R' : ASt → Nat → Prop) (m : Nat), R' s1 m ∧
        ∀ s2 n', R' s2 n' → awp P x (fun e s3 => match e with | .normal => ∃ m, m < n' ∧ ∃ s0, Weak s3 s0 ∧ R' s0 m | e => Q' e s3) s2 := by
      intro N
      induction N with
      | zero =>
        intro n s1 hn hR
        obtain ⟨e, s2, h1, h2⟩ := awp_ex x (hbody s1 n hR)
        cases e with
        | normal => obtain ⟨m, hm, _⟩ := h1; omega
        | exit id => exact ⟨.exit id, s2, h1, fun Q' hq => ⟨fun z k => z = s1, 0, rfl, fun z k hz => by subst hz; exact h2 (fun e s3 => match e with | .normal => _ | e => Q' e s3) hq⟩⟩
        | ret => exact ⟨.ret, s2, h1, fun Q' hq => ⟨fun z k => z = s1, 0, rfl, fun z k hz => by subst hz; exact h2 (fun e s3 => match e with | .normal => _ | e => Q' e s3) hq⟩⟩
      | succ N ih =>
        intro n s1 hn hR
        obtain ⟨e, s2, h1, h2⟩ := awp_ex x (hbody s1 n hR)
        cases e with
        | normal =>
          obtain ⟨m, hm, s3, hw, hR3⟩ := h1
          obtain ⟨e', s', g1, g2⟩ := ih m s3 (by omega) hR3
          refine ⟨e', s', g1, fun Q' hq => ?_⟩
          obtain ⟨R', k, r1, r2⟩ := g2 Q' hq
          refine ⟨fun z j => (z = s1 ∧ j = k + 1) ∨ (R' z j ∧ j ≤ k), k + 1, .inl ⟨rfl, rfl⟩, fun z j hz => ?_⟩
          rcases hz with ⟨rfl, rfl⟩ | ⟨hz, hj⟩
          · exact h2 (fun e s3 => match e with | .normal => _ | e => Q' e s3) ⟨k, Nat.lt_succ_self _, s3, hw, .inr ⟨r1, Nat.le_refl _⟩⟩
          · obtain ⟨e4, s4, w1, w2⟩ := awp_ex x (r2 z j hz)
            refine w2 (fun e s3 => match e with | .normal => _ | e => Q' e s3) ?_
            cases e4 with
            | normal => obtain ⟨m4, hm4, s5, hw5, hR5⟩ := w1; exact ⟨m4, hm4, s5, hw5, .inr ⟨hR5, by omega⟩⟩
            | exit id => exact w1
            | ret => exact w1
        | exit id => exact ⟨.exit id, s2, h1, fun Q' hq => ⟨fun z k => z = s1, 0, rfl, fun z k hz => by subst hz; exact h2 (fun e s3 => match e with | .normal => _ | e => Q' e s3) hq⟩⟩
        | ret => exact ⟨.ret, s2, h1, fun Q' hq => ⟨fun z k => z = s1, 0, rfl, fun z k hz => by subst hz; exact h2 (fun e s3 => match e with | .normal => _ | e => Q' e s3) hq⟩⟩
    obtain ⟨e, s', h1, h2⟩ := key n0 n0 s0 (Nat.le_refl _) hR0
    refine ⟨e, s', h1, fun Q' hq => ?_⟩
    obtain ⟨R', m, r1, r2⟩ := h2 Q' hq
    unfold awp
    exact ⟨R', m, ⟨s0, hw0, r1⟩, r2⟩
  | .exit id, Q, s, h => ⟨.exit id, s, h, fun Q' hq => hq⟩
  | .ret, Q, s, h => ⟨.ret, s, h, fun Q' hq => hq⟩
  | .label .., Q, s, h => by unfold awp at h; exact h.elim
  | .goto .., Q, s, h => by unfold awp at h; exact h.elim
  | .refuse .., Q, s, h => by unfold awp at h; exact h.elim
theorem awp_mono (c : Code) {Q Q' : AEx → ASt → Prop} {s : ASt} (h : awp P c Q s) (hq : ∀ e s', Q e s' → Q' e s') : awp P c Q' s := by
  obtain ⟨e, s', h1, h2⟩ := awp_ex c h
  exact h2 Q' (hq e s' h1)
/-- Cut: what is asked behind the first part is told. -/
theorem awp_cut {a b : Code} {Q : AEx → ASt → Prop} {s : ASt} (R : ASt → Prop) (h : awp P a (thenQ R Q) s) (h2 : ∀ s', R s' → awp P b Q s') : awp P (.seq a b) Q s := by
  unfold awp
  refine awp_mono a h fun e s' hq => ?_
  cases e with
  | normal => exact h2 s' hq
  | exit id => exact hq
  | ret => exact hq
/-- A BODY GIVES A CONTRACT with its one result. -/
theorem dcall_of_body (hm : P.follows .mixedOrders = true) {f : FuncId} {fn : Func} {c : Code} {n : Nat} {rs : List ResultVar} (hf : P.funcs[f]? = some fn) (hb : fn.body = some c) (hn : fn.ntmps = n) (hrs : fn.results = rs.toArray)
    (hname : (fn.name == "runtime.NumGoroutine") = false) {args : List AV} {H : AH} {nx : Nat} {Q : AV → AH → Nat → Prop}
    (h : awp P c (bodyQ P rs Q) ⟨args ++ List.replicate (n - args.length) (.tup []), H, nx⟩) : ACallD P f args H nx Q := by
  obtain ⟨e, s', h1, h2⟩ := awp_ex c h
  have fin : ∃ l, resA P s'.H s'.tmps rs = some l ∧ l.1 ∧ Q (packA l.2) s'.H s'.nx := by
    cases e with
    | exit id => exact h1.elim
    | normal =>
      simp only [bodyQ] at h1
      split at h1
      · rename_i l hl; exact ⟨l, hl, h1.1, h1.2⟩
      · exact h1.elim
    | ret =>
      simp only [bodyQ] at h1
      split at h1
      · rename_i l hl; exact ⟨l, hl, h1.1, h1.2⟩
      · exact h1.elim
  obtain ⟨l, hl, hp, hq⟩ := fin
  refine ⟨_, _, _, call_of_body hm hf hb hn hrs hname (r := packA l.2) (H' := s'.H) (nx' := s'.nx) (h2 _ ?_), hq⟩
  cases e with
  | exit id => exact h1.elim
  | normal => simp only [bodyQ, hl]; exact ⟨hp, trivial, trivial, trivial⟩
  | ret => simp only [bodyQ, hl]; exact ⟨hp, trivial, trivial, trivial⟩
theorem dcall_body (hm : P.follows .mixedOrders = true) {f : FuncId} {fn : Func} (hf : P.funcs[f]? = some fn) (c : Code) (hb : fn.body = some c) {n : Nat} (hn : fn.ntmps = n) {rs : List ResultVar} (hrs : fn.results = rs.toArray)
    (hname : (fn.name == "runtime.NumGoroutine") = false) {args : List AV} {H : AH} {nx : Nat} {Q : AV → AH → Nat → Prop} (hl : args.length ≤ n)
    (h : awp P c (bodyQ P rs Q) ⟨initT n args, H, nx⟩) : ACallD P f args H nx Q :=
  dcall_of_body hm hf hb hn hrs hname (by rw [initT_eq n args hl]; exact h)
theorem ECallB.law {g : FuncId} {args : List AV} {s : ASt} {Q K : AV → AH → Nat → Prop} {w : Box K} (h : ACallD P g args s.H s.nx Q) (k : ∀ r H' nx', Q r H' nx' → K r H' nx') : ECallB P (.fn g []) args s K w :=
  ⟨by simp only [List.append_nil]; exact h.mono k⟩
end
end Go.TH
