/-
  TH, part 12: what a piece of code comes to, on abstract states.
-/
import Derived.Test.YtbhibkochjfdfaaTh11
import Derived.Tactics
set_option linter.unusedVariables false
set_option linter.unusedSimpArgs false
namespace Go.TH
open Go

structure ASt where
  tmps : List AV
  H : AH
  nx : Nat

def evA (tmps : List AV) : Operand → AV
  | .tmp t => tmps.getD t .junk
  | .const v => cstA v
  | .func f => .fn f []
  | .global _ => .junk
def putA (tmps : List AV) (dst : Option Tmp) (a : AV) : List AV :=
  match dst with
  | some d => tmps.set d a
  | none => tmps

/-- A function can be entered. -/
def Enters (P : Program) (f : FuncId) : Prop := ∃ fn, P.funcs[f]? = some fn ∧ (fn.name == "runtime.NumGoroutine") = false ∧ fn.body.isNone = false

/-- A CONTRACT: called on arguments that stand for 'args', the function returns what stands for 'r', and leaves 'H''. -/
def CallC (P : Program) (f : FuncId) (args : List AV) (H : AH) (nx : Nat) (r : AV) (H' : AH) (nx' : Nat) : Prop :=
  Enters P f ∧ ∀ (base : Nat) (κ : Cx) (vs : List Value), Inv base κ H nx → Reps κ vs args →
    Calls P f vs.toArray κ.W fun e W' => ∃ v κ', e = .returned v ∧ κ'.W = W' ∧ Rep κ'.W κ'.M κ'.F v r ∧ Ext base κ κ' ∧ Inv base κ' H' nx'
/-- What comes back, by a law. -/
def ACall (P : Program) (f : FuncId) (args : List AV) (H : AH) (nx : Nat) (Q : AV → AH → Nat → Prop) : Prop :=
  Enters P f ∧ ∀ (base : Nat) (κ : Cx) (vs : List Value), Inv base κ H nx → Reps κ vs args →
    Calls P f vs.toArray κ.W fun e W' => ∃ r H' nx', Q r H' nx' ∧ ∃ v κ', e = .returned v ∧ κ'.W = W' ∧ Rep κ'.W κ'.M κ'.F v r ∧ Ext base κ κ' ∧ Inv base κ' H' nx'
abbrev CallQ := @ACall
/-- One result, told beforehand. -/
def ACallD (P : Program) (f : FuncId) (args : List AV) (H : AH) (nx : Nat) (K : AV → AH → Nat → Prop) : Prop :=
  ∃ r H' nx', CallC P f args H nx r H' nx' ∧ K r H' nx'
theorem ACallD.toA {P : Program} {f : FuncId} {args : List AV} {H : AH} {nx : Nat} {K : AV → AH → Nat → Prop} (h : ACallD P f args H nx K) : ACall P f args H nx K := by
  obtain ⟨r, H', nx', h, k⟩ := h
  exact ⟨h.1, fun base κ vs hi hr => (h.2 base κ vs hi hr).mono fun e W' h => ⟨r, H', nx', k, h⟩⟩
theorem ACallD.mono {P : Program} {f : FuncId} {args : List AV} {H : AH} {nx : Nat} {K K' : AV → AH → Nat → Prop} (h : ACallD P f args H nx K) (hk : ∀ r H' nx', K r H' nx' → K' r H' nx') : ACallD P f args H nx K' := by
  obtain ⟨r, H', nx', h, k⟩ := h
  exact ⟨r, H', nx', h, hk _ _ _ k⟩
theorem ACall.mono {P : Program} {f : FuncId} {args : List AV} {H : AH} {nx : Nat} {K K' : AV → AH → Nat → Prop} (h : ACall P f args H nx K) (hk : ∀ r H' nx', K r H' nx' → K' r H' nx') : ACall P f args H nx K' :=
  ⟨h.1, fun base κ vs hi hr => (h.2 base κ vs hi hr).mono fun e W' ⟨r, H', nx', k, h⟩ => ⟨r, H', nx', hk _ _ _ k, h⟩⟩
def bindP {α : Type} (x : Option (Prop × α)) (k : α → Prop) : Prop :=
  match x with
  | some (p, a) => p ∧ k a
  | none => False

def astep (P : Program) (E : Operand → AV) (H : AH) (nx : Nat) (op : Op) : Option (Prop × AV × AH × Nat) :=
  match qstep P E H op with
  | some (p, r) => some (p, r, H, nx)
  | none => hstep P E H nx op

def callV : Op → Option (Operand × List Operand)
  | .call c => (match c.callee with | .value f => some (f, c.args.toList) | _ => none)
  | _ => none

def aop (P : Program) (dst : Option Tmp) (op : Op) (s : ASt) (K : ASt → Prop) : Prop :=
  match callV op with
  | some (f, args) => (match evA s.tmps f with
      | .fn g cap => ACallD P g (args.map (evA s.tmps) ++ cap) s.H s.nx (fun r H' nx' => K ⟨putA s.tmps dst r, H', nx'⟩)
      | _ => False)
  | none => bindP (astep P (evA s.tmps) s.H s.nx op) (fun x => K ⟨putA s.tmps dst x.1, x.2.1, x.2.2⟩)

/-- The same, each call with its one result. -/
def aopD (P : Program) (dst : Option Tmp) (op : Op) (s : ASt) (K : ASt → Prop) : Prop :=
  match callV op with
  | some (f, args) => (match evA s.tmps f with
      | .fn g cap => ACallD P g (args.map (evA s.tmps) ++ cap) s.H s.nx (fun r H' nx' => K ⟨putA s.tmps dst r, H', nx'⟩)
      | _ => False)
  | none => bindP (astep P (evA s.tmps) s.H s.nx op) (fun x => K ⟨putA s.tmps dst x.1, x.2.1, x.2.2⟩)
theorem aopD_eq {P : Program} {dst : Option Tmp} {op : Op} {s : ASt} {K : ASt → Prop} (h : callV op = none) : aopD P dst op s K = aop P dst op s K := by
  unfold aopD aop
  rw [h]
def AIf (b : Bool) (A B : Prop) : Prop := if b = true then A else B

/-- Is the operation wanted? -/
def guardA (ops : List Oper) (tmps : List AV) (j : Nat) (want : Bool) : Option Bool :=
  match ((ops[j]?).bind (·.dst)).bind (tmps[·]?) with
  | some (.bool b) => some (b == want)
  | some (.tup _) => some false
  | none => some false
  | _ => none

def aops (P : Program) (ops : List Oper) (K : ASt → Prop) : List Oper → ASt → Prop
  | [], s => K s
  | o :: r, s =>
    match o.guard with
    | none => aop P o.dst o.op s (aops P ops K r)
    | some (j, want) =>
      match guardA ops s.tmps j want with
      | some b => AIf b (aop P o.dst o.op s (aops P ops K r)) (aops P ops K r ⟨putA s.tmps o.dst (.tup []), s.H, s.nx⟩)
      | none => False

inductive AEx where
  | normal
  | exit (id : Nat)
  | ret
def AEx.ex : AEx → Exit
  | .normal => .normal
  | .exit id => .exit id
  | .ret => .ret

def thenQ (next : ASt → Prop) (Q : AEx → ASt → Prop) : AEx → ASt → Prop
  | .normal, s => next s
  | e, s => Q e s
def blockQ (id : Nat) (Q : AEx → ASt → Prop) : AEx → ASt → Prop
  | .exit i, s => if i = id then Q .normal s else Q (.exit i) s
  | e, s => Q e s
/-- A state of which less is known. -/
def wkL : List AV → List AV → Prop
  | [], [] => True
  | a :: l, b :: l' => (b = .junk ∨ a = b) ∧ wkL l l'
  | _, _ => False
def ACond (a : AV) (A B : Prop) : Prop :=
  match a with
  | .bool b => AIf b A B
  | _ => False

/-! ### Soundness -/
def RepT (κ : Cx) (tmps : Array Value) (as : List AV) : Prop := Reps κ tmps.toList as
structure St (base : Nat) (κ : Cx) (a : Act) (s : ASt) : Prop where
  inv : Inv base κ s.H s.nx
  tmps : Reps κ a.tmps.toList s.tmps
  defers : a.defers = []

def Weak0 (s s0 : ASt) : Prop := wkL s.tmps s0.tmps ∧ (∀ id, s0.H id = s.H id ∨ s0.H id = .dead) ∧ s.nx ≤ s0.nx
theorem wkL_reps {κ : Cx} : ∀ {vs : List Value} {l l' : List AV}, wkL l l' → Reps κ vs l → Reps κ vs l'
  | vs, [], [], _, h => h
  | vs, [], _ :: _, hw, h => hw.elim
  | vs, _ :: _, [], hw, h => hw.elim
  | vs, a :: l, b :: l', hw, h => by
    obtain ⟨v, vs2, rfl, h1, h2⟩ := h.uncons
    refine Reps.cons ?_ (wkL_reps hw.2 h2)
    rcases hw.1 with rfl | rfl
    · exact .junk v
    · exact h1
theorem St.weak {base : Nat} {κ : Cx} {a : Act} {s s0 : ASt} (h : St base κ a s) (hw : Weak0 s s0) : St base κ a s0 := by
  refine ⟨⟨h.inv.hF, h.inv.hbase, fun id hid => h.inv.hM id (Nat.le_trans hw.2.2 hid), fun id ver cells hl => ?_, fun i j ei ej b hij h1 h2 h3 h4 => ?_⟩, wkL_reps hw.1 h.tmps, h.defers⟩
  · rcases hw.2.1 id with he | he
    · exact h.inv.live id ver cells (he ▸ hl)
    · rw [he] at hl; cases hl
  · rcases hw.2.1 i with he | he
    · rcases hw.2.1 j with he2 | he2
      · rw [he, he2]; exact h.inv.inj i j ei ej b hij h1 h2 h3 h4
      · exact .inr he2
    · exact .inl he
/-- Whatever bears the first state bears the second one, too, perhaps under other names. -/
def Weak (s s0 : ASt) : Prop := ∀ (base : Nat) (κ : Cx) (a : Act), St base κ a s → ∃ κ', κ'.W = κ.W ∧ St base κ' a s0 ∧ Ext base κ κ'
theorem Weak0.toW {s s0 : ASt} (h : Weak0 s s0) : Weak s s0 := fun base κ a hs => ⟨κ, rfl, hs.weak h, .refl _ _⟩
theorem Weak.trans {a b c : ASt} (h : Weak a b) (k : Weak b c) : Weak a c := fun base κ act hs => by
  obtain ⟨κ1, h1, h2, h3⟩ := h base κ act hs
  obtain ⟨κ2, k1, k2, k3⟩ := k base κ1 act h2
  exact ⟨κ2, k1.trans h1, k2, h3.trans k3⟩
def ALoop (body : (AEx → ASt → Prop) → ASt → Prop) (Q : AEx → ASt → Prop) (s : ASt) : Prop :=
  ∃ (R : ASt → Nat → Prop) (n : Nat), (∃ s0, Weak s s0 ∧ R s0 n) ∧ ∀ s' n', R s' n' → body (fun e s2 => match e with | .normal => ∃ m, m < n' ∧ ∃ s0, Weak s2 s0 ∧ R s0 m | e => Q e s2) s'
theorem evA_rep {base : Nat} {κ : Cx} {a : Act} {s : ASt} (h : St base κ a s) (x : Operand) : Rep κ.W κ.M κ.F (a.eval x) (evA s.tmps x) := by
  cases x with
  | tmp t =>
    unfold evA Act.eval
    by_cases ht : t < s.tmps.length
    · have h0 : s.tmps[t]? = some s.tmps[t] := List.getElem?_eq_getElem ht
      obtain ⟨v, hv, hr⟩ := h.tmps.at h0
      have : a.tmps[t]? = some v := by simpa using hv
      simp only [List.getD, h0, Option.getD_some, Array.getD_eq_getD_getElem?, this]
      exact hr
    · simp only [List.getD, List.getElem?_eq_none (Nat.le_of_not_lt ht), Option.getD_none]
      exact .junk _
  | const v => exact cstA_rep κ v
  | func f => exact .fn f [] [] rfl (fun j v a h => by simp at h)
  | global g => exact .junk _
theorem put_rep {κ : Cx} {a : Act} {as : List AV} (h : Reps κ a.tmps.toList as) (dst : Option Tmp) {v : Value} {r : AV} (hr : Rep κ.W κ.M κ.F v r) : Reps κ (a.put dst v).tmps.toList (putA as dst r) := by
  cases dst with
  | none => exact h
  | some d =>
    simp only [Act.put, putA, Array.toList_setIfInBounds]
    exact h.set d hr
theorem put_defers (a : Act) (dst : Option Tmp) (v : Value) : (a.put dst v).defers = a.defers := by cases dst <;> rfl

/-- What a step must show: behind it a state that is met. -/
def Post (base : Nat) (κ : Cx) (K : ASt → Prop) (a' : Act) (W' : World) : Prop := ∃ s' κ', κ'.W = W' ∧ St base κ' a' s' ∧ Ext base κ κ' ∧ K s'

theorem callFunc_run {P : Program} {f : FuncId} (h : Enters P f) (args : Array Value) (W : World) : (callFunc f args).run P W = .ok (.enter f args) W := by
  obtain ⟨fn, h1, h2, h3⟩ := h
  simp only [callFunc, Sem.run_bind, run_program, Result.andThen_ok, h1, h2, Bool.false_eq_true, if_false, h3, Sem.run_pure]

theorem aop_sound {P : Program} {o : Oper} {s : ASt} {K : ASt → Prop} (h : aop P o.dst o.op s K) {base : Nat} {κ : Cx} {a : Act} (hs : St base κ a s) {Q : Exit → Act → World → Prop} :
    o.wp P a κ.W (fun a' W' => Post base κ K a' W') Q := by
  unfold aop at h
  split at h
  · rename_i f args hc
    unfold callV at hc
    split at hc
    · rename_i c hop
      split at hc
      · rename_i f' hcal
        cases hc
        split at h
        · rename_i g cap hf
          obtain ⟨hent, hcall⟩ := ACallD.toA h
          have hfv := evA_rep hs f
          rw [hf] at hfv
          obtain ⟨cvs, hfe, hcr⟩ := hfv.fn_inv
          have hargs : Reps κ (c.args.toList.map a.eval) (c.args.toList.map (evA s.tmps)) := reps_map _ (fun x _ => evA_rep hs x)
          have hall := hcall base κ (c.args.toList.map a.eval ++ cvs) hs.inv (hargs.append hcr)
          have hrun : (execOp a.eval o).run P κ.W = .ok (.enter g (c.args.toList.map a.eval ++ cvs).toArray) κ.W := by
            have harr : c.args.map a.eval ++ cvs.toArray = (c.args.toList.map a.eval ++ cvs).toArray := by
              apply Array.ext'
              simp
            simp only [execOp, hop, resolve, hcal, Deferred.ofValue, hfe, Sem.run_bind, Sem.run_pure, Result.andThen_ok, invoke, Array.empty_append, harr]
            exact callFunc_run hent _ κ.W
          unfold Oper.wp
          rw [hrun]
          simp only [Oper.upon]
          refine hall.mono ?_
          rintro e W' ⟨r, H', nx', hK, v, κ', rfl, rfl, hr, hext, hinv⟩
          exact ⟨⟨putA s.tmps o.dst r, H', nx'⟩, κ', rfl, ⟨hinv, put_rep (hs.tmps.ev hext.ev) o.dst hr, by rw [put_defers]; exact hs.defers⟩, hext, hK⟩
        · exact h.elim
      · cases hc
    · cases hc
  · unfold bindP at h
    split at h
    · rename_i p x hst
      obtain ⟨r, H', nx'⟩ := x
      obtain ⟨hp, hK⟩ := h
      have hok : HOk P o (evA s.tmps) s.H s.nx p r H' nx' := by
        unfold astep at hst
        split at hst
        · rename_i p' r' hq
          cases hst
          exact HOk.of_quiet (qstep_sound hq)
        · exact hstep_sound hst
      obtain ⟨κ', q, v, hrun, hq, hr, hext, hinv⟩ := hok hp hs.inv (fun x _ => evA_rep hs x)
      have fin : Post base κ K (a.put o.dst v) κ'.W := ⟨⟨putA s.tmps o.dst r, H', nx'⟩, κ', rfl, ⟨hinv, put_rep (hs.tmps.ev hext.ev) o.dst hr, by rw [put_defers]; exact hs.defers⟩, hext, hK⟩
      unfold Oper.wp
      rw [hrun]
      rcases hq with rfl | ⟨rfl, rfl⟩
      · exact fin
      · exact fin
    · exact h.elim

theorem guardA_spec {ops : List Oper} {base : Nat} {κ : Cx} {a : Act} {s : ASt} (hs : St base κ a s) {j : Nat} {want b : Bool} (h : guardA ops s.tmps j want = some b) {o : Oper} (hg : o.guard = some (j, want)) :
    Region.wanted o (yielded ops.toArray a.tmps) = b := by
  unfold guardA at h
  simp only [Region.wanted, hg, yielded, List.getElem?_toArray]
  have hlen := hs.tmps.1
  split at h
  · rename_i q hq
    cases h
    obtain ⟨d, hd, hdt⟩ := Option.bind_eq_some_iff.1 hq
    obtain ⟨v, hv, hr⟩ := hs.tmps.at hdt
    have hv' : a.tmps[d]? = some v := by simpa using hv
    obtain rfl := hr.bool_inv
    simp [hd, hv']
  · rename_i as hq
    cases h
    obtain ⟨d, hd, hdt⟩ := Option.bind_eq_some_iff.1 hq
    obtain ⟨v, hv, hr⟩ := hs.tmps.at hdt
    have hv' : a.tmps[d]? = some v := by simpa using hv
    obtain ⟨vs, rfl, _⟩ := hr.tup_inv
    simp [hd, hv']
  · rename_i hq
    cases h
    cases hd : (ops[j]?).bind (·.dst) with
    | none => simp [hd]
    | some d =>
      rw [hd] at hq
      simp only [Option.bind_some] at hq
      have : a.tmps[d]? = none := by
        have h1 : s.tmps.length ≤ d := List.getElem?_eq_none_iff.1 hq
        apply Array.getElem?_eq_none
        simp at hlen
        omega
      simp [hd, this]
  · cases h

theorem aops_sound {P : Program} {ops : List Oper} {K : ASt → Prop} {Q : Exit → Act → World → Prop} : ∀ (l : List Oper) {s : ASt}, aops P ops K l s → ∀ {base : Nat} {κ : Cx} {a : Act}, St base κ a s →
    (∀ a' W', Post base κ K a' W' → Q .normal a' W') → wpList P ops.toArray Q l a κ.W
  | [], s, h, base, κ, a, hs, hQ => hQ a κ.W ⟨s, κ, rfl, hs, .refl _ _, h⟩
  | o :: l, s, h, base, κ, a, hs, hQ => by
    -- the operation is carried out
    have run : aop P o.dst o.op s (aops P ops K l) → o.wp P a κ.W (wpList P ops.toArray Q l) Q := by
      intro h1
      refine Oper.wp_mono (fun a' W' hp => ?_) (aop_sound h1 hs)
      obtain ⟨s', κ', rfl, hs', hext, hK⟩ := hp
      exact aops_sound l hK hs' (fun a2 W2 ⟨s2, κ2, h1, h2, h3, h4⟩ => hQ a2 W2 ⟨s2, κ2, h1, h2, hext.trans h3, h4⟩)
    unfold aops at h
    split at h
    · rename_i hg
      have hw : Region.wanted o (yielded ops.toArray a.tmps) = true := by simp [Region.wanted, hg]
      unfold wpList
      rw [if_pos hw]
      exact .inl (run h)
    · rename_i j want hg
      split at h
      · rename_i b hb
        have hw := guardA_spec hs hb hg
        unfold wpList
        rw [hw]
        unfold AIf at h
        cases b with
        | true => simp only [if_true] at h ⊢; exact .inl (run h)
        | false =>
          simp only [Bool.false_eq_true, if_false] at h ⊢
          refine aops_sound l h ⟨hs.inv, put_rep hs.tmps o.dst (.tup [] [] rfl (fun j v a h => by simp at h)), by rw [put_defers]; exact hs.defers⟩ hQ
      · exact h.elim
end Go.TH
