/-
  TH, part 13: regions that draw their order: one canonical walk serves every order.
-/
import Derived.Test.YtbhibkochjfdfaaTh12
set_option linter.unusedVariables false
set_option linter.unusedSimpArgs false
namespace Go.TH
open Go

/-- What is seen of a heap when the places of S are hidden. -/
def maskH (S : Nat → Bool) (H : AH) : AH := fun i => if S i = true then .dead else H i

/-- A call whose answer hangs on no memory. -/
def QCall (P : Program) (f : FuncId) (args : List AV) (r : AV) : Prop := ∀ H nx, CallC P f args H nx r H nx

/-- Making memory that is only read. -/
def fstep (P : Program) (E : Operand → AV) (H : AH) : Op → Option (Prop × AV)
  | .buildSlice t len parts => (match tySl P t with
      | some (e, sz, _) => (match tyZ P e with
          | some z => if z.length = sz ∧ len * sz ≤ 16777216 then
              (fillB H sz (List.replicate len z).flatten (parts.toList.map fun x => (x.1, E x.2))).map fun cs => (True, .sl len true cs)
            else none
          | none => none)
      | none => none)
  | .makeSlice t l c => (match tySl P t, E l, E c with
      | some (e, sz, by'), .int _ l, .int _ c => (match tyZ P e with
          | some z => if z.length = sz then
              some (0 ≤ l ∧ l ≤ c ∧ c.toNat * by' ≤ 140737488355328 ∧ c ≤ 140737488355328, .sl l.toNat false (List.replicate l.toNat z).flatten)
            else none
          | none => none)
      | _, _, _ => none)
  | .convert src dst x => (match E x, tySl P dst with
      | .str s, some (e, _, _) => if tyInt P e = some .u8 ∧ (P.underlying src).isSome then some (s.size ≤ 140737488355328, .sl s.size false (bytesCells s)) else none
      | _, _ => none)
  | _ => none
def dstep (P : Program) (E : Operand → AV) (H : AH) (op : Op) : Option (Prop × AV) :=
  match qstep P E H op with
  | some x => some x
  | none => fstep P E H op

/-- One operation of a region that draws. -/
def dop (P : Program) (eff : Bool) (S : Nat → Bool) (dst : Option Tmp) (op : Op) (s : ASt) (K : ASt → Prop) : Prop :=
  if eff = true then aopD P dst op s (fun s' => maskH S s'.H = maskH S s.H ∧ K s')
  else match callV op with
    | some (f, args) => (match evA s.tmps f with
        | .fn g cap => ∃ q, QCall P g (args.map (evA s.tmps) ++ cap) q ∧ K ⟨putA s.tmps dst q, s.H, s.nx⟩
        | _ => False)
    | none => bindP (dstep P (evA s.tmps) (maskH S s.H) op) (fun q => K ⟨putA s.tmps dst q, s.H, s.nx⟩)
/-- An effect that is in order with all others needs no hiding. -/
def SF (frees : List Nat) (S : Nat → Bool) (i : Nat) : Nat → Bool := if frees.contains i = true then fun _ => true else S
def dops (P : Program) (ops : List Oper) (effs frees : List Nat) (S : Nat → Bool) (K : ASt → Prop) : Nat → List Oper → ASt → Prop
  | _, [], s => K s
  | i, o :: r, s =>
    match o.guard with
    | none => dop P (effs.contains i) (SF frees S i) o.dst o.op s (dops P ops effs frees S K (i + 1) r)
    | some (j, want) =>
      match guardA ops s.tmps j want with
      | some b => AIf b (dop P (effs.contains i) (SF frees S i) o.dst o.op s (dops P ops effs frees S K (i + 1) r)) (dops P ops effs frees S K (i + 1) r ⟨putA s.tmps o.dst (.tup []), s.H, s.nx⟩)
      | none => False

/-! ### The order: what waits for what -/
def ancL : List Oper → List Nat → List Nat
  | [], acc => acc
  | o :: r, acc => ancL r (acc ++ [o.after.toList.foldl (fun s e => if Region.binds .any e then s ||| 2 ^ e.on ||| acc.getD e.on 0 else s) 0])
def backward (ops : List Oper) : Bool := ops.zipIdx.all fun x => x.1.after.toList.all fun e => !Region.binds .any e || decide (e.on < x.2)
def conflict (ops : Array Oper) (x y : Oper) : Bool :=
  (match x.dst with | some d => (y.looksAt ops).contains d || y.dst == some d | none => false) ||
  (match y.dst with | some d => (x.looksAt ops).contains d | none => false)
def drawOk (ops : List Oper) (effs frees : List Nat) : Bool :=
  let anc := ancL ops []
  let arr := ops.toArray
  backward ops && Region.noSelect arr && frees.all effs.contains &&
  ops.zipIdx.all fun x => ops.zipIdx.all fun y => !(decide (x.2 < y.2)) || (anc.getD y.2 0).testBit x.2 || (!conflict arr x.1 y.1 && !(effs.contains x.2 && effs.contains y.2) && !frees.contains x.2 && !frees.contains y.2)
def ADraw (P : Program) (ops : List Oper) (K : ASt → Prop) (s : ASt) : Prop :=
  ∃ (effs frees : List Nat) (S : Nat → Bool), drawOk ops effs frees = true ∧ dops P ops effs frees S K 0 ops s

/-! ### Soundness -/
/-- 'i' comes before 'j' in every order: 'listed' holds what 'j' waits for, and what that waits for. -/
inductive Anc (ops : List Oper) : Nat → Nat → Prop
  | one {i j : Nat} {o : Oper} {e : Edge} (ho : ops[j]? = some o) (he : e ∈ o.after.toList) (hb : Region.binds .any e = true) (h : e.on = i) : Anc ops i j
  | more {i j k : Nat} {o : Oper} {e : Edge} (ho : ops[j]? = some o) (he : e ∈ o.after.toList) (hb : Region.binds .any e = true) (h : e.on = k) (hk : Anc ops i k) : Anc ops i j

theorem foldl_bit (acc : List Nat) (i : Nat) : ∀ (es : List Edge) (s : Nat), (es.foldl (fun s e => if Region.binds .any e then s ||| 2 ^ e.on ||| acc.getD e.on 0 else s) s).testBit i = true →
    s.testBit i = true ∨ ∃ e ∈ es, Region.binds .any e = true ∧ (e.on = i ∨ (acc.getD e.on 0).testBit i = true)
  | [], s, h => .inl h
  | e :: es, s, h => by
    rw [List.foldl_cons] at h
    rcases foldl_bit acc i es _ h with h | ⟨e', h1, h2, h3⟩
    · split at h
      · rename_i hb
        rw [Nat.testBit_or, Nat.testBit_or] at h
        simp only [Bool.or_eq_true] at h
        rcases h with (h | h) | h
        · exact .inl h
        · right
          refine ⟨e, by simp, hb, .inl ?_⟩
          rw [Nat.testBit_two_pow] at h
          simpa using h
        · exact .inr ⟨e, by simp, hb, .inr h⟩
      · exact .inl h
    · exact .inr ⟨e', by simp [h1], h2, h3⟩
theorem ancL_get (ops : List Oper) : ∀ (l : List Oper) (acc : List Nat), (∀ k, l[k]? = ops[acc.length + k]?) → (∀ i j, (acc.getD j 0).testBit i = true → Anc ops i j) →
    ∀ i j, ((ancL l acc).getD j 0).testBit i = true → Anc ops i j
  | [], acc, hl, ha, i, j, h => ha i j h
  | o :: l, acc, hl, ha, i, j, h => by
    refine ancL_get ops l _ (fun k => ?_) (fun i j hj => ?_) i j h
    · have := hl (k + 1)
      simp only [List.length_append, List.length_cons, List.length_nil]
      rw [show acc.length + (0 + 1) + k = acc.length + (k + 1) by omega, ← this]
      simp
    · have h0 : ops[acc.length]? = some o := by simpa using (hl 0).symm
      rcases Nat.lt_trichotomy j acc.length with hj1 | hj1 | hj1
      · apply ha i j
        simpa [List.getD, List.getElem?_append_left hj1] using hj
      · subst hj1
        have : ((acc ++ [o.after.toList.foldl (fun s e => if Region.binds .any e then s ||| 2 ^ e.on ||| acc.getD e.on 0 else s) 0]).getD acc.length 0).testBit i = true := hj
        simp only [List.getD, List.getElem?_append_right (Nat.le_refl _), Nat.sub_self, List.getElem?_cons_zero, Option.getD_some] at this
        rcases foldl_bit acc i _ 0 this with h | ⟨e, h1, h2, h3⟩
        · simp at h
        · rcases h3 with h3 | h3
          · exact .one h0 h1 h2 h3
          · exact .more h0 h1 h2 rfl (ha i _ h3)
      · have : (acc ++ [o.after.toList.foldl (fun s e => if Region.binds .any e then s ||| 2 ^ e.on ||| acc.getD e.on 0 else s) 0]).getD j 0 = 0 := by
          simp only [List.getD]
          rw [List.getElem?_eq_none (by simp; omega)]
          rfl
        rw [this] at hj
        simp at hj
/-- What is listed is closed. -/
def Closed (ops : List Oper) (listed : Array Bool) : Prop := ∀ (j : Nat) (o : Oper), ops[j]? = some o → listed.getD j false = true → ∀ e ∈ o.after.toList, Region.binds .any e = true → listed.getD e.on false = true
theorem Anc.listed {ops : List Oper} {listed : Array Bool} (hc : Closed ops listed) {i j : Nat} (h : Anc ops i j) : listed.getD j false = true → listed.getD i false = true := by
  induction h with
  | one ho he hb h => intro hj; rw [← h]; exact hc _ _ ho hj _ he hb
  | more ho he hb h hk ih => intro hj; apply ih; rw [← h]; exact hc _ _ ho hj _ he hb
theorem Anc.ready {ops : List Oper} {listed : Array Bool} (hc : Closed ops listed) {i j : Nat} (h : Anc ops i j) (hr : j ∈ Region.ready .any ops.toArray listed) : listed.getD i false = true := by
  obtain ⟨hjun, oj, hoj, hall⟩ := mem_ready.1 hr
  have hoj' : ops[j]? = some oj := by simpa using hoj
  have key : ∀ e ∈ oj.after.toList, Region.binds .any e = true → listed.getD e.on false = true := fun e he hb => hall e (by simpa using he) hb
  cases h with
  | one ho he hb h =>
    rw [hoj'] at ho
    cases ho
    rw [← h]
    exact key _ he hb
  | more ho he hb h hk =>
    rw [hoj'] at ho
    cases ho
    exact hk.listed hc (by rw [← h]; exact key _ he hb)
end Go.TH
