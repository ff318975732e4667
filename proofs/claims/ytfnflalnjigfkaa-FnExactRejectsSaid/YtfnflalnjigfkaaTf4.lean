/- The framework of this proof, part 4: abstract values and what they stand for in a world. -/
import Derived.Test.YtfnflalnjigfkaaTf3
/-
  TH, part 50: what an expression must be, plain.
-/
set_option linter.unusedVariables false
set_option linter.unusedSimpArgs false
namespace Go.TH
open Go
structure GFt where
  no : Bool
  nt : Bool
  nf : Bool
def zF : GFt := ⟨false, false, false⟩
def GFt.c (v : GFt) : List AV := [.bool v.no, .bool v.nt, .bool v.nf]
@[simp] theorem GFt.len (v : GFt) : (GFt.c v).length = 3 := rfl
@[simp] theorem GFt.pure (v : GFt) : pureL (GFt.c v) = true := rfl
@[go_sem] theorem GFt.flen (l : List GFt) : (flat GFt.c l).length = l.length * 3 := flat_len GFt.len l
@[go_sem] theorem GFt.fat {l : List GFt} {i : Nat} (h : i < l.length) : (flat GFt.c l).drop (i * 3) = .bool l[i].no :: .bool l[i].nt :: .bool l[i].nf :: flat GFt.c (l.drop (i + 1)) := flat_at GFt.len h
@[go_sem] theorem GFt.keepL {nx d : Nat} {L : List (Nat × Nat)} {H : AH} {l : List GFt} : (flat GFt.c l).map (keepA nx L H d) = flat GFt.c l := map_keep (flat_pure GFt.pure l)
@[go_sem] theorem GFt.snapL {d : Nat} {H : AH} {l : List GFt} : (flat GFt.c l).map (snapA d H) = flat GFt.c l := map_snap d H (flat_pure GFt.pure l)
@[go_sem] theorem GFt.takeL {l : List GFt} : (flat GFt.c l).take (l.length * 3) = flat GFt.c l := takeAll (by rw [flat_len GFt.len]; omega)
def factsA (l : List GFt) : AV := .sl l.length false (flat GFt.c l)
@[simp] theorem factsA_pure (l : List GFt) : pureA (factsA l) = true := by simp [factsA, pureA, flat_pure GFt.pure]
theorem GFt.at {l : List GFt} {i j : Nat} (h : i < l.length) (hj : j < 3) : (flat GFt.c l).getD (i * 3 + j) .junk = (GFt.c (l.getD i zF)).getD j .junk := by
  have e : (flat GFt.c l).getD (i * 3 + j) .junk = ((flat GFt.c l).drop (i * 3)).getD j .junk := by simp [List.getD, List.getElem?_drop]
  have e2 : l.getD i zF = l[i] := by simp [List.getD, h]
  rw [e, e2, flat_at GFt.len h]
  match j, hj with
  | 0, _ => rfl
  | 1, _ => rfl
  | 2, _ => rfl
theorem GFt.at0 {l : List GFt} {i : Nat} (h : i < l.length) : (flat GFt.c l).getD (i * 3) .junk = .bool (l.getD i zF).no := GFt.at (j := 0) h (by omega)
theorem GFt.at1 {l : List GFt} {i : Nat} (h : i < l.length) : (flat GFt.c l).getD (i * 3 + 1) .junk = .bool (l.getD i zF).nt := GFt.at (j := 1) h (by omega)
theorem GFt.at2 {l : List GFt} {i : Nat} (h : i < l.length) : (flat GFt.c l).getD (i * 3 + 2) .junk = .bool (l.getD i zF).nf := GFt.at (j := 2) h (by omega)
theorem GFt.snoc (l : List GFt) (a b c : Bool) : flat GFt.c l ++ [.bool a, .bool b, .bool c] = flat GFt.c (l ++ [⟨a, b, c⟩]) := by rw [flat_append]; rfl
theorem GFt.take (l : List GFt) (k : Nat) : (flat GFt.c l).take (k * 3) = flat GFt.c (l.take k) := flat_take GFt.len l k
/-- What a part finds. -/
def findF (p : GPt) (fr : Int) (l : List GFt) : GFt :=
  if p.k = 1 then ⟨false, decide (p.v.k = 3) && decide (p.v.n = 0), decide (p.v.k = 3) && decide (p.v.n = 1)⟩
  else if p.k = 2 then ⟨decide (fr ≤ p.n), decide (fr ≤ p.n), decide (fr ≤ p.n)⟩
  else if p.k = 3 ∨ p.k = 4 then ⟨(l.getD 0 zF).no || (l.getD 1 zF).no, (l.getD 0 zF).no || (l.getD 1 zF).no, (l.getD 0 zF).no || (l.getD 1 zF).no⟩
  else if p.k = 5 then ⟨((l.getD 0 zF).nt || (l.getD 1 zF).nt) && ((l.getD 0 zF).nf && (l.getD 1 zF).nf), (l.getD 0 zF).nt || (l.getD 1 zF).nt, (l.getD 0 zF).nf && (l.getD 1 zF).nf⟩
  else if p.k = 6 then ⟨((l.getD 0 zF).nt && (l.getD 1 zF).nt) && ((l.getD 0 zF).nf || (l.getD 1 zF).nf), (l.getD 0 zF).nt && (l.getD 1 zF).nt, (l.getD 0 zF).nf || (l.getD 1 zF).nf⟩
  else if p.k = 7 then ⟨(l.getD 0 zF).no, (l.getD 0 zF).nf, (l.getD 0 zF).nt⟩
  else ⟨false, false, (l.getD 0 zF).no⟩
def stepF (fr : Int) (fs : List GFt) (p : GPt) : List GFt := fs.take (fs.length - pTakes p) ++ [findF p fr (fs.drop (fs.length - pTakes p))]
def runF (fr : Int) (e : List GPt) : List GFt := e.foldl (stepF fr) []
theorem runF_succ {fr : Int} {e : List GPt} {k : Nat} (h : k < e.length) : runF fr (e.take (k + 1)) = stepF fr (runF fr (e.take k)) e[k] := by
  unfold runF
  rw [List.take_succ_eq_append_getElem h, List.foldl_append]
  rfl
noncomputable def rejects (cols : List GCol) (e : List GPt) (fr : Int) : Bool := decide (exprKind cols e = 3) && ((runF fr e).getD 0 zF).nt
theorem stepF_len {fr : Int} {fs : List GFt} {p : GPt} (h : pTakes p ≤ fs.length) : (stepF fr fs p).length + pTakes p = fs.length + 1 := by
  unfold stepF
  simp
  omega
theorem runK_take {cols : List GCol} {e : List GPt} {st' : List Int} (h : runK cols e [] = some st') (k : Nat) : ∃ st, runK cols (e.take k) [] = some st := by
  cases h2 : runK cols (e.take k) [] with
  | none => rw [runK_dead k h2] at h; cases h
  | some s => exact ⟨s, rfl⟩
theorem stepK_some {cols : List GCol} {st st' : List Int} {p : GPt} (h : stepK cols st p = some st') : pTells cols p ∧ pTakes p ≤ st.length ∧ st'.length + pTakes p = st.length + 1 := by
  rw [stepK_eq] at h
  by_cases c : pTells cols p ∧ pTakes p ≤ st.length ∧ (pKind cols p (st.drop (st.length - pTakes p))).2 = true
  · rw [if_pos c] at h
    obtain rfl := Option.some.inj h
    refine ⟨c.1, c.2.1, ?_⟩
    have := c.2.1
    simp
    omega
  · rw [if_neg c] at h; cases h
theorem run_len {cols : List GCol} {e : List GPt} {fr : Int} {st' : List Int} (h : runK cols e [] = some st') : ∀ k, k ≤ e.length → ∃ st, runK cols (e.take k) [] = some st ∧ (runF fr (e.take k)).length = st.length ∧ st.length ≤ k
  | 0, _ => ⟨[], rfl, rfl, Nat.le_refl _⟩
  | k + 1, hk => by
    obtain ⟨st, h1, h2, h3⟩ := run_len (fr := fr) h k (by omega)
    obtain ⟨s2, h4⟩ := runK_take h (k + 1)
    have h5 := h4
    rw [runK_succ (by omega), h1] at h5
    have h6 := stepK_some (h5 : stepK cols st e[k] = some s2)
    have h7 := h6.2.1
    have h8 := h6.2.2
    refine ⟨s2, h4, ?_, ?_⟩
    · rw [runF_succ (by omega)]
      have := stepF_len (fr := fr) (fs := runF fr (e.take k)) (p := e[k]) (by omega)
      omega
    · have := h6.2.2
      omega
/-- An expression that says a truth. -/
structure Said (cols : List GCol) (e : List GPt) (fr : Int) : Prop where
  le : e.length ≤ 12
  tell : ∀ k (h : k < e.length), pTells cols e[k] ∧ pTakes e[k] ≤ (runF fr (e.take k)).length ∧ (runF fr (e.take k)).length ≤ k
  fin : (runF fr e).length = 1
theorem said {cols : List GCol} {e : List GPt} {fr : Int} (h : exprKind cols e = 3) : Said cols e fr := by
  unfold exprKind at h
  by_cases c : colsOk cols ∧ e.length ≤ 12
  · rw [if_pos c] at h
    cases hr : runK cols e [] with
    | none => rw [hr] at h; exact absurd h (by simp [endK])
    | some st =>
      rw [hr] at h
      have h1 : st.length = 1 := by
        match st, h with
        | [], h => exact absurd h (by simp [endK])
        | [x], _ => rfl
        | x :: y :: l, h => exact absurd h (by simp [endK])
      refine ⟨c.2, fun k hk => ?_, ?_⟩
      · obtain ⟨s, e1, e2, e3⟩ := run_len (fr := fr) hr k (by omega)
        obtain ⟨s2, h4⟩ := runK_take hr (k + 1)
        rw [runK_succ hk, e1] at h4
        have h6 := stepK_some (h4 : stepK cols s e[k] = some s2)
        exact ⟨h6.1, by omega, by omega⟩
      · obtain ⟨s, e1, e2, e3⟩ := run_len (fr := fr) hr e.length (Nat.le_refl _)
        rw [List.take_length] at e1 e2
        rw [hr] at e1
        obtain rfl := Option.some.inj e1
        omega
  · rw [if_neg c] at h; omega
theorem Pict.mslF {H : AH} {id ver off n i : Nat} {l : List GFt} (h : H id = .live ver (flat GFt.c l)) (ho : off = i * 3) (hn : n = l.length - i) : Pict H [.msl id ver 3 off n] [factsA (l.drop i)] := by
  subst ho hn
  have := Pict.snap (H := H) 1 [.msl id ver 3 (i * 3) (l.length - i)]
  have e : (flat GFt.c l).drop (i * 3) = flat GFt.c (l.drop i) := flat_drop GFt.len l i
  have e2 : (flat GFt.c (l.drop i)).take ((l.length - i) * 3) = flat GFt.c (l.drop i) := by
    rw [List.take_of_length_le]
    rw [flat_len GFt.len, List.length_drop]
    omega
  simp only [List.map, snapA_msl, h, snapM_live, if_true] at this
  rw [e, e2, map_snap 0 H (flat_pure GFt.pure _)] at this
  unfold factsA
  rw [List.length_drop]
  exact this
/-- What a step of the facts says. -/
def StepFQ (H : AH) (nx id : Nat) (fr : Int) (fs : List GFt) (p : GPt) (r : AV) (H' : AH) (nx' : Nat) : Prop :=
  ∃ (v' : Nat), r = .msl id v' 3 0 (stepF fr fs p).length ∧ H' id = .live v' (flat GFt.c (stepF fr fs p)) ∧ (∀ i, i < nx → i ≠ id → H' i = H i) ∧ nx ≤ nx'
theorem StepFQ.mk {H H2 : AH} {nx nx' id v' len n : Nat} {fr : Int} {fs : List GFt} {p : GPt} {a b c : Bool} (ht : pTakes p + n = fs.length) (hl : len = n + 1) (hf : ∀ i, i < nx → i ≠ id → H2 i = H i) (hn : nx ≤ nx') (h : findF p fr (fs.drop n) = ⟨a, b, c⟩) :
    StepFQ H nx id fr fs p (.msl id v' 3 0 len) (upd H2 id (.live v' (flat GFt.c (fs.take n) ++ [.bool a, .bool b, .bool c]))) nx' := by
  have e : fs.length - pTakes p = n := by omega
  have e2 : stepF fr fs p = fs.take n ++ [⟨a, b, c⟩] := by unfold stepF; rw [e, h]
  have e3 : (stepF fr fs p).length = len := by rw [e2]; simp; omega
  refine ⟨v', by rw [e3], ?_, ?_, hn⟩
  · rw [upd_same, GFt.snoc, e2]
  · intro i h1 h2; rw [upd_ne _ _ h2]; exact hf i h1 h2
theorem StepFQ.mk0 {H H2 : AH} {nx nx' id v' len : Nat} {fr : Int} {fs : List GFt} {p : GPt} {a b c : Bool} (ht : pTakes p = 0) (hl : len = fs.length + 1) (hf : ∀ i, i < nx → i ≠ id → H2 i = H i) (hn : nx ≤ nx') (h : findF p fr [] = ⟨a, b, c⟩) :
    StepFQ H nx id fr fs p (.msl id v' 3 0 len) (upd H2 id (.live v' (flat GFt.c fs ++ [.bool a, .bool b, .bool c]))) nx' := by
  have := StepFQ.mk (fr := fr) (fs := fs) (p := p) (v' := v') (len := len) (n := fs.length) (a := a) (b := b) (c := c) (by omega) hl hf hn (by rw [List.drop_length]; exact h)
  rw [List.take_length] at this
  exact this
theorem dropF_two {l : List GFt} (h : 2 ≤ l.length) : l.drop (l.length - 2) = [l.getD (l.length - 2) zF, l.getD (l.length - 1) zF] := by
  have h1 : l.length - 2 < l.length := by omega
  have h2 : l.length - 2 + 1 < l.length := by omega
  rw [List.drop_eq_getElem_cons h1, List.drop_eq_getElem_cons h2, List.drop_eq_nil_of_le (by omega)]
  have e : l.length - 1 = l.length - 2 + 1 := by omega
  rw [e]
  simp [List.getD, h1, h2]
theorem dropF_one {l : List GFt} (h : 1 ≤ l.length) : l.drop (l.length - 1) = [l.getD (l.length - 1) zF] := by
  have h1 : l.length - 1 < l.length := by omega
  rw [List.drop_eq_getElem_cons h1, List.drop_eq_nil_of_le (by omega)]
  simp [List.getD, h1]
end Go.TH
