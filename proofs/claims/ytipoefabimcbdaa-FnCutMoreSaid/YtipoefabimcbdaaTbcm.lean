/- TH: one more cut: the walks. Made by gen.py. -/
import Derived.Test.YtipoefabimcbdaaTf3
import Derived.Test.YtipoefabimcbdaaTbpf
import Derived.Test.YtipoefabimcbdaaTbo
import Derived.Test.YtipoefabimcbdaaTf4
namespace Go.TH
open Go Go.Proofs
set_option linter.unusedSimpArgs false
set_option linter.unusedVariables false
set_option maxHeartbeats 20000000
set_option maxRecDepth 100000
theorem q_LessZ (a b : Int) : QCall Try.prog 131 [.int .i64 a, .int .i64 b] (.bool (decide (a < b))) := by
  refine qcall_body mixed Try.func131 _ (by unfold Try.f131; rfl) Try.ntmps131 Try.results131 (by decide) 0 (by simp) (by simp [pureL, pureA]) ?_
  simp (maxSteps := 4000000) (disch := omega) only [go_sem, w64, AndB_of, IfB_of, IfB_no, pickE_of, pickE_no, ite_of, ite_no, tdivE, tmodE, takeAll]
  repeat' (first | (refine IfB.dec2 (fun h hd => ?_) (fun h hd => ?_) <;> (try (have h2 := h; unfold inR at h2)) <;> (try simp (maxSteps := 4000000) (disch := omega) only [go_sem, w64, AndB_of, IfB_of, IfB_no, pickE_of, pickE_no, ite_of, ite_no, tdivE, tmodE, takeAll, hd])) | (refine IfB.split (fun h => ?_) (fun h => ?_) <;> (try simp (maxSteps := 4000000) (disch := omega) only [go_sem, w64, AndB_of, IfB_of, IfB_no, pickE_of, pickE_no, ite_of, ite_no, tdivE, tmodE, takeAll, h])) | (refine DrawB.quiet (by kernel_rfl) ?_; simp (maxSteps := 4000000) (disch := omega) only [go_sem, w64, AndB_of, IfB_of, IfB_no, pickE_of, pickE_no, ite_of, ite_no, tdivE, tmodE, takeAll]) | (apply CallB.q (q_isNaNI _); simp (maxSteps := 4000000) (disch := omega) only [go_sem, w64, AndB_of, IfB_of, IfB_no, pickE_of, pickE_no, ite_of, ite_no, tdivE, tmodE, takeAll]) | (apply DCallB.q0 (q_isNaNI _); simp (maxSteps := 4000000) (disch := omega) only [go_sem, w64, AndB_of, IfB_of, IfB_no, pickE_of, pickE_no, ite_of, ite_no, tdivE, tmodE, takeAll]))
theorem q_isNaNI2 (a : Int) : QCall Try.prog 132 [.int .i64 a] (.bool false) := by
  refine qcall_body mixed Try.func132 _ (by unfold Try.f132; rfl) Try.ntmps132 Try.results132 (by decide) 0 (by simp) (by simp [pureL, pureA]) ?_
  simp (maxSteps := 4000000) (disch := omega) only [go_sem, w64, AndB_of, IfB_of, IfB_no, pickE_of, pickE_no, ite_of, ite_no, tdivE, tmodE, takeAll]
theorem q_BinarySearch (l : List Int) (n : Int) (hl : l.length ≤ 1048576) (hr : ∀ j (h : j + 1 < l.length), l[j] < l[j + 1]) :
    QCall Try.prog 102 [intsA l, .int .i64 n] (.tup [.int .i64 (cntLe l (n - 1)), .bool (decide (n ∈ l))]) := by
  refine qcall_body mixed Try.func102 _ (by unfold Try.f102; rfl) Try.ntmps102 Try.results102 (by decide) 0 (by simp) (by simp [pureL, pureA]) ?_
  unfold intsA
  simp (maxSteps := 4000000) (disch := omega) only [go_sem, w64, AndB_of, IfB_of, IfB_no, pickE_of, pickE_no, ite_of, ite_no, tdivE, tmodE, takeAll]
  refine LoopB.auto (fun zs => ((intOf (slotOf zs 7)).toNat, (intOf (slotOf zs 8)).toNat)) (fun zz => [(0, none), (0, none), (4, none), (0, some (.int .i64 (zz.1 : Int))), (0, some (.int .i64 (zz.2 : Int)))]) (fun zz => noH) (fun zz => 0) (fun zz => zz.2 - zz.1) (fun zz => zz.1 ≤ zz.2 ∧ zz.2 ≤ l.length ∧ (∀ q (h : q < l.length), q < zz.1 → l[q] < n) ∧ ∀ q (h : q < l.length), zz.2 ≤ q → n ≤ l[q]) (by (first | simp (maxSteps := 4000000) (disch := omega) only [go_sem, w64, AndB_of, IfB_of, IfB_no, pickE_of, pickE_no, ite_of, ite_no, tdivE, tmodE, takeAll, hH] | simp (maxSteps := 4000000) (disch := omega) only [go_sem, w64, AndB_of, IfB_of, IfB_no, pickE_of, pickE_no, ite_of, ite_no, tdivE, tmodE, takeAll]); ((repeat' apply And.intro) <;> first | exact (fun q h hq => by omega) | (exact Weak.go (by (first | (simp [wkL]; done) | (simp [wkL]; omega))) (fun zi => by first | exact .inl rfl | exact .inr rfl | (simp only [upd]; repeat' split) <;> first | exact (fun q h hq => by omega) | exact .inl rfl | exact .inr rfl | (exfalso; omega) | exact .inr (hd _ (by omega)) | (left; subst_vars; exact hH.symm) | (left; subst_vars; rfl) | (left; simp; done) | (left; simp; omega)) (by omega)) | omega | rfl | assumption | exact Flat.nil | exact ⟨_, rfl, rfl, by assumption⟩ | (simp; done) | (simp; omega))) ?_
  intro zz zh
  obtain ⟨i, j⟩ := zz
  dsimp only at zh
  obtain ⟨hij, hjl, hlo, hhi⟩ := zh
  simp (maxSteps := 4000000) (disch := omega) only [go_sem, w64, AndB_of, IfB_of, IfB_no, pickE_of, pickE_no, ite_of, ite_no, tdivE, tmodE, takeAll]
  refine IfB.dec (fun h1 => ?_) (fun h1 => ?_)
  · have hm : (i + j) / 2 < l.length := by omega
    have e1 : IntKind.u64.wrap (((i : Int) + j)) = ((i + j : Nat) : Int) := by simp [IntKind.wrap, IntKind.bits, IntKind.signed]; omega
    have e2 : (((i + j : Nat) : Int)).fdiv (2 ^ min 1 64) = (((i + j) / 2 : Nat) : Int) := by rw [Int.fdiv_eq_ediv_of_nonneg _ (by decide)]; show (((i + j : Nat) : Int)) / 2 = _; omega
    have e3 : IntKind.i64.wrap (((i + j) / 2 : Nat) : Int) = (((i + j) / 2 : Nat) : Int) := w64 (by omega)
    simp (maxSteps := 4000000) (disch := omega) only [go_sem, w64, AndB_of, IfB_of, IfB_no, pickE_of, pickE_no, ite_of, ite_no, tdivE, tmodE, takeAll, e1, e2, e3]
    apply CallB.q (q_LessZ _ _)
    simp (maxSteps := 4000000) (disch := omega) only [go_sem, w64, AndB_of, IfB_of, IfB_no, pickE_of, pickE_no, ite_of, ite_no, tdivE, tmodE, takeAll]
    refine IfB.dec (fun c1 => ?_) (fun c1 => ?_)
    · simp (maxSteps := 4000000) (disch := omega) only [go_sem, w64, AndB_of, IfB_of, IfB_no, pickE_of, pickE_no, ite_of, ite_no, tdivE, tmodE, takeAll, e1, e2, e3]
      ((repeat' apply And.intro) <;> first | exact (fun q h hq => by have : l[q] ≤ l[(i + j) / 2] := (by by_cases e : q = (i + j) / 2; (subst e; exact Int.le_refl _); exact Int.le_of_lt (rises_lt hr q ((i + j) / 2) (by omega) hm)); omega) | (exact Weak.go (by (first | (simp [wkL]; done) | (simp [wkL]; omega))) (fun zi => by first | exact .inl rfl | exact .inr rfl | (simp only [upd]; repeat' split) <;> first | exact (fun q h hq => by have : l[q] ≤ l[(i + j) / 2] := (by by_cases e : q = (i + j) / 2; (subst e; exact Int.le_refl _); exact Int.le_of_lt (rises_lt hr q ((i + j) / 2) (by omega) hm)); omega) | exact .inl rfl | exact .inr rfl | (exfalso; omega) | exact .inr (hd _ (by omega)) | (left; subst_vars; exact hH.symm) | (left; subst_vars; rfl) | (left; simp; done) | (left; simp; omega)) (by omega)) | omega | rfl | assumption | exact Flat.nil | exact ⟨_, rfl, rfl, by assumption⟩ | (simp; done) | (simp; omega))
    · simp (maxSteps := 4000000) (disch := omega) only [go_sem, w64, AndB_of, IfB_of, IfB_no, pickE_of, pickE_no, ite_of, ite_no, tdivE, tmodE, takeAll, e1, e2, e3]
      ((repeat' apply And.intro) <;> first | exact (fun q h hq => by have : l[(i + j) / 2] ≤ l[q] := (by by_cases e : q = (i + j) / 2; (subst e; exact Int.le_refl _); exact Int.le_of_lt (rises_lt hr ((i + j) / 2) q (by omega) h)); omega) | (exact Weak.go (by (first | (simp [wkL]; done) | (simp [wkL]; omega))) (fun zi => by first | exact .inl rfl | exact .inr rfl | (simp only [upd]; repeat' split) <;> first | exact (fun q h hq => by have : l[(i + j) / 2] ≤ l[q] := (by by_cases e : q = (i + j) / 2; (subst e; exact Int.le_refl _); exact Int.le_of_lt (rises_lt hr ((i + j) / 2) q (by omega) h)); omega) | exact .inl rfl | exact .inr rfl | (exfalso; omega) | exact .inr (hd _ (by omega)) | (left; subst_vars; exact hH.symm) | (left; subst_vars; rfl) | (left; simp; done) | (left; simp; omega)) (by omega)) | omega | rfl | assumption | exact Flat.nil | exact ⟨_, rfl, rfl, by assumption⟩ | (simp; done) | (simp; omega))
  · obtain rfl : i = j := by omega
    have hcl : cntLe l (n - 1) = i := cntLe_at hr hjl (fun q h hq => by have := hlo q h hq; omega) (fun h => by have := hhi i h (Nat.le_refl _); omega)
    have hno : (∀ h : i < l.length, l[i] ≠ n) → n ∉ l := fun hne e => by
      obtain ⟨q, hq, e2⟩ := List.getElem_of_mem e
      by_cases c1 : q < i
      · have := hlo q hq c1; omega
      · have hil : i < l.length := by omega
        have h3 := hhi i hil (Nat.le_refl _)
        have h4 := hne hil
        by_cases c2 : q = i
        · subst c2; exact h4 e2
        · have := rises_lt hr i q (by omega) hq; omega
    have hyes : ∀ h : i < l.length, l[i] = n → n ∈ l := fun h e => e ▸ List.getElem_mem h
    simp (maxSteps := 4000000) (disch := omega) only [go_sem, w64, AndB_of, IfB_of, IfB_no, pickE_of, pickE_no, ite_of, ite_no, tdivE, tmodE, takeAll, hcl]
    refine IfB.dec (fun c1 => ?_) (fun c1 => ?_)
    · have hil : i < l.length := by omega
      simp (maxSteps := 4000000) (disch := omega) only [go_sem, w64, AndB_of, IfB_of, IfB_no, pickE_of, pickE_no, ite_of, ite_no, tdivE, tmodE, takeAll]
      by_cases c2 : l[i] = n
      · have hd := decide_eq_true c2
        have hm := hyes hil c2
        simp (maxSteps := 4000000) (disch := omega) only [go_sem, w64, AndB_of, IfB_of, IfB_no, pickE_of, pickE_no, ite_of, ite_no, tdivE, tmodE, takeAll, hd, hm]
      · have hd := decide_eq_false c2
        have hm := hno fun _ => c2
        simp (maxSteps := 4000000) (disch := omega) only [go_sem, w64, AndB_of, IfB_of, IfB_no, pickE_of, pickE_no, ite_of, ite_no, tdivE, tmodE, takeAll, hd]
        apply CallB.q (q_isNaNI2 _)
        simp (maxSteps := 4000000) (disch := omega) only [go_sem, w64, AndB_of, IfB_of, IfB_no, pickE_of, pickE_no, ite_of, ite_no, tdivE, tmodE, takeAll]
        simp [hm]
    · simp (maxSteps := 4000000) (disch := omega) only [go_sem, w64, AndB_of, IfB_of, IfB_no, pickE_of, pickE_no, ite_of, ite_no, tdivE, tmodE, takeAll]
      simp [hno fun h => by omega]
theorem cI_snocZ (l : List Int) (x : Int) : flat cI l ++ [.int .i64 x] = flat cI (l ++ [x]) := by rw [flat_append]; rfl
theorem cI_takeZ (l : List Int) (x : Int) : List.take (l.length + 1) (flat cI l ++ [.int .i64 x]) = flat cI (l ++ [x]) := by
  rw [cI_snocZ, List.take_of_length_le]
  rw [cI_flen, List.length_append]
  exact Nat.le_refl _
theorem cI_takeY (l : List Int) (x : Int) : List.take (l.length + 1) (flat cI (l ++ [x])) = flat cI (l ++ [x]) := by
  rw [List.take_of_length_le]
  rw [cI_flen, List.length_append]
  exact Nat.le_refl _
theorem q_CutMoreS (l : List Int) (n : Int) (hl : l.length ≤ 1000) : QCall Try.prog 54 [intsA l, .int .i64 n] (.tup [intsA (cutMore l n).1, .bool (cutMore l n).2]) := by
  refine qcall_bodyL mixed Try.func54 _ (by unfold Try.f54; rfl) Try.ntmps54 Try.results54 (by decide) 1 (by simp) (by simp [pureL, pureA]) ?_
  simp (maxSteps := 4000000) (disch := omega) only [go_sem, w64, AndB_of, IfB_of, IfB_no, pickE_of, pickE_no, ite_of, ite_no, tdivE, tmodE, takeAll]
  apply CallB.q (q_CutsOkS l (by omega))
  simp (maxSteps := 4000000) (disch := omega) only [go_sem, w64, AndB_of, IfB_of, IfB_no, pickE_of, pickE_no, ite_of, ite_no, tdivE, tmodE, takeAll]
  by_cases hc : cutsOk l
  case neg =>
    have hdc := decide_eq_false hc
    have hbad := cutMore_bad (l := l) (n := n) (fun e => hc e.1)
    simp (maxSteps := 4000000) (disch := omega) only [go_sem, w64, AndB_of, IfB_of, IfB_no, pickE_of, pickE_no, ite_of, ite_no, tdivE, tmodE, takeAll, hdc, hbad]
    try rfl
  have hdc := decide_eq_true hc
  simp (maxSteps := 4000000) (disch := omega) only [go_sem, w64, AndB_of, IfB_of, IfB_no, pickE_of, pickE_no, ite_of, ite_no, tdivE, tmodE, takeAll, hdc]
  apply CallB.q (q_l1In n (-9999) 9999)
  simp (maxSteps := 4000000) (disch := omega) only [go_sem, w64, AndB_of, IfB_of, IfB_no, pickE_of, pickE_no, ite_of, ite_no, tdivE, tmodE, takeAll]
  refine IfB.dec (fun hn => ?_) (fun hn => ?_)
  case refine_2 =>
    have hbad := cutMore_bad (l := l) (n := n) (fun e => hn e.2)
    simp (maxSteps := 4000000) (disch := omega) only [go_sem, w64, AndB_of, IfB_of, IfB_no, pickE_of, pickE_no, ite_of, ite_no, tdivE, tmodE, takeAll, hbad]
    try rfl
  unfold intsA
  simp (maxSteps := 4000000) (disch := omega) only [go_sem, w64, AndB_of, IfB_of, IfB_no, pickE_of, pickE_no, ite_of, ite_no, tdivE, tmodE, takeAll]
  refine LoopB.auto (fun zs => (heapOf zs, nxOf zs, (intOf (slotOf zs 9)).toNat, boolOf (slotOf zs 7), boolOf (slotOf zs 8), verOf (blkOf zs (0)), cellsOf (blkOf zs (0)), mlenOf (slotOf zs 6))) (fun zz => [(0, none), (0, none), (4, some (.msl 0 zz.2.2.2.2.2.1 1 0 zz.2.2.2.2.2.2.2)), (0, some (.bool zz.2.2.2.1)), (0, some (.bool zz.2.2.2.2.1)), (0, some (.int .i64 (zz.2.2.1 : Int)))]) (fun zz => zz.1) (fun zz => zz.2.1) (fun zz => l.length - zz.2.2.1) (fun zz => zz.2.2.1 ≤ l.length ∧ 0 < zz.2.1 ∧ zz.1 0 = .live zz.2.2.2.2.2.1 zz.2.2.2.2.2.2.1 ∧ ∃ out, zz.2.2.2.2.2.2.1 = flat cI out ∧ zz.2.2.2.2.2.2.2 = out.length ∧ CutK l n zz.2.2.1 out zz.2.2.2.1 zz.2.2.2.2.1) (by (first | simp (maxSteps := 4000000) (disch := omega) only [go_sem, w64, AndB_of, IfB_of, IfB_no, pickE_of, pickE_no, ite_of, ite_no, tdivE, tmodE, takeAll, hH] | simp (maxSteps := 4000000) (disch := omega) only [go_sem, w64, AndB_of, IfB_of, IfB_no, pickE_of, pickE_no, ite_of, ite_no, tdivE, tmodE, takeAll]); ((repeat' apply And.intro) <;> first | exact ⟨[], rfl, rfl, CutK.nil l n⟩ | (exact Weak.go (by (first | (simp [wkL]; done) | (simp [wkL]; omega))) (fun zi => by first | exact .inl rfl | exact .inr rfl | (simp only [upd]; repeat' split) <;> first | exact ⟨[], rfl, rfl, CutK.nil l n⟩ | exact .inl rfl | exact .inr rfl | (exfalso; omega) | exact .inr (hd _ (by omega)) | (left; subst_vars; exact hH.symm) | (left; subst_vars; rfl) | (left; simp; done) | (left; simp; omega)) (by omega)) | omega | rfl | assumption | exact Flat.nil | exact ⟨_, rfl, rfl, by assumption⟩ | (simp; done) | (simp; omega))) ?_
  intro zz zh
  obtain ⟨h, x, k, d, a, v, cells, m⟩ := zz
  dsimp only at zh
  obtain ⟨hk, hx, hH, out, rfl, rfl, hQ⟩ := zh
  simp (maxSteps := 4000000) (disch := omega) only [go_sem, w64, AndB_of, IfB_of, IfB_no, pickE_of, pickE_no, ite_of, ite_no, tdivE, tmodE, takeAll]
  have hol := hQ.len hk
  refine IfB.dec (fun h1 => ?_) (fun h1 => ?_)
  · have h1' : k < l.length := by omega
    simp (maxSteps := 4000000) (disch := omega) only [go_sem, w64, AndB_of, IfB_of, IfB_no, pickE_of, pickE_no, ite_of, ite_no, tdivE, tmodE, takeAll]
    refine IfB.dec (fun h2 => ?_) (fun h2 => ?_)
    · have hno := cutMore_no hc hn (.inl (h2 ▸ List.getElem_mem h1'))
      simp (maxSteps := 4000000) (disch := omega) only [go_sem, w64, AndB_of, IfB_of, IfB_no, pickE_of, pickE_no, ite_of, ite_no, tdivE, tmodE, takeAll, hno]
      try rfl
    · simp (maxSteps := 4000000) (disch := omega) only [go_sem, w64, AndB_of, IfB_of, IfB_no, pickE_of, pickE_no, ite_of, ite_no, tdivE, tmodE, takeAll]
      refine IfB.dec (fun h3 => ?_) (fun h3 => ?_)
      · simp (maxSteps := 4000000) (disch := omega) only [go_sem, w64, AndB_of, IfB_of, IfB_no, pickE_of, pickE_no, ite_of, ite_no, tdivE, tmodE, takeAll]
        cases d
        · simp (maxSteps := 4000000) (disch := omega) only [go_sem, w64, AndB_of, IfB_of, IfB_no, pickE_of, pickE_no, ite_of, ite_no, tdivE, tmodE, takeAll, hH, cI_flen, cI_takeZ, cI_takeY, cI_snocZ, List.length_append, List.length_cons, List.length_nil]
          have hQ2 := hQ.put h1' h2 h3
          ((repeat' apply And.intro) <;> first | exact ⟨_, rfl, by simp, hQ2⟩ | (exact Weak.go (by (first | (simp [wkL]; done) | (simp [wkL]; omega))) (fun zi => by first | exact .inl rfl | exact .inr rfl | (simp only [upd]; repeat' split) <;> first | exact ⟨_, rfl, by simp, hQ2⟩ | exact .inl rfl | exact .inr rfl | (exfalso; omega) | exact .inr (hd _ (by omega)) | (left; subst_vars; exact hH.symm) | (left; subst_vars; rfl) | (left; simp; done) | (left; simp; omega)) (by omega)) | omega | rfl | assumption | exact Flat.nil | exact ⟨_, rfl, rfl, by assumption⟩ | (simp; done) | (simp; omega))
        · simp (maxSteps := 4000000) (disch := omega) only [go_sem, w64, AndB_of, IfB_of, IfB_no, pickE_of, pickE_no, ite_of, ite_no, tdivE, tmodE, takeAll, hH, cI_flen, cI_takeZ, cI_takeY, cI_snocZ, List.length_append, List.length_cons, List.length_nil]
          have hQ2 := hQ.keep h1' h2 (.inl rfl)
          ((repeat' apply And.intro) <;> first | exact ⟨_, rfl, by simp, hQ2⟩ | (exact Weak.go (by (first | (simp [wkL]; done) | (simp [wkL]; omega))) (fun zi => by first | exact .inl rfl | exact .inr rfl | (simp only [upd]; repeat' split) <;> first | exact ⟨_, rfl, by simp, hQ2⟩ | exact .inl rfl | exact .inr rfl | (exfalso; omega) | exact .inr (hd _ (by omega)) | (left; subst_vars; exact hH.symm) | (left; subst_vars; rfl) | (left; simp; done) | (left; simp; omega)) (by omega)) | omega | rfl | assumption | exact Flat.nil | exact ⟨_, rfl, rfl, by assumption⟩ | (simp; done) | (simp; omega))
      · simp (maxSteps := 4000000) (disch := omega) only [go_sem, w64, AndB_of, IfB_of, IfB_no, pickE_of, pickE_no, ite_of, ite_no, tdivE, tmodE, takeAll, hH, cI_flen, cI_takeZ, cI_takeY, cI_snocZ, List.length_append, List.length_cons, List.length_nil]
        have hQ2 := hQ.keep h1' h2 (.inr h3)
        ((repeat' apply And.intro) <;> first | exact ⟨_, rfl, by simp, hQ2⟩ | (exact Weak.go (by (first | (simp [wkL]; done) | (simp [wkL]; omega))) (fun zi => by first | exact .inl rfl | exact .inr rfl | (simp only [upd]; repeat' split) <;> first | exact ⟨_, rfl, by simp, hQ2⟩ | exact .inl rfl | exact .inr rfl | (exfalso; omega) | exact .inr (hd _ (by omega)) | (left; subst_vars; exact hH.symm) | (left; subst_vars; rfl) | (left; simp; done) | (left; simp; omega)) (by omega)) | omega | rfl | assumption | exact Flat.nil | exact ⟨_, rfl, rfl, by assumption⟩ | (simp; done) | (simp; omega))
  · simp (maxSteps := 4000000) (disch := omega) only [go_sem, w64, AndB_of, IfB_of, IfB_no, pickE_of, pickE_no, ite_of, ite_no, tdivE, tmodE, takeAll]
    cases d
    · have hf := hQ.fin1 (by omega) hc hn
      simp (maxSteps := 4000000) (disch := omega) only [go_sem, w64, AndB_of, IfB_of, IfB_no, pickE_of, pickE_no, ite_of, ite_no, tdivE, tmodE, takeAll, hH, hf, cI_takeZ]
      rw [show (out ++ [n]).length = out.length + 1 by simp]
    · have hf := hQ.fin2 (by omega) hc hn
      simp (maxSteps := 4000000) (disch := omega) only [go_sem, w64, AndB_of, IfB_of, IfB_no, pickE_of, pickE_no, ite_of, ite_no, tdivE, tmodE, takeAll, hH, hf]
end Go.TH
