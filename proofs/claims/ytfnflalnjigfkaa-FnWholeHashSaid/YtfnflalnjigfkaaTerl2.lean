/- TH: rows less others, the draw, the plain law. Made by gen.py. -/
import Derived.Test.YtfnflalnjigfkaaTf3
import Derived.Test.YtfnflalnjigfkaaTerl
import Derived.Test.YtfnflalnjigfkaaTed3
import Derived.Test.YtfnflalnjigfkaaTeo
namespace Go.TH
open Go Go.Proofs
set_option linter.unusedSimpArgs false
set_option linter.unusedVariables false
set_option maxHeartbeats 20000000
set_option maxRecDepth 100000
theorem cntR_snoc (r x : GRow) (l : List GRow) : cntR r (l ++ [x]) = cntR r l + if x = r then 1 else 0 := by
  unfold cntR
  rw [List.filter_append]
  by_cases h : x = r
  · simp [h]
  · simp [h]
theorem cntR_cons2 (r x : GRow) (l : List GRow) : cntR r (x :: l) = cntR r l + if x = r then 1 else 0 := by
  unfold cntR
  by_cases h : x = r
  · simp [h]
  · simp [h]
theorem cntR_app (r : GRow) (a b : List GRow) : cntR r (a ++ b) = cntR r a + cntR r b := by
  unfold cntR
  rw [List.filter_append, List.length_append]
  omega
theorem lessL_cnt {r : GRow} {b : List GRow} : ∀ (l g o : List GRow), cntR r g ≤ cntR r b → cntR r (lessL b g o l) = cntR r o + max 0 (cntR r l - (cntR r b - cntR r g))
  | [], g, o, h => by rw [lessL, cntR_nil]; omega
  | x :: l, g, o, h => by
    have hl := (cntR_le r l).1
    rw [lessL, cntR_cons2]
    by_cases e : x = r
    · subst e
      split
      · rw [lessL_cnt l _ _ (by rw [cntR_snoc, if_pos rfl]; omega), cntR_snoc, if_pos rfl]
        omega
      · rw [lessL_cnt l _ _ h, cntR_snoc, if_pos rfl]
        omega
    · split
      · rw [lessL_cnt l _ _ (by rw [cntR_snoc, if_neg e]; omega), cntR_snoc, if_neg e]
        omega
      · rw [lessL_cnt l _ _ h, cntR_snoc, if_neg e]
        omega
theorem lessL_mem {x : GRow} {b : List GRow} : ∀ (l g o : List GRow), x ∈ lessL b g o l → x ∈ o ∨ x ∈ l
  | [], g, o, h => .inl h
  | r :: l, g, o, h => by
    rw [lessL] at h
    split at h
    · rcases lessL_mem l _ _ h with h | h
      · exact .inl h
      · exact .inr (List.mem_cons_of_mem _ h)
    · rcases lessL_mem l _ _ h with h | h
      · rcases List.mem_append.1 h with h | h
        · exact .inl h
        · simp at h; subst h; exact .inr (by simp)
      · exact .inr (List.mem_cons_of_mem _ h)
theorem lessL_len {b : List GRow} : ∀ (l g o : List GRow), (lessL b g o l).length ≤ o.length + l.length
  | [], g, o => by rw [lessL]; simp
  | r :: l, g, o => by
    rw [lessL]
    split
    · have := lessL_len (b := b) l (g ++ [r]) o
      simp only [List.length_cons]; omega
    · have := lessL_len (b := b) l g (o ++ [r])
      simp only [List.length_cons, List.length_append, List.length_nil] at this ⊢; omega
theorem q_joined (a b : List GRow) (ha : a.length ≤ 1000000) (hb : b.length ≤ 1000000) : QCall Try.prog 59 [rowsA a, rowsA b] (rowsA (a ++ b)) := by
  refine qcall_bodyL mixed Try.func59 _ (by unfold Try.f59; rfl) Try.ntmps59 Try.results59 (by decide) 1 (by simp) (by simp [pureL, pureA]) ?_
  unfold rowsA
  simp (maxSteps := 4000000) (disch := omega) only [go_sem, w64, AndB_of, IfB_of, IfB_no, pickE_of, pickE_no, ite_of, ite_no, tdivE, tmodE, takeAll]
  have e : flat cR a ++ flat cR b = flat cR (a ++ b) := by rw [flat_append]
  have el : (a ++ b).length = a.length + b.length := by simp
  simp (maxSteps := 4000000) (disch := omega) only [go_sem, w64, AndB_of, IfB_of, IfB_no, pickE_of, pickE_no, ite_of, ite_no, tdivE, tmodE, takeAll, e]
  rw [← el]
  simp (maxSteps := 4000000) (disch := omega) only [go_sem, w64, AndB_of, IfB_of, IfB_no, pickE_of, pickE_no, ite_of, ite_no, tdivE, tmodE, takeAll]
structure SrtI (l : List GRow) (k : Nat) (H : AH) (id v : Nat) : Prop where
  ex : ∃ out : List GRow, H id = .live v (flat cR out) ∧ out.length = k ∧ ∀ x ∈ out, x ∈ l
theorem x_RowsSorted (l : List GRow) (hl : l.length ≤ 100) (hs : ∀ x ∈ l, smallR x) : ∃ R, (∃ l' : List GRow, l'.length = l.length ∧ (∀ x ∈ l', x ∈ l) ∧ R = rowsA l') ∧ QCall Try.prog 162 [rowsA l] R := by
  refine qex_of (by simp [pureL]) 1 ?_
  refine dcall_body mixed Try.func162 _ (by unfold Try.f162; rfl) Try.ntmps162 Try.results162 (by decide) (by simp) ?_
  unfold rowsA
  simp (maxSteps := 4000000) (disch := omega) only [go_sem, w64, AndB_of, IfB_of, IfB_no, pickE_of, pickE_no, ite_of, ite_no, tdivE, tmodE, takeAll]
  refine LoopB.auto (fun zs => (heapOf zs, nxOf zs, (intOf (slotOf zs 4)).toNat, midOf (slotOf zs 3), mverOf (slotOf zs 3))) (fun zz => [(0, none), (2, some (.msl zz.2.2.2.1 zz.2.2.2.2 1 0 zz.2.2.1)), (0, some (.int .i64 (zz.2.2.1 : Int)))]) (fun zz => zz.1) (fun zz => zz.2.1) (fun zz => l.length - zz.2.2.1) (fun zz => zz.2.2.1 ≤ l.length ∧ zz.2.2.2.1 < zz.2.1 ∧ SrtI l zz.2.2.1 zz.1 zz.2.2.2.1 zz.2.2.2.2) (by (first | simp (maxSteps := 4000000) (disch := omega) only [go_sem, w64, AndB_of, IfB_of, IfB_no, pickE_of, pickE_no, ite_of, ite_no, tdivE, tmodE, takeAll, hH] | simp (maxSteps := 4000000) (disch := omega) only [go_sem, w64, AndB_of, IfB_of, IfB_no, pickE_of, pickE_no, ite_of, ite_no, tdivE, tmodE, takeAll]); ((repeat' apply And.intro) <;> first | exact ⟨[], rfl, rfl, by simp⟩ | (exact Weak.go (by (first | (simp [wkL]; done) | (simp [wkL]; omega))) (fun zi => by first | exact .inl rfl | exact .inr rfl | (simp only [upd]; repeat' split) <;> first | exact ⟨[], rfl, rfl, by simp⟩ | exact .inl rfl | exact .inr rfl | (exfalso; omega) | exact .inr (hd _ (by omega)) | (left; subst_vars; exact hH.symm) | (left; subst_vars; rfl) | (left; simp; done) | (left; simp; omega)) (by omega)) | omega | rfl | assumption | exact Flat.nil | exact ⟨_, rfl, rfl, by assumption⟩ | (simp; done) | (simp; omega))) ?_
  intro zz zh
  obtain ⟨hp, x, k, id, v⟩ := zz
  dsimp only at zh
  obtain ⟨hk, hid, hI⟩ := zh
  simp (maxSteps := 4000000) (disch := omega) only [go_sem, w64, AndB_of, IfB_of, IfB_no, pickE_of, pickE_no, ite_of, ite_no, tdivE, tmodE, takeAll]
  obtain ⟨out, hH, ho, hm⟩ := hI.ex
  refine IfB.dec (fun h1 => ?_) (fun h1 => ?_)
  · have h1' : k < l.length := by omega
    simp (maxSteps := 4000000) (disch := omega) only [go_sem, w64, AndB_of, IfB_of, IfB_no, pickE_of, pickE_no, ite_of, ite_no, tdivE, tmodE, takeAll, hH]
    refine LoopB.auto (fun zs => (nxOf zs, (intOf (slotOf zs 5)).toNat)) (fun zz => [(0, none), (2, none), (0, none), (0, some (.int .i64 (zz.2 : Int)))]) (fun zz => hp) (fun zz => zz.1) (fun zz => zz.2) (fun zz => zz.2 ≤ k ∧ x ≤ zz.1) (by (first | simp (maxSteps := 4000000) (disch := omega) only [go_sem, w64, AndB_of, IfB_of, IfB_no, pickE_of, pickE_no, ite_of, ite_no, tdivE, tmodE, takeAll, hH] | simp (maxSteps := 4000000) (disch := omega) only [go_sem, w64, AndB_of, IfB_of, IfB_no, pickE_of, pickE_no, ite_of, ite_no, tdivE, tmodE, takeAll]); ((repeat' apply And.intro) <;> first | (exact Weak.go (by (first | (simp [wkL]; done) | (simp [wkL]; omega))) (fun zi => by first | exact .inl rfl | exact .inr rfl | (simp only [upd]; repeat' split) <;> first | exact .inl rfl | exact .inr rfl | (exfalso; omega) | exact .inr (hd _ (by omega)) | (left; subst_vars; exact hH.symm) | (left; subst_vars; rfl) | (left; simp; done) | (left; simp; omega)) (by omega)) | omega | rfl | assumption | exact Flat.nil | exact ⟨_, rfl, rfl, by assumption⟩ | (simp; done) | (simp; omega))) ?_
    intro zz zh
    obtain ⟨y, i⟩ := zz
    dsimp only at zh
    obtain ⟨hi, hy⟩ := zh
    simp (maxSteps := 4000000) (disch := omega) only [go_sem, w64, AndB_of, IfB_of, IfB_no, pickE_of, pickE_no, ite_of, ite_no, tdivE, tmodE, takeAll]
    have fin := fun (j : Nat) (hj : j ≤ k) => (show (flat cR out).take j = flat cR (out.take j) from by have := flat_take cR_len out j; rwa [Nat.mul_one] at this)
    have hi2 : 0 < i → i - 1 < out.length := fun h => by omega
    refine DrawB.quiet (by kernel_rfl) ?_
    simp (maxSteps := 4000000) (disch := omega) only [go_sem, w64, AndB_of, IfB_of, IfB_no, pickE_of, pickE_no, ite_of, ite_no, tdivE, tmodE, takeAll, hH]
    by_cases h2 : 0 < i
    · have hi3 : ((i : Int) - 1).toNat < out.length := by omega
      have hq := hs _ (hm _ (List.getElem_mem hi3))
      have hq2 := hs _ (List.getElem_mem h1')
      simp (maxSteps := 4000000) (disch := omega) only [go_sem, w64, AndB_of, IfB_of, IfB_no, pickE_of, pickE_no, ite_of, ite_no, tdivE, tmodE, takeAll, hH]
      refine DCallB.q0 (q_RowOrderS _ _ hq.1 hq2.1 (fun v hv => by have := hq.2 v hv; omega) (fun v hv => by have := hq2.2 v hv; omega)) ?_
      simp (maxSteps := 4000000) (disch := omega) only [go_sem, w64, AndB_of, IfB_of, IfB_no, pickE_of, pickE_no, ite_of, ite_no, tdivE, tmodE, takeAll, hH]
      refine IfB.dec (fun h3 => ?_) (fun h3 => ?_)
      · simp (maxSteps := 4000000) (disch := omega) only [go_sem, w64, AndB_of, IfB_of, IfB_no, pickE_of, pickE_no, ite_of, ite_no, tdivE, tmodE, takeAll, hH]
        ((repeat' apply And.intro) <;> first | (exact Weak.go (by (first | (simp [wkL]; done) | (simp [wkL]; omega))) (fun zi => by first | exact .inl rfl | exact .inr rfl | (simp only [upd]; repeat' split) <;> first | exact .inl rfl | exact .inr rfl | (exfalso; omega) | exact .inr (hd _ (by omega)) | (left; subst_vars; exact hH.symm) | (left; subst_vars; rfl) | (left; simp; done) | (left; simp; omega)) (by omega)) | omega | rfl | assumption | exact Flat.nil | exact ⟨_, rfl, rfl, by assumption⟩ | (simp; done) | (simp; omega))
      · simp (maxSteps := 4000000) (disch := omega) only [go_sem, w64, AndB_of, IfB_of, IfB_no, pickE_of, pickE_no, ite_of, ite_no, tdivE, tmodE, takeAll, hH]
        have ft := fin i hi
        have lt : (out.take i).length = i := len_take (by omega)
        have lc : (flat cR (out.take i)).length = i := by rw [cR_flen, lt]
        have fd : (flat cR out).drop i = flat cR (out.drop i) := by have := flat_drop cR_len out i; rwa [Nat.mul_one] at this
        have ld : (out.drop i).length = k - i := by rw [List.length_drop, ho]
        have ldc : (flat cR (out.drop i)).length = k - i := by rw [cR_flen, ld]
        have en : ((k : Int) - (i : Int)).toNat = k - i := by omega
        have fa : (flat cR (out.drop i)).take (k - i) = flat cR (out.drop i) := takeAll (by rw [ldc]; exact Nat.le_refl _)
        have la : (flat cR (out.take i) ++ [rowA l[k]]).length = i + 1 := by rw [List.length_append, lc]; rfl
        simp (maxSteps := 4000000) (disch := omega) only [go_sem, w64, AndB_of, IfB_of, IfB_no, pickE_of, pickE_no, ite_of, ite_no, tdivE, tmodE, takeAll, hH, ft, lc]
        refine DrawB.intro [6, 7, 11] [] (inS (y) (y + 1) (y + 1)) (by kernel_rfl) ?_
        simp (maxSteps := 4000000) (disch := omega) only [go_sem, w64, AndB_of, IfB_of, IfB_no, pickE_of, pickE_no, ite_of, ite_no, tdivE, tmodE, takeAll, hH, ft, lc]
        refine DCallB.q0 (q_l3Own l[k] (hs _ (List.getElem_mem h1')).1) ?_
        simp (maxSteps := 4000000) (disch := omega) only [go_sem, w64, AndB_of, IfB_of, IfB_no, pickE_of, pickE_no, ite_of, ite_no, tdivE, tmodE, takeAll, hH, ft, lc, fd, ldc, en, fa, la]
        ((repeat' apply And.intro) <;> first | exact ⟨⟨out.take i ++ l[k] :: out.drop i, by rw [upd_same, flat_append, flat_cons]; simp [cR], by simp; omega, fun x hx => by rcases List.mem_append.1 hx with h | h; exact hm x (List.mem_of_mem_take h); rcases List.mem_cons.1 h with h | h; exact h ▸ List.getElem_mem h1'; exact hm x (List.mem_of_mem_drop h)⟩⟩ | (exact Weak.go (by (first | (simp [wkL]; done) | (simp [wkL]; omega))) (fun zi => by first | exact .inl rfl | exact .inr rfl | (simp only [upd]; repeat' split) <;> first | exact ⟨⟨out.take i ++ l[k] :: out.drop i, by rw [upd_same, flat_append, flat_cons]; simp [cR], by simp; omega, fun x hx => by rcases List.mem_append.1 hx with h | h; exact hm x (List.mem_of_mem_take h); rcases List.mem_cons.1 h with h | h; exact h ▸ List.getElem_mem h1'; exact hm x (List.mem_of_mem_drop h)⟩⟩ | exact .inl rfl | exact .inr rfl | (exfalso; omega) | exact .inr (hd _ (by omega)) | (left; subst_vars; exact hH.symm) | (left; subst_vars; rfl) | (left; simp; done) | (left; simp; omega)) (by omega)) | omega | rfl | assumption | exact Flat.nil | exact ⟨_, rfl, rfl, by assumption⟩ | (simp; done) | (simp; omega))
    · simp (maxSteps := 4000000) (disch := omega) only [go_sem, w64, AndB_of, IfB_of, IfB_no, pickE_of, pickE_no, ite_of, ite_no, tdivE, tmodE, takeAll, hH]
      have ft := fin i hi
      have lt : (out.take i).length = i := len_take (by omega)
      have lc : (flat cR (out.take i)).length = i := by rw [cR_flen, lt]
      have fd : (flat cR out).drop i = flat cR (out.drop i) := by have := flat_drop cR_len out i; rwa [Nat.mul_one] at this
      have ld : (out.drop i).length = k - i := by rw [List.length_drop, ho]
      have ldc : (flat cR (out.drop i)).length = k - i := by rw [cR_flen, ld]
      have en : ((k : Int) - (i : Int)).toNat = k - i := by omega
      have fa : (flat cR (out.drop i)).take (k - i) = flat cR (out.drop i) := takeAll (by rw [ldc]; exact Nat.le_refl _)
      have la : (flat cR (out.take i) ++ [rowA l[k]]).length = i + 1 := by rw [List.length_append, lc]; rfl
      simp (maxSteps := 4000000) (disch := omega) only [go_sem, w64, AndB_of, IfB_of, IfB_no, pickE_of, pickE_no, ite_of, ite_no, tdivE, tmodE, takeAll, hH, ft, lc]
      refine DrawB.intro [6, 7, 11] [] (inS (y) (y + 1) (y + 1)) (by kernel_rfl) ?_
      simp (maxSteps := 4000000) (disch := omega) only [go_sem, w64, AndB_of, IfB_of, IfB_no, pickE_of, pickE_no, ite_of, ite_no, tdivE, tmodE, takeAll, hH, ft, lc]
      refine DCallB.q0 (q_l3Own l[k] (hs _ (List.getElem_mem h1')).1) ?_
      simp (maxSteps := 4000000) (disch := omega) only [go_sem, w64, AndB_of, IfB_of, IfB_no, pickE_of, pickE_no, ite_of, ite_no, tdivE, tmodE, takeAll, hH, ft, lc, fd, ldc, en, fa, la]
      ((repeat' apply And.intro) <;> first | exact ⟨⟨out.take i ++ l[k] :: out.drop i, by rw [upd_same, flat_append, flat_cons]; simp [cR], by simp; omega, fun x hx => by rcases List.mem_append.1 hx with h | h; exact hm x (List.mem_of_mem_take h); rcases List.mem_cons.1 h with h | h; exact h ▸ List.getElem_mem h1'; exact hm x (List.mem_of_mem_drop h)⟩⟩ | (exact Weak.go (by (first | (simp [wkL]; done) | (simp [wkL]; omega))) (fun zi => by first | exact .inl rfl | exact .inr rfl | (simp only [upd]; repeat' split) <;> first | exact ⟨⟨out.take i ++ l[k] :: out.drop i, by rw [upd_same, flat_append, flat_cons]; simp [cR], by simp; omega, fun x hx => by rcases List.mem_append.1 hx with h | h; exact hm x (List.mem_of_mem_take h); rcases List.mem_cons.1 h with h | h; exact h ▸ List.getElem_mem h1'; exact hm x (List.mem_of_mem_drop h)⟩⟩ | exact .inl rfl | exact .inr rfl | (exfalso; omega) | exact .inr (hd _ (by omega)) | (left; subst_vars; exact hH.symm) | (left; subst_vars; rfl) | (left; simp; done) | (left; simp; omega)) (by omega)) | omega | rfl | assumption | exact Flat.nil | exact ⟨_, rfl, rfl, by assumption⟩ | (simp; done) | (simp; omega))
  · obtain rfl : k = l.length := by omega
    simp (maxSteps := 4000000) (disch := omega) only [go_sem, w64, AndB_of, IfB_of, IfB_no, pickE_of, pickE_no, ite_of, ite_no, tdivE, tmodE, takeAll, hH]
    refine ⟨out, ho, hm, ?_⟩
    rw [takeAll (by rw [cR_flen]; omega), cR_snapL, ho]
theorem d_two {H : AH} {nx rid : Nat} {bs : ByteArray} {p : Int} (hr : rid < nx) (hH : H rid = .live 0 [.sl bs.size false (bytesCells bs), .int .i64 (p)]) (hd : ∀ i, nx ≤ i → H i = .dead) (hp0 : 0 ≤ p) (hp : p ≤ 600000000) (hb : bs.size ≤ 2000) :
    ACallD Try.prog 125 [.ptr rid 0 0] H nx (fun r H' nx' => ∃ (a b : List GRow) (q : Int), p ≤ q ∧ q ≤ p + 5000 ∧ a.length ≤ 6 ∧ b.length ≤ 6 ∧ (∀ r ∈ a, PR 4 r) ∧ (∀ r ∈ b, PR 4 r) ∧ r = .tup [rowsA a, rowsA b] ∧ H' = upd H rid (.live 0 [.sl bs.size false (bytesCells bs), .int .i64 (q)]) ∧ nx' = nx) := by
  refine ACallD.finR 1 rid hr ?_
  refine dcall_body mixed Try.func125 _ (by unfold Try.f125; rfl) Try.ntmps125 Try.results125 (by decide) (by simp) ?_
  simp (maxSteps := 4000000) (disch := omega) only [go_sem, w64, AndB_of, IfB_of, IfB_no, pickE_of, pickE_no, ite_of, ite_no, tdivE, tmodE, takeAll]
  apply CallB.law; (focus (apply d_columns; omega; (repeat (first | exact hH | exact upd_same _ _ _ | rw [upd_ne _ _ (by omega)])); (first | exact fun i hi => hd i (by omega) | (intro i hi; repeat (first | exact hd i (by omega) | exact rfl | rw [upd_ne _ _ (by omega)]))); all_goals omega)); rintro _ _ _ ⟨cols, q, hq0, hq1, hc1, hc2, hcP, rfl, rfl, rfl⟩
  have ft : (flat GCol.c cols).take 2 = flat GCol.c (cols.take 1) := flat_take GCol.len cols 1
  have lt : (cols.take 1).length = 1 := by rw [List.length_take]; omega
  have eb : AV.sl 1 false (flat GCol.c (cols.take 1)) = colsA (cols.take 1) := by unfold colsA; rw [lt]
  unfold colsA
  simp (maxSteps := 4000000) (disch := omega) only [go_sem, w64, AndB_of, IfB_of, IfB_no, pickE_of, pickE_no, ite_of, ite_no, tdivE, tmodE, takeAll, ft, eb]
  refine CallB.law (d_bag (p := q) (cols.take 1) (by omega) (upd_same ..) (fun i hi => by rw [upd_ne _ _ (by omega)]; exact hd i (by omega)) (by omega) (by omega) hb (by omega) (by omega) (by omega)) ?_
  rintro _ _ _ ⟨a, q2, h1, h2, h3, h4, rfl, rfl, rfl⟩
  rw [lt] at h4
  simp (maxSteps := 4000000) (disch := omega) only [go_sem, w64, AndB_of, IfB_of, IfB_no, pickE_of, pickE_no, ite_of, ite_no, tdivE, tmodE, takeAll, eb]
  refine CallB.law (d_pick (p := q2) (upd_same ..) (by omega) (by omega) hb (by omega) (by omega)) ?_
  rintro _ _ _ ⟨x, hx0, hx1, rfl, rfl, rfl⟩
  simp (maxSteps := 4000000) (disch := omega) only [go_sem, w64, AndB_of, IfB_of, IfB_no, pickE_of, pickE_no, ite_of, ite_no, tdivE, tmodE, takeAll, eb]
  refine IfB.dec (fun c => ?_) (fun c => ?_)
  · obtain ⟨_, ⟨b, hb1, hb2, rfl⟩, hq⟩ := x_RowsSorted a (by omega) (fun x hx => ⟨by have := (h4 x hx).1; omega, fun v hv => by have := ((h4 x hx).2 v hv).1; omega⟩)
    simp (maxSteps := 4000000) (disch := omega) only [go_sem, w64, AndB_of, IfB_of, IfB_no, pickE_of, pickE_no, ite_of, ite_no, tdivE, tmodE, takeAll]
    apply CallB.q hq
    simp (maxSteps := 4000000) (disch := omega) only [go_sem, w64, AndB_of, IfB_of, IfB_no, pickE_of, pickE_no, ite_of, ite_no, tdivE, tmodE, takeAll]
    refine ⟨_, _, (by repeat (first | exact OldR.base hH | refine OldR.set ?_ | refine OldR.new (by omega) ?_ | exact OldW.refl | refine OldW.new (by omega) ?_ | refine OldW.rd ?_)), (by simp [pureL, pureA, bytesCells_pure]), ?_⟩
    exact ⟨a, b, q2 + 1, by omega, by omega, by omega, by omega, h4, fun r hr => h4 r (hb2 r hr), rfl, rfl⟩
  · simp (maxSteps := 4000000) (disch := omega) only [go_sem, w64, AndB_of, IfB_of, IfB_no, pickE_of, pickE_no, ite_of, ite_no, tdivE, tmodE, takeAll, eb]
    refine CallB.law (d_bag (p := q2 + 1) (cols.take 1) (by omega) (upd_same ..) (fun i hi => by rw [upd_ne _ _ (by omega)]; exact hd i (by omega)) (by omega) (by omega) hb (by omega) (by omega) (by omega)) ?_
    rintro _ _ _ ⟨b, q3, k1, k2, k3, k4, rfl, rfl, rfl⟩
    rw [lt] at k4
    simp (maxSteps := 4000000) (disch := omega) only [go_sem, w64, AndB_of, IfB_of, IfB_no, pickE_of, pickE_no, ite_of, ite_no, tdivE, tmodE, takeAll]
    refine ⟨_, _, (by repeat (first | exact OldR.base hH | refine OldR.set ?_ | refine OldR.new (by omega) ?_ | exact OldW.refl | refine OldW.new (by omega) ?_ | refine OldW.rd ?_)), (by simp [pureL, pureA, bytesCells_pure]), ?_⟩
    exact ⟨a, b, q3, by omega, by omega, by omega, by omega, h4, k4, rfl, rfl⟩
theorem x_DrawRowsLess (s : ByteArray) : ∃ R, (∃ (a b : List GRow), a.length ≤ 6 ∧ b.length ≤ 6 ∧ (∀ r ∈ a, PR 4 r) ∧ (∀ r ∈ b, PR 4 r) ∧ R = .tup [rowsA a, rowsA b]) ∧ QCall Try.prog 55 [.sl s.size false (bytesCells s)] R := by
  refine qex_of (by simp [pureL, pureA, bytesCells_pure]) 1 ?_
  refine dcall_body mixed Try.func55 _ (by unfold Try.f55; rfl) Try.ntmps55 Try.results55 (by decide) (by simp) ?_
  simp (maxSteps := 4000000) (disch := omega) only [go_sem, w64, AndB_of, IfB_of, IfB_no, pickE_of, pickE_no, ite_of, ite_no, tdivE, tmodE, takeAll]
  apply CallB.law; (focus (apply d_open; (repeat (first | exact hH | exact upd_same _ _ _ | rw [upd_ne _ _ (by omega)])); all_goals omega)); rintro _ _ _ ⟨bs, hbs, rfl, rfl, rfl⟩
  simp (maxSteps := 4000000) (disch := omega) only [go_sem, w64, AndB_of, IfB_of, IfB_no, pickE_of, pickE_no, ite_of, ite_no, tdivE, tmodE, takeAll]
  refine CallB.law (d_two (by omega) (upd_same _ _ _) (fun i hi => by rw [upd_ne _ _ (by omega)]; rfl) (by omega) (by omega) hbs) ?_
  rintro _ _ _ ⟨a, b, q, h1, h2, h3, h4, h5, h6, rfl, rfl, rfl⟩
  simp (maxSteps := 4000000) (disch := omega) only [go_sem, w64, AndB_of, IfB_of, IfB_no, pickE_of, pickE_no, ite_of, ite_no, tdivE, tmodE, takeAll]
  exact ⟨a, b, h3, h4, h5, h6, rfl⟩
end Go.TH
