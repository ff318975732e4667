/- TH: neighbours once: the walks. Made by gen.py. -/
import Derived.Test.YtfnflalnjigfkaaTf3
import Derived.Test.YtfnflalnjigfkaaTerc
import Derived.Test.YtfnflalnjigfkaaTen
import Derived.Test.YtfnflalnjigfkaaTerw
import Derived.Test.YtfnflalnjigfkaaTed3
namespace Go.TH
open Go Go.Proofs
set_option linter.unusedSimpArgs false
set_option linter.unusedVariables false
set_option maxHeartbeats 20000000
set_option maxRecDepth 100000
theorem q_NeighboursOnceS (l : List GRow) (hl : l.length ≤ 1048576) (hs : ∀ r ∈ l, r.length ≤ 1048576 ∧ ∀ x ∈ r, x.s.size ≤ 9223372036854775807) : QCall Try.prog 15 [rowsA l] (rowsA (nbOnce l)) := by
  refine qcall_bodyL mixed Try.func15 _ (by unfold Try.f15; rfl) Try.ntmps15 Try.results15 (by decide) 1 (by simp) (by simp [pureL, pureA]) ?_
  unfold rowsA
  simp (maxSteps := 4000000) (disch := omega) only [go_sem, w64, AndB_of, IfB_of, IfB_no, pickE_of, pickE_no, ite_of, ite_no, tdivE, tmodE, takeAll]
  refine LoopB.auto (fun zs => (nxOf zs, (intOf (slotOf zs 4)).toNat, verOf (blkOf zs (0)), cellsOf (blkOf zs (0)), mlenOf (slotOf zs 3))) (fun zz => [(0, none), (2, some (.msl 0 zz.2.2.1 1 0 zz.2.2.2.2)), (0, some (.int .i64 (zz.2.1 : Int)))]) (fun zz => upd noH 0 (.live zz.2.2.1 zz.2.2.2.1)) (fun zz => zz.1) (fun zz => l.length - zz.2.1) (fun zz => zz.2.1 ≤ l.length ∧ 0 < zz.1 ∧ zz.2.2.2.1 = flat cR (nbK l zz.2.1) ∧ zz.2.2.2.2 = (nbK l zz.2.1).length ∧ chK rowOk rowLe l zz.2.1) (by (first | simp (maxSteps := 4000000) (disch := omega) only [go_sem, w64, AndB_of, IfB_of, IfB_no, pickE_of, pickE_no, ite_of, ite_no, tdivE, tmodE, takeAll, hH] | simp (maxSteps := 4000000) (disch := omega) only [go_sem, w64, AndB_of, IfB_of, IfB_no, pickE_of, pickE_no, ite_of, ite_no, tdivE, tmodE, takeAll]); ((repeat' apply And.intro) <;> first | exact rfl | (exact Weak.go (by (first | (simp [wkL]; done) | (simp [wkL]; omega))) (fun zi => by first | exact .inl rfl | exact .inr rfl | (simp only [upd]; repeat' split) <;> first | exact rfl | exact .inl rfl | exact .inr rfl | (exfalso; omega) | exact .inr (hd _ (by omega)) | (left; subst_vars; exact hH.symm) | (left; subst_vars; rfl) | (left; simp; done) | (left; simp; omega)) (by omega)) | omega | rfl | assumption | exact Flat.nil | exact ⟨_, rfl, rfl, by assumption⟩ | (simp; done) | (simp; omega))) ?_
  intro zz zh
  obtain ⟨x, k, w, cells, m⟩ := zz
  dsimp only at zh
  obtain ⟨hk, hx, hc, hm, hch⟩ := zh
  simp (maxSteps := 4000000) (disch := omega) only [go_sem, w64, AndB_of, IfB_of, IfB_no, pickE_of, pickE_no, ite_of, ite_no, tdivE, tmodE, takeAll]
  have hmk := nbK_len l k
  have hlen : cells.length = m := by rw [hc, cR_flen, hm]
  refine IfB.dec (fun h1 => ?_) (fun h1 => ?_)
  · have h1' : k < l.length := by omega
    have hr := hs _ (List.getElem_mem h1')
    have no1 : ¬ rowOk l[k] → nbOnce l = [] := fun e => if_neg (chain.no1 h1' e)
    simp (maxSteps := 4000000) (disch := omega) only [go_sem, w64, AndB_of, IfB_of, IfB_no, pickE_of, pickE_no, ite_of, ite_no, tdivE, tmodE, takeAll]
    refine DrawB.quiet (by kernel_rfl) ?_
    simp (maxSteps := 4000000) (disch := omega) only [go_sem, w64, AndB_of, IfB_of, IfB_no, pickE_of, pickE_no, ite_of, ite_no, tdivE, tmodE, takeAll]
    refine DCallB.q0 (q_RowOkS _ hr.1 hr.2) ?_
    simp (maxSteps := 4000000) (disch := omega) only [go_sem, w64, AndB_of, IfB_of, IfB_no, pickE_of, pickE_no, ite_of, ite_no, tdivE, tmodE, takeAll]
    refine IfB.dec (fun c1 => ?_) (fun c1 => ?_)
    · cases k with
      | zero =>
        obtain rfl : cells = [] := by rw [hc]; rfl
        obtain rfl : m = 0 := by rw [hm]; rfl
        have hy := hch.step h1' c1 (.inl (by omega))
        have e := nbK_yes h1' (.inl rfl)
        simp (maxSteps := 4000000) (disch := omega) only [go_sem, w64, AndB_of, IfB_of, IfB_no, pickE_of, pickE_no, ite_of, ite_no, tdivE, tmodE, takeAll]
        refine DrawB.quiet (by kernel_rfl) ?_
        simp (maxSteps := 4000000) (disch := omega) only [go_sem, w64, AndB_of, IfB_of, IfB_no, pickE_of, pickE_no, ite_of, ite_no, tdivE, tmodE, takeAll]
        apply CallB.q (q_l3Own l[0] hr.1)
        simp (maxSteps := 4000000) (disch := omega) only [go_sem, w64, AndB_of, IfB_of, IfB_no, pickE_of, pickE_no, ite_of, ite_no, tdivE, tmodE, takeAll]
        refine ⟨⟨by omega, by rw [e]; rfl, by rw [e]; rfl, hy⟩, by omega, ?_⟩
        ((repeat' apply And.intro) <;> first | (exact Weak.go (by (first | (simp [wkL]; done) | (simp [wkL]; omega))) (fun zi => by first | exact .inl rfl | exact .inr rfl | (simp only [upd]; repeat' split) <;> first | exact .inl rfl | exact .inr rfl | (exfalso; omega) | exact .inr (hd _ (by omega)) | (left; subst_vars; exact hH.symm) | (left; subst_vars; rfl) | (left; simp; done) | (left; simp; omega)) (by omega)) | omega | rfl | assumption | exact Flat.nil | exact ⟨_, rfl, rfl, by assumption⟩ | (simp; done) | (simp; omega))
      | succ j =>
        have h2' : j < l.length := by omega
        have hr2 := hs _ (List.getElem_mem h2')
        have ok2 : rowOk l[j] := hch.1 j h2' (by omega)
        have eo : rowOrdOk l[j] l[j + 1] = rowOrd l[j] l[j + 1] := if_pos ⟨ok2, c1⟩
        simp (maxSteps := 4000000) (disch := omega) only [go_sem, w64, AndB_of, IfB_of, IfB_no, pickE_of, pickE_no, ite_of, ite_no, tdivE, tmodE, takeAll]
        refine DCallB.q0 (q_RowOrderS _ _ hr2.1 hr.1 hr2.2 hr.2) ?_
        simp (maxSteps := 4000000) (disch := omega) only [go_sem, w64, AndB_of, IfB_of, IfB_no, pickE_of, pickE_no, ite_of, ite_no, tdivE, tmodE, takeAll, eo]
        refine IfB.dec (fun c2 => ?_) (fun c2 => ?_)
        · have e : nbOnce l = [] := if_neg (chain.no2 h1' (by omega) (by omega) (fun e => by unfold rowLe at e; simp only [cast_pred, Int.toNat_natCast] at e; omega))
          simp (maxSteps := 4000000) (disch := omega) only [go_sem, w64, AndB_of, IfB_of, IfB_no, pickE_of, pickE_no, ite_of, ite_no, tdivE, tmodE, takeAll]
          rw [e]
          rfl
        · have hy := hch.step h1' c1 (.inr ⟨by omega, by unfold rowLe; simp only [cast_pred, Int.toNat_natCast]; omega⟩)
          simp (maxSteps := 4000000) (disch := omega) only [go_sem, w64, AndB_of, IfB_of, IfB_no, pickE_of, pickE_no, ite_of, ite_no, tdivE, tmodE, takeAll]
          refine DrawB.quiet (by kernel_rfl) ?_
          simp (maxSteps := 4000000) (disch := omega) only [go_sem, w64, AndB_of, IfB_of, IfB_no, pickE_of, pickE_no, ite_of, ite_no, tdivE, tmodE, takeAll]
          refine DCallB.q0 (q_l3Same _ _ hr2.1) ?_
          simp (maxSteps := 4000000) (disch := omega) only [go_sem, w64, AndB_of, IfB_of, IfB_no, pickE_of, pickE_no, ite_of, ite_no, tdivE, tmodE, takeAll]
          refine IfB.dec (fun c3 => ?_) (fun c3 => ?_)
          · have e : nbK l (j + 1 + 1) = nbK l (j + 1) := nbK_no (by
              rw [nb_ne h1' (by omega)]
              rintro (e | e)
              · omega
              · exact e c3)
            simp (maxSteps := 4000000) (disch := omega) only [go_sem, w64, AndB_of, IfB_of, IfB_no, pickE_of, pickE_no, ite_of, ite_no, tdivE, tmodE, takeAll]
            refine ⟨⟨by omega, by omega, by rw [e, ← hc], by rw [e, hm], hy⟩, by omega, ?_⟩
            ((repeat' apply And.intro) <;> first | (exact Weak.go (by (first | (simp [wkL]; done) | (simp [wkL]; omega))) (fun zi => by first | exact .inl rfl | exact .inr rfl | (simp only [upd]; repeat' split) <;> first | exact .inl rfl | exact .inr rfl | (exfalso; omega) | exact .inr (hd _ (by omega)) | (left; subst_vars; exact hH.symm) | (left; subst_vars; rfl) | (left; simp; done) | (left; simp; omega)) (by omega)) | omega | rfl | assumption | exact Flat.nil | exact ⟨_, rfl, rfl, by assumption⟩ | (simp; done) | (simp; omega))
          · have e := nbK_yes h1' (.inr ((nb_ne h1' (by omega)).2 c3))
            simp (maxSteps := 4000000) (disch := omega) only [go_sem, w64, AndB_of, IfB_of, IfB_no, pickE_of, pickE_no, ite_of, ite_no, tdivE, tmodE, takeAll]
            apply CallB.q (q_l3Own l[j + 1] hr.1)
            simp (maxSteps := 4000000) (disch := omega) only [go_sem, w64, AndB_of, IfB_of, IfB_no, pickE_of, pickE_no, ite_of, ite_no, tdivE, tmodE, takeAll]
            refine ⟨⟨by omega, by rw [e, flat_append, ← hc]; rfl, by rw [e, hm]; simp, hy⟩, by omega, ?_⟩
            ((repeat' apply And.intro) <;> first | (exact Weak.go (by (first | (simp [wkL]; done) | (simp [wkL]; omega))) (fun zi => by first | exact .inl rfl | exact .inr rfl | (simp only [upd]; repeat' split) <;> first | exact .inl rfl | exact .inr rfl | (exfalso; omega) | exact .inr (hd _ (by omega)) | (left; subst_vars; exact hH.symm) | (left; subst_vars; rfl) | (left; simp; done) | (left; simp; omega)) (by omega)) | omega | rfl | assumption | exact Flat.nil | exact ⟨_, rfl, rfl, by assumption⟩ | (simp; done) | (simp; omega))
    · simp (maxSteps := 4000000) (disch := omega) only [go_sem, w64, AndB_of, IfB_of, IfB_no, pickE_of, pickE_no, ite_of, ite_no, tdivE, tmodE, takeAll]
      rw [no1 c1]
      rfl
  · have e : nbOnce l = nbK l l.length := if_pos (hch.fin (by omega))
    obtain rfl : k = l.length := by omega
    subst hc hm
    simp (maxSteps := 4000000) (disch := omega) only [go_sem, w64, AndB_of, IfB_of, IfB_no, pickE_of, pickE_no, ite_of, ite_no, tdivE, tmodE, takeAll]
    rw [e]
theorem q_allOk1 (r : GRow) (hl : r.length ≤ 1048576) (hs : ∀ x ∈ r, x.s.size ≤ 9223372036854775807) : QCall Try.prog 165 [rowA r] (.bool (!decide (rowOk r))) := by
  refine qcall_body mixed Try.func165 _ (by unfold Try.f165; rfl) Try.ntmps165 Try.results165 (by decide) 0 (by simp) (by simp [pureL, pureA]) ?_
  simp (maxSteps := 4000000) (disch := omega) only [go_sem, w64, AndB_of, IfB_of, IfB_no, pickE_of, pickE_no, ite_of, ite_no, tdivE, tmodE, takeAll]
  apply CallB.q (q_RowOkI r hl hs)
  simp (maxSteps := 4000000) (disch := omega) only [go_sem, w64, AndB_of, IfB_of, IfB_no, pickE_of, pickE_no, ite_of, ite_no, tdivE, tmodE, takeAll]
theorem q_allOk (l : List GRow) (hl : l.length ≤ 1048576) (hs : ∀ r ∈ l, r.length ≤ 1048576 ∧ ∀ x ∈ r, x.s.size ≤ 9223372036854775807) : QCall Try.prog 132 [rowsA l] (.bool (!(l.any fun r => !decide (rowOk r)))) := by
  refine qcall_body mixed Try.func132 _ (by unfold Try.f132; rfl) Try.ntmps132 Try.results132 (by decide) 0 (by simp) (by simp [pureL, pureA]) ?_
  simp (maxSteps := 4000000) (disch := omega) only [go_sem, w64, AndB_of, IfB_of, IfB_no, pickE_of, pickE_no, ite_of, ite_no, tdivE, tmodE, takeAll]
  apply CallB.q (q_ContainsFuncR l 165 [] rfl (fun r => !decide (rowOk r)) hl fun r hr => q_allOk1 r (hs r hr).1 (hs r hr).2)
  simp (maxSteps := 4000000) (disch := omega) only [go_sem, w64, AndB_of, IfB_of, IfB_no, pickE_of, pickE_no, ite_of, ite_no, tdivE, tmodE, takeAll]
theorem q_IsSorted (l : List GRow) (hl : l.length ≤ 1048576) (hs : ∀ r ∈ l, r.length ≤ 1048576) : QCall Try.prog 133 [rowsA l, .fn 89 []] (.bool (decide (leAll l))) := by
  refine qcall_body mixed Try.func133 _ (by unfold Try.f133; rfl) Try.ntmps133 Try.results133 (by decide) 0 (by simp) (by simp [pureL, pureA]) ?_
  unfold rowsA
  simp (maxSteps := 4000000) (disch := omega) only [go_sem, w64, AndB_of, IfB_of, IfB_no, pickE_of, pickE_no, ite_of, ite_no, tdivE, tmodE, takeAll]
  refine LoopB.auto (fun zs => intOf (slotOf zs 5)) (fun zz => [(0, none), (0, none), (3, some (.int .i64 (zz : Int)))]) (fun zz => noH) (fun zz => 0) (fun zz => zz.toNat) (fun zz => -1 ≤ zz ∧ zz + 1 ≤ l.length ∧ ∀ j (h : j + 1 < l.length), zz ≤ j → rowLe l[j] l[j + 1]) (by (first | simp (maxSteps := 4000000) (disch := omega) only [go_sem, w64, AndB_of, IfB_of, IfB_no, pickE_of, pickE_no, ite_of, ite_no, tdivE, tmodE, takeAll, hH] | simp (maxSteps := 4000000) (disch := omega) only [go_sem, w64, AndB_of, IfB_of, IfB_no, pickE_of, pickE_no, ite_of, ite_no, tdivE, tmodE, takeAll]); ((repeat' apply And.intro) <;> first | exact fun j h hj => by omega | (exact Weak.go (by (first | (simp [wkL]; done) | (simp [wkL]; omega))) (fun zi => by first | exact .inl rfl | exact .inr rfl | (simp only [upd]; repeat' split) <;> first | exact fun j h hj => by omega | exact .inl rfl | exact .inr rfl | (exfalso; omega) | exact .inr (hd _ (by omega)) | (left; subst_vars; exact hH.symm) | (left; subst_vars; rfl) | (left; simp; done) | (left; simp; omega)) (by omega)) | omega | rfl | assumption | exact Flat.nil | exact ⟨_, rfl, rfl, by assumption⟩ | (simp; done) | (simp; omega))) ?_
  intro i zh
  obtain ⟨hi0, hi1, hall⟩ := zh
  simp (maxSteps := 4000000) (disch := omega) only [go_sem, w64, AndB_of, IfB_of, IfB_no, pickE_of, pickE_no, ite_of, ite_no, tdivE, tmodE, takeAll]
  refine IfB.dec (fun h1 => ?_) (fun h1 => ?_)
  · obtain ⟨j, rfl⟩ : ∃ j : Nat, i = (j : Int) + 1 := ⟨(i - 1).toNat, by omega⟩
    have hj1 : j + 1 < l.length := by omega
    have e1 : (((j : Int) + 1) - 1) = j := by omega
    simp (maxSteps := 4000000) (disch := omega) only [go_sem, w64, AndB_of, IfB_of, IfB_no, pickE_of, pickE_no, ite_of, ite_no, tdivE, tmodE, takeAll]
    refine DrawB.quiet (by kernel_rfl) ?_
    simp (maxSteps := 4000000) (disch := omega) only [go_sem, w64, AndB_of, IfB_of, IfB_no, pickE_of, pickE_no, ite_of, ite_no, tdivE, tmodE, takeAll, e1]
    refine DCallB.q0 (q_rowOrder l[j + 1] l[j] (hs _ (List.getElem_mem _)) (hs _ (List.getElem_mem _))) ?_
    have hneg := rowOrd_neg l[j] l[j + 1]
    simp (maxSteps := 4000000) (disch := omega) only [go_sem, w64, AndB_of, IfB_of, IfB_no, pickE_of, pickE_no, ite_of, ite_no, tdivE, tmodE, takeAll]
    refine IfB.dec (fun c1 => ?_) (fun c1 => ?_)
    · simp (maxSteps := 4000000) (disch := omega) only [go_sem, w64, AndB_of, IfB_of, IfB_no, pickE_of, pickE_no, ite_of, ite_no, tdivE, tmodE, takeAll]
      rw [decide_eq_false (fun e => by have := e j hj1; unfold rowLe at this; omega)]
    · simp (maxSteps := 4000000) (disch := omega) only [go_sem, w64, AndB_of, IfB_of, IfB_no, pickE_of, pickE_no, ite_of, ite_no, tdivE, tmodE, takeAll]
      ((repeat' apply And.intro) <;> first | exact (fun q hq hqi => by by_cases e : q = j; (subst e; unfold rowLe; omega); exact hall q hq (by omega)) | (exact Weak.go (by (first | (simp [wkL]; done) | (simp [wkL]; omega))) (fun zi => by first | exact .inl rfl | exact .inr rfl | (simp only [upd]; repeat' split) <;> first | exact (fun q hq hqi => by by_cases e : q = j; (subst e; unfold rowLe; omega); exact hall q hq (by omega)) | exact .inl rfl | exact .inr rfl | (exfalso; omega) | exact .inr (hd _ (by omega)) | (left; subst_vars; exact hH.symm) | (left; subst_vars; rfl) | (left; simp; done) | (left; simp; omega)) (by omega)) | omega | rfl | assumption | exact Flat.nil | exact ⟨_, rfl, rfl, by assumption⟩ | (simp; done) | (simp; omega))
  · simp (maxSteps := 4000000) (disch := omega) only [go_sem, w64, AndB_of, IfB_of, IfB_no, pickE_of, pickE_no, ite_of, ite_no, tdivE, tmodE, takeAll]
    rw [decide_eq_true (show leAll l from fun j hj => hall j hj (by omega))]
theorem q_inOrder (l : List GRow) (hl : l.length ≤ 1048576) (hs : ∀ r ∈ l, r.length ≤ 1048576 ∧ ∀ x ∈ r, x.s.size ≤ 9223372036854775807) : QCall Try.prog 67 [rowsA l] (.bool (decide (srtd l))) := by
  refine qcall_body mixed Try.func67 _ (by unfold Try.f67; rfl) Try.ntmps67 Try.results67 (by decide) 0 (by simp) (by simp [pureL, pureA]) ?_
  simp (maxSteps := 4000000) (disch := omega) only [go_sem, w64, AndB_of, IfB_of, IfB_no, pickE_of, pickE_no, ite_of, ite_no, tdivE, tmodE, takeAll]
  apply CallB.q (q_allOk l hl hs)
  simp (maxSteps := 4000000) (disch := omega) only [go_sem, w64, AndB_of, IfB_of, IfB_no, pickE_of, pickE_no, ite_of, ite_no, tdivE, tmodE, takeAll]
  rw [srtd_iff]
  repeat' (first | (refine IfB.dec2 (fun h hd => ?_) (fun h hd => ?_) <;> (try (have h2 := h; unfold inR at h2)) <;> (try simp (maxSteps := 4000000) (disch := omega) only [go_sem, w64, AndB_of, IfB_of, IfB_no, pickE_of, pickE_no, ite_of, ite_no, tdivE, tmodE, takeAll, hd])) | (refine IfB.split (fun h => ?_) (fun h => ?_) <;> (try simp (maxSteps := 4000000) (disch := omega) only [go_sem, w64, AndB_of, IfB_of, IfB_no, pickE_of, pickE_no, ite_of, ite_no, tdivE, tmodE, takeAll, h])) | (refine DrawB.quiet (by kernel_rfl) ?_; simp (maxSteps := 4000000) (disch := omega) only [go_sem, w64, AndB_of, IfB_of, IfB_no, pickE_of, pickE_no, ite_of, ite_no, tdivE, tmodE, takeAll]) | (apply CallB.q (q_IsSorted l hl (fun r hr => (hs r hr).1)); simp (maxSteps := 4000000) (disch := omega) only [go_sem, w64, AndB_of, IfB_of, IfB_no, pickE_of, pickE_no, ite_of, ite_no, tdivE, tmodE, takeAll]) | (apply DCallB.q0 (q_IsSorted l hl (fun r hr => (hs r hr).1)); simp (maxSteps := 4000000) (disch := omega) only [go_sem, w64, AndB_of, IfB_of, IfB_no, pickE_of, pickE_no, ite_of, ite_no, tdivE, tmodE, takeAll]))
  all_goals simp [*]
theorem d_CompactFunc {H : AH} {nx id ver : Nat} (l : List GRow) (f : FuncId) (hl : l.length ≤ 1048576) (hid : id < nx) (hH : H id = .live ver (flat cR l)) (hf : ∀ a ∈ l, ∀ b ∈ l, QCall Try.prog f [rowA a, rowA b] (.bool (decide (a = b)))) :
    ACallD Try.prog 69 [.msl id ver 1 0 l.length, .fn f []] H nx (fun r H' nx' => r = .msl id ver 1 0 (nbK l l.length).length ∧ (∃ rest, H' = upd H id (.live ver (flat cR (nbK l l.length) ++ rest))) ∧ nx ≤ nx') := by
  refine dcall_body mixed Try.func69 _ (by unfold Try.f69; rfl) Try.ntmps69 Try.results69 (by decide) (by simp) ?_
  simp (maxSteps := 4000000) (disch := omega) only [go_sem, w64, AndB_of, IfB_of, IfB_no, pickE_of, pickE_no, ite_of, ite_no, tdivE, tmodE, takeAll, hH]
  refine IfB.dec (fun h0 => ?_) (fun h0 => ?_)
  · have e : nbK l l.length = l := by
      have := nbK_all (l := l) (k := l.length) (Nat.le_refl _) fun j h0 hj => by omega
      rwa [List.take_length] at this
    simp (maxSteps := 4000000) (disch := omega) only [go_sem, w64, AndB_of, IfB_of, IfB_no, pickE_of, pickE_no, ite_of, ite_no, tdivE, tmodE, takeAll, e]
    exact ⟨⟨[], by rw [List.append_nil, ← hH]; funext i; simp [upd]; intro e; rw [e]⟩, Nat.le_refl _⟩
  · simp (maxSteps := 4000000) (disch := omega) only [go_sem, w64, AndB_of, IfB_of, IfB_no, pickE_of, pickE_no, ite_of, ite_no, tdivE, tmodE, takeAll]
    refine LoopB.auto (fun zs => (intOf (slotOf zs 5)).toNat) (fun zz => [(0, none), (0, none), (3, some (.int .i64 (zz : Int)))]) (fun zz => upd H id (.live ver (flat cR l))) (fun zz => nx) (fun zz => l.length - zz) (fun zz => 1 ≤ zz ∧ zz ≤ l.length ∧ (∀ j, 0 < j → j < zz → l[j - 1]? ≠ l[j]?)) (by (first | simp (maxSteps := 4000000) (disch := omega) only [go_sem, w64, AndB_of, IfB_of, IfB_no, pickE_of, pickE_no, ite_of, ite_no, tdivE, tmodE, takeAll, hH] | simp (maxSteps := 4000000) (disch := omega) only [go_sem, w64, AndB_of, IfB_of, IfB_no, pickE_of, pickE_no, ite_of, ite_no, tdivE, tmodE, takeAll]); ((repeat' apply And.intro) <;> first | exact fun j h0 hj => by omega | (exact Weak.go (by (first | (simp [wkL]; done) | (simp [wkL]; omega))) (fun zi => by first | exact .inl rfl | exact .inr rfl | (simp only [upd]; repeat' split) <;> first | exact fun j h0 hj => by omega | exact .inl rfl | exact .inr rfl | (exfalso; omega) | exact .inr (hd _ (by omega)) | (left; subst_vars; exact hH.symm) | (left; subst_vars; rfl) | (left; simp; done) | (left; simp; omega)) (by omega)) | omega | rfl | assumption | exact Flat.nil | exact ⟨_, rfl, rfl, by assumption⟩ | (simp; done) | (simp; omega))) ?_
    intro k zh
    obtain ⟨hk1, hk, hne⟩ := zh
    simp (maxSteps := 4000000) (disch := omega) only [go_sem, w64, AndB_of, IfB_of, IfB_no, pickE_of, pickE_no, ite_of, ite_no, tdivE, tmodE, takeAll]
    refine IfB.dec (fun h1 => ?_) (fun h1 => ?_)
    · obtain ⟨j, rfl⟩ : ∃ j, k = j + 1 := ⟨k - 1, by omega⟩
      have h1' : j + 1 < l.length := by omega
      simp (maxSteps := 4000000) (disch := omega) only [go_sem, w64, AndB_of, IfB_of, IfB_no, pickE_of, pickE_no, ite_of, ite_no, tdivE, tmodE, takeAll]
      refine DrawB.quiet (by kernel_rfl) ?_
      simp (maxSteps := 4000000) (disch := omega) only [go_sem, w64, AndB_of, IfB_of, IfB_no, pickE_of, pickE_no, ite_of, ite_no, tdivE, tmodE, takeAll]
      refine DCallB.q0 (hf _ (List.getElem_mem h1') _ (List.getElem_mem (by omega : j < l.length))) ?_
      simp (maxSteps := 4000000) (disch := omega) only [go_sem, w64, AndB_of, IfB_of, IfB_no, pickE_of, pickE_no, ite_of, ite_no, tdivE, tmodE, takeAll]
      refine IfB.dec (fun c1 => ?_) (fun c1 => ?_)
      · simp (maxSteps := 4000000) (disch := omega) only [go_sem, w64, AndB_of, IfB_of, IfB_no, pickE_of, pickE_no, ite_of, ite_no, tdivE, tmodE, takeAll]
        have i1 : nbK l (j + 1) = l.take (j + 1) := nbK_all (by omega) hne
        have i2 : nbK l (j + 1 + 1) = l.take (j + 1) := by
          rw [nbK_no (by rw [nb_ne h1' (by omega)]; rintro (e | e); omega; exact e c1.symm), i1]
        have i3 : (l.take (j + 1)).length = j + 1 := by simp; omega
        have i4 : flat cR l = flat cR (nbK l (j + 1 + 1) ++ l.drop (j + 1)) := by rw [i2, List.take_append_drop]
        refine LoopB.auto (fun zs => ((intOf (slotOf zs 5)).toNat, (intOf (slotOf zs 7)).toNat, cellsOf (blkOf zs (id)))) (fun zz => [(0, none), (0, none), (3, some (.int .i64 (zz.1 : Int))), (0, none), (0, some (.int .i64 (zz.2.1 : Int)))]) (fun zz => upd H id (.live ver zz.2.2)) (fun zz => nx) (fun zz => l.length - zz.2.1) (fun zz => 1 ≤ zz.2.1 ∧ j + 1 + zz.2.1 ≤ l.length ∧ (nbK l (j + 1 + zz.2.1)).length = zz.1 ∧ zz.1 + 1 ≤ j + 1 + zz.2.1 ∧ zz.2.2 = flat cR (nbK l (j + 1 + zz.2.1) ++ l.drop zz.1)) (by (first | simp (maxSteps := 4000000) (disch := omega) only [go_sem, w64, AndB_of, IfB_of, IfB_no, pickE_of, pickE_no, ite_of, ite_no, tdivE, tmodE, takeAll, hH] | simp (maxSteps := 4000000) (disch := omega) only [go_sem, w64, AndB_of, IfB_of, IfB_no, pickE_of, pickE_no, ite_of, ite_no, tdivE, tmodE, takeAll]); ((repeat' apply And.intro) <;> first | exact (by rw [i2, i3]) | exact i4 | (exact Weak.go (by (first | (simp [wkL]; done) | (simp [wkL]; omega))) (fun zi => by first | exact .inl rfl | exact .inr rfl | (simp only [upd]; repeat' split) <;> first | exact (by rw [i2, i3]) | exact i4 | exact .inl rfl | exact .inr rfl | (exfalso; omega) | exact .inr (hd _ (by omega)) | (left; subst_vars; exact hH.symm) | (left; subst_vars; rfl) | (left; simp; done) | (left; simp; omega)) (by omega)) | omega | rfl | assumption | exact Flat.nil | exact ⟨_, rfl, rfl, by assumption⟩ | (simp; done) | (simp; omega))) ?_
        intro zz zh
        obtain ⟨kk, q, cells⟩ := zz
        dsimp only at zh
        obtain ⟨hq1, hq2, hkk, hkl, hc⟩ := zh
        simp (maxSteps := 4000000) (disch := omega) only [go_sem, w64, AndB_of, IfB_of, IfB_no, pickE_of, pickE_no, ite_of, ite_no, tdivE, tmodE, takeAll]
        have hlen : cells.length = l.length := by rw [hc, nb_len hkk (by omega)]
        refine IfB.dec (fun c2 => ?_) (fun c2 => ?_)
        · have c2' : j + 1 + q < l.length := by omega
          have g1 : cells.getD (j + 1 + q) .junk = rowA l[j + 1 + q] := by rw [hc]; exact nb_mid hkk (by omega) c2'
          have g2 : cells.getD (j + 1 + ((q : Int) - 1).toNat) .junk = rowA (l[j + q]'(by omega)) := by
            have : j + 1 + ((q : Int) - 1).toNat = j + q := by omega
            rw [this]
            exact (congrArg (fun c : List AV => c.getD (j + q) .junk) hc).trans (nb_mid hkk (by omega) (by omega))
          have en : l[j + 1 + q - 1]? = l[j + q]? := by congr 1; omega
          have ek : nbK l (j + 1 + (q + 1)) = nbK l (j + 1 + q + 1) := by congr 1
          simp (maxSteps := 4000000) (disch := omega) only [go_sem, w64, AndB_of, IfB_of, IfB_no, pickE_of, pickE_no, ite_of, ite_no, tdivE, tmodE, takeAll]
          refine DrawB.quiet (by kernel_rfl) ?_
          simp (maxSteps := 4000000) (disch := omega) only [go_sem, w64, AndB_of, IfB_of, IfB_no, pickE_of, pickE_no, ite_of, ite_no, tdivE, tmodE, takeAll, g1, g2]
          refine DCallB.q0 (hf _ (List.getElem_mem c2') _ (List.getElem_mem (by omega : j + q < l.length))) ?_
          simp (maxSteps := 4000000) (disch := omega) only [go_sem, w64, AndB_of, IfB_of, IfB_no, pickE_of, pickE_no, ite_of, ite_no, tdivE, tmodE, takeAll]
          refine IfB.dec (fun c3 => ?_) (fun c3 => ?_)
          · have e : nbK l (j + 1 + (q + 1)) = nbK l (j + 1 + q) := by
              rw [ek]
              refine nbK_no ?_
              rw [en, List.getElem?_eq_getElem c2', List.getElem?_eq_getElem (by omega : j + q < l.length)]
              rintro (e | e)
              · omega
              · exact e (by rw [c3])
            simp (maxSteps := 4000000) (disch := omega) only [go_sem, w64, AndB_of, IfB_of, IfB_no, pickE_of, pickE_no, ite_of, ite_no, tdivE, tmodE, takeAll]
            refine ⟨⟨by omega, by rw [e]; exact hkk, by omega, by rw [e]; exact hc⟩, by omega, ?_⟩
            ((repeat' apply And.intro) <;> first | (exact Weak.go (by (first | (simp [wkL]; done) | (simp [wkL]; omega))) (fun zi => by first | exact .inl rfl | exact .inr rfl | (simp only [upd]; repeat' split) <;> first | exact .inl rfl | exact .inr rfl | (exfalso; omega) | exact .inr (hd _ (by omega)) | (left; subst_vars; exact hH.symm) | (left; subst_vars; rfl) | (left; simp; done) | (left; simp; omega)) (by omega)) | omega | rfl | assumption | exact Flat.nil | exact ⟨_, rfl, rfl, by assumption⟩ | (simp; done) | (simp; omega))
          · have e : nbK l (j + 1 + (q + 1)) = nbK l (j + 1 + q) ++ [l[j + 1 + q]] := by
              rw [ek]
              refine nbK_yes c2' (.inr ?_)
              rw [en, List.getElem?_eq_getElem c2', List.getElem?_eq_getElem (by omega : j + q < l.length)]
              intro e
              exact c3 (Option.some.inj e).symm
            have ep : cells.take kk ++ [rowA l[j + 1 + q]] ++ cells.drop (kk + 1) = flat cR (nbK l (j + 1 + (q + 1)) ++ l.drop (kk + 1)) := by
              rw [hc, e]
              exact nb_put hkk (by omega)
            simp (maxSteps := 4000000) (disch := omega) only [go_sem, w64, AndB_of, IfB_of, IfB_no, pickE_of, pickE_no, ite_of, ite_no, tdivE, tmodE, takeAll, g1]
            refine ⟨⟨by omega, by rw [e]; simp; omega, by omega, ep⟩, by omega, ?_⟩
            ((repeat' apply And.intro) <;> first | (exact Weak.go (by (first | (simp [wkL]; done) | (simp [wkL]; omega))) (fun zi => by first | exact .inl rfl | exact .inr rfl | (simp only [upd]; repeat' split) <;> first | exact .inl rfl | exact .inr rfl | (exfalso; omega) | exact .inr (hd _ (by omega)) | (left; subst_vars; exact hH.symm) | (left; subst_vars; rfl) | (left; simp; done) | (left; simp; omega)) (by omega)) | omega | rfl | assumption | exact Flat.nil | exact ⟨_, rfl, rfl, by assumption⟩ | (simp; done) | (simp; omega))
        · have eq2 : j + 1 + q = l.length := by omega
          rw [eq2] at hkk hc
          simp (maxSteps := 4000000) (disch := omega) only [go_sem, w64, AndB_of, IfB_of, IfB_no, pickE_of, pickE_no, ite_of, ite_no, tdivE, tmodE, takeAll]
          rw [hkk]
          refine ⟨rfl, ⟨(List.replicate ((l.length : Int) - kk).toNat [AV.sl 0 true []]).flatten ++ cells.drop (kk + ((l.length : Int) - kk).toNat), ?_⟩, Nat.le_refl _⟩
          have : cells.take kk = flat cR (nbK l l.length) := by
            rw [hc, flat_append]
            have e5 : (flat cR (nbK l l.length)).length = kk := by rw [cR_flen]; exact hkk
            rw [← e5, List.take_left]
          rw [this, List.append_assoc]
      · simp (maxSteps := 4000000) (disch := omega) only [go_sem, w64, AndB_of, IfB_of, IfB_no, pickE_of, pickE_no, ite_of, ite_no, tdivE, tmodE, takeAll]
        ((repeat' apply And.intro) <;> first | exact (fun q h0 hq => by by_cases e : q = j + 1; (subst e; exact (nb_ne h1' (by omega)).2 (fun e => c1 e.symm)); exact hne q h0 (by omega)) | (exact Weak.go (by (first | (simp [wkL]; done) | (simp [wkL]; omega))) (fun zi => by first | exact .inl rfl | exact .inr rfl | (simp only [upd]; repeat' split) <;> first | exact (fun q h0 hq => by by_cases e : q = j + 1; (subst e; exact (nb_ne h1' (by omega)).2 (fun e => c1 e.symm)); exact hne q h0 (by omega)) | exact .inl rfl | exact .inr rfl | (exfalso; omega) | exact .inr (hd _ (by omega)) | (left; subst_vars; exact hH.symm) | (left; subst_vars; rfl) | (left; simp; done) | (left; simp; omega)) (by omega)) | omega | rfl | assumption | exact Flat.nil | exact ⟨_, rfl, rfl, by assumption⟩ | (simp; done) | (simp; omega))
    · have e : nbK l l.length = l := by
        have := nbK_all (l := l) (k := l.length) (Nat.le_refl _) fun j h0 hj => hne j h0 (by omega)
        rwa [List.take_length] at this
      simp (maxSteps := 4000000) (disch := omega) only [go_sem, w64, AndB_of, IfB_of, IfB_no, pickE_of, pickE_no, ite_of, ite_no, tdivE, tmodE, takeAll, e]
      exact ⟨⟨[], by rw [List.append_nil]⟩, Nat.le_refl _⟩
theorem f_NeighboursOnceI (l : List GRow) (hl : l.length ≤ 1048576) (hs : ∀ r ∈ l, r.length ≤ 1048576 ∧ ∀ x ∈ r, x.s.size ≤ 9223372036854775807) : ACallD Try.prog 17 [rowsA l] noH 0 (fun r H' n' => OwnR H' 0 n' (rowsA (nbOnce l)) r) := by
  refine dcall_body mixed Try.func17 _ (by unfold Try.f17; rfl) Try.ntmps17 Try.results17 (by decide) (by simp) ?_
  simp (maxSteps := 4000000) (disch := omega) only [go_sem, w64, AndB_of, IfB_of, IfB_no, pickE_of, pickE_no, ite_of, ite_no, tdivE, tmodE, takeAll]
  apply CallB.q (q_inOrder l hl hs)
  simp (maxSteps := 4000000) (disch := omega) only [go_sem, w64, AndB_of, IfB_of, IfB_no, pickE_of, pickE_no, ite_of, ite_no, tdivE, tmodE, takeAll]
  refine IfB.dec (fun c1 => ?_) (fun c1 => ?_)
  · unfold rowsA
    simp (maxSteps := 4000000) (disch := omega) only [go_sem, w64, AndB_of, IfB_of, IfB_no, pickE_of, pickE_no, ite_of, ite_no, tdivE, tmodE, takeAll]
    apply CallB.of (c_CloneR l false hl)
    simp (maxSteps := 4000000) (disch := omega) only [go_sem, w64, AndB_of, IfB_of, IfB_no, pickE_of, pickE_no, ite_of, ite_no, tdivE, tmodE, takeAll]
    refine CallB.law (d_CompactFunc l 71 hl (by omega) (upd_same ..) (fun a ha b hb => q_Equal a b (hs a ha).1)) ?_
    rintro _ _ n2 ⟨rfl, ⟨rest, rfl⟩, hn⟩
    simp (maxSteps := 4000000) (disch := omega) only [go_sem, w64, AndB_of, IfB_of, IfB_no, pickE_of, pickE_no, ite_of, ite_no, tdivE, tmodE, takeAll]
    have e : nbOnce l = nbK l l.length := if_pos c1
    rw [e]
    refine CallB.fresh (Pict.msl cR_len cR_pure (upd_same ..)) (f_rowsCopy _ (Nat.le_trans (nbK_len l _) hl) (fun r hr => (hs r (nbK_mem r hr)).1)) fun r H3 n3 hO hn3 hH3 => ?_
    simp (maxSteps := 4000000) (disch := omega) only [go_sem, w64, AndB_of, IfB_of, IfB_no, pickE_of, pickE_no, ite_of, ite_no, tdivE, tmodE, takeAll]
    exact hO.mono (by omega) (by omega)
  · simp (maxSteps := 4000000) (disch := omega) only [go_sem, w64, AndB_of, IfB_of, IfB_no, pickE_of, pickE_no, ite_of, ite_no, tdivE, tmodE, takeAll]
    have e : nbOnce l = [] := if_neg c1
    rw [e]
    exact OwnR.nilS
end Go.TH
