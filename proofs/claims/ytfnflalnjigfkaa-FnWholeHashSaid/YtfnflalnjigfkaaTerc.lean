/- TH: copies of rows: the walks. Made by gen.py. -/
import Derived.Test.YtfnflalnjigfkaaTf3
import Derived.Test.YtfnflalnjigfkaaTesl
import Derived.Test.YtfnflalnjigfkaaTeow3
namespace Go.TH
open Go Go.Proofs
set_option linter.unusedSimpArgs false
set_option linter.unusedVariables false
set_option maxHeartbeats 20000000
set_option maxRecDepth 100000
theorem GVal_plain : ∀ a, ∀ p ∈ GVal.c a, plainA p = true := fun a p hp => by simp [GVal.c] at hp; rcases hp with rfl | rfl | rfl <;> rfl
theorem f_cloneV (l : List GVal) (hl : l.length ≤ 1048576) : ACallD Try.prog 85 [rowA l] noH 0 (fun r H' n' => OwnR H' 0 n' (rowA l) r) :=
  (d_cloneV l hl).mono fun r H' n' ⟨e1, e2, e3⟩ => by
    subst e1 e2 e3
    exact OwnR.flat GVal.len GVal_plain (upd_same ..) (by omega) (by omega)
theorem f_rowsCopy (l : List GRow) (hl : l.length ≤ 1048576) (hs : ∀ x ∈ l, x.length ≤ 1048576) : ACallD Try.prog 68 [rowsA l] noH 0 (fun r H' n' => OwnR H' 0 n' (rowsA l) r) := by
  refine dcall_body mixed Try.func68 _ (by unfold Try.f68; rfl) Try.ntmps68 Try.results68 (by decide) (by simp) ?_
  unfold rowsA
  simp (maxSteps := 4000000) (disch := omega) only [go_sem, w64, AndB_of, IfB_of, IfB_no, pickE_of, pickE_no, ite_of, ite_no, tdivE, tmodE, takeAll]
  refine LoopB.weak (Weak.nil 3 1 rfl) ?_
  simp only [List.set_cons_succ, List.set_cons_zero]
  refine LoopB.auto (fun zs => (heapOf zs, nxOf zs, (intOf (slotOf zs 8)).toNat, verOf (blkOf zs (0)), cellsOf (blkOf zs (0)))) (fun zz => [(3, some (.msl 0 zz.2.2.2.1 1 0 zz.2.2.1)), (2, none), (0, none), (0, some (.int .i64 (zz.2.2.1 : Int)))]) (fun zz => zz.1) (fun zz => zz.2.1) (fun zz => l.length - zz.2.2.1) (fun zz => zz.2.2.1 ≤ l.length ∧ 0 < zz.2.1 ∧ Grow zz.1 0 zz.2.2.2.1 zz.2.2.2.2 0 zz.2.1 (flat cR (l.take zz.2.2.1))) (by (first | simp (maxSteps := 4000000) (disch := omega) only [go_sem, w64, AndB_of, IfB_of, IfB_no, pickE_of, pickE_no, ite_of, ite_no, tdivE, tmodE, takeAll, hH] | simp (maxSteps := 4000000) (disch := omega) only [go_sem, w64, AndB_of, IfB_of, IfB_no, pickE_of, pickE_no, ite_of, ite_no, tdivE, tmodE, takeAll]); ((repeat' apply And.intro) <;> first | exact Grow.nil (upd_same ..) | (exact Weak.go (by (first | (simp [wkL]; done) | (simp [wkL]; omega))) (fun zi => by first | exact .inl rfl | exact .inr rfl | (simp only [upd]; repeat' split) <;> first | exact Grow.nil (upd_same ..) | exact .inl rfl | exact .inr rfl | (exfalso; omega) | exact .inr (hd _ (by omega)) | (left; subst_vars; exact hH.symm) | (left; subst_vars; rfl) | (left; simp; done) | (left; simp; omega)) (by omega)) | omega | rfl | assumption | exact Flat.nil | exact ⟨_, rfl, rfl, by assumption⟩ | (simp; done) | (simp; omega))) ?_
  intro zz zh
  obtain ⟨h, x, k, v, cells⟩ := zz
  dsimp only at zh
  obtain ⟨hk, hx, hG⟩ := zh
  simp (maxSteps := 4000000) (disch := omega) only [go_sem, w64, AndB_of, IfB_of, IfB_no, pickE_of, pickE_no, ite_of, ite_no, tdivE, tmodE, takeAll]
  have hl0 := hG.hl
  have hgl := hG.len
  rw [cR_flen, List.length_take, Nat.min_eq_left hk] at hgl
  refine IfB.dec (fun h1 => ?_) (fun h1 => ?_)
  · have h1' : k < l.length := by omega
    simp (maxSteps := 4000000) (disch := omega) only [go_sem, w64, AndB_of, IfB_of, IfB_no, pickE_of, pickE_no, ite_of, ite_no, tdivE, tmodE, takeAll, hl0]
    refine CallB.fresh (Pict.cons (Pict.pure (rowA_pure _)) Pict.nil) (f_cloneV l[k] (hs _ (List.getElem_mem h1'))) fun ra H2 n2 hO hn hH => ?_
    have h0 : H2 0 = .live v cells := by rw [hH 0 hx]; exact hl0
    obtain ⟨S2, h4, hN2, hr2⟩ := hO
    have hca : cellsA H2 ra = some [ra] := h4.cellsA
    simp (maxSteps := 4000000) (disch := omega) only [go_sem, w64, AndB_of, IfB_of, IfB_no, pickE_of, pickE_no, ite_of, ite_no, tdivE, tmodE, takeAll, hca, h0]
    have hG2 : Grow (upd (upd H2 n2 (.live 0 [ra])) 0 (.live (v + 1) (cells ++ [ra]))) 0 (v + 1) (cells ++ [ra]) 0 (n2 + 1) (flat cR (l.take (k + 1))) := by
      rw [flat_succ h1']
      exact hG.snoc (by omega) hx (by omega) (h4.congr fun j hj => by have := hr2 j hj; rw [upd_ne _ _ (by omega), upd_ne _ _ (by omega)]) hN2 (fun j hj => by have := hr2 j hj; omega) (fun j hj hj0 => by rw [upd_ne _ _ hj0, upd_ne _ _ (by omega), hH j hj]) (upd_same ..)
    ((repeat' apply And.intro) <;> first | exact hG2 | (exact Weak.go (by (first | (simp [wkL]; done) | (simp [wkL]; omega))) (fun zi => by first | exact .inl rfl | exact .inr rfl | (simp only [upd]; repeat' split) <;> first | exact hG2 | exact .inl rfl | exact .inr rfl | (exfalso; omega) | exact .inr (hd _ (by omega)) | (left; subst_vars; exact hH.symm) | (left; subst_vars; rfl) | (left; simp; done) | (left; simp; omega)) (by omega)) | omega | rfl | assumption | exact Flat.nil | exact ⟨_, rfl, rfl, by assumption⟩ | (simp; done) | (simp; omega))
  · obtain rfl : k = l.length := by omega
    simp (maxSteps := 4000000) (disch := omega) only [go_sem, w64, AndB_of, IfB_of, IfB_no, pickE_of, pickE_no, ite_of, ite_no, tdivE, tmodE, takeAll, hl0]
    apply CallB.of (c_ClipR hl0)
    simp (maxSteps := 4000000) (disch := omega) only [go_sem, w64, AndB_of, IfB_of, IfB_no, pickE_of, pickE_no, ite_of, ite_no, tdivE, tmodE, takeAll]
    rw [List.take_length] at hG
    exact hG.own (by rw [cR_flen]; simp) (by omega) hx
end Go.TH
