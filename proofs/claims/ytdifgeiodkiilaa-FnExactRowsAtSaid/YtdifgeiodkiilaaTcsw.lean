/- TH: rows at a time, versions swept: the walks. Made by gen.py. -/
import Derived.Test.YtdifgeiodkiilaaTf3
import Derived.Test.YtdifgeiodkiilaaTcsn
namespace Go.TH
open Go Go.Proofs
set_option linter.unusedSimpArgs false
set_option linter.unusedVariables false
set_option maxHeartbeats 20000000
set_option maxRecDepth 100000
theorem f_rowsCopy (l : List GRow) (hl : l.length ≤ 1048576) (hs : ∀ x ∈ l, x.length ≤ 1048576) : ACallD Try.prog 102 [rowsA l] noH 0 (fun r H' n' => OwnR H' 0 n' (rowsA l) r) := by
  refine dcall_body mixed Try.func102 _ (by unfold Try.f102; rfl) Try.ntmps102 Try.results102 (by decide) (by simp) ?_
  unfold rowsA
  simp (maxSteps := 4000000) (disch := omega) only [go_sem, w64, AndB_of, IfB_of, IfB_no, pickE_of, pickE_no, ite_of, ite_no, tdivE, tmodE, takeAll]
  refine LoopB.weak (Weak.nil 3 1 rfl) ?_
  simp only [List.set_cons_succ, List.set_cons_zero]
  refine LoopB.auto (fun zs => (heapOf zs, nxOf zs, (intOf (slotOf zs 8)).toNat, verOf (blkOf zs (0)), cellsOf (blkOf zs (0)))) (fun zz => [(3, some (.msl 0 zz.2.2.2.1 1 0 zz.2.2.1)), (2, none), (0, none), (0, some (.int .i64 (zz.2.2.1 : Int)))]) (fun zz => zz.1) (fun zz => zz.2.1) (fun zz => l.length - zz.2.2.1) (fun zz => zz.2.2.1 ≤ l.length ∧ 0 < zz.2.1 ∧ Grow zz.1 0 zz.2.2.2.1 zz.2.2.2.2 0 zz.2.1 (flat cR (l.take zz.2.2.1))) (by (first | simp (maxSteps := 4000000) (disch := omega) only [go_sem, w64, AndB_of, IfB_of, IfB_no, pickE_of, pickE_no, ite_of, ite_no, tdivE, tmodE, takeAll, hH] | simp (maxSteps := 4000000) (disch := omega) only [go_sem, w64, AndB_of, IfB_of, IfB_no, pickE_of, pickE_no, ite_of, ite_no, tdivE, tmodE, takeAll]); ((repeat' apply And.intro) <;> first | exact Grow.nil (upd_same ..) | (exact Weak.go (by (first | (simp [wkL]; done) | (simp [wkL]; omega))) (fun zi => by first | exact .inl rfl | exact .inr rfl | (simp only [upd]; repeat' split) <;> first | exact Grow.nil (upd_same ..) | exact .inl rfl | exact .inr rfl | (exfalso; omega) | exact .inr (hd _ (by omega)) | (left; subst_vars; exact hH.symm) | (left; subst_vars; rfl) | (left; simp; done) | (left; simp; omega)) (by omega)) | omega | rfl | assumption | exact Flat.nil | exact ⟨_, rfl, rfl, by assumption⟩ | (simp; done) | (simp; omega))) ?_
  intro zz zh
  obtain ⟨h, x, k, v, cells⟩ := zz
  dsimp only at zh
  obtain ⟨hk, hx, hG⟩ := zh
  simp (maxSteps := 4000000) (disch := omega) only [go_sem, w64, AndB_of, IfB_of, IfB_no, pickE_of, pickE_no, ite_of, ite_no, tdivE, tmodE, takeAll]
  have hl0 := hG.hl
  have hgl := hG.len
  rw [cR_flen, List.length_take, Nat.min_eq_left hk] at hgl
  refine IfB.dec (fun h1 => ?_) (fun h1 => ?_)
  · have h1' : k < l.length := by omega
    simp (maxSteps := 4000000) (disch := omega) only [go_sem, w64, AndB_of, IfB_of, IfB_no, pickE_of, pickE_no, ite_of, ite_no, tdivE, tmodE, takeAll, hl0]
    refine CallB.fresh (Pict.cons (Pict.pure (rowA_pure _)) Pict.nil) (f_cloneV l[k] (hs _ (List.getElem_mem h1'))) fun ra H2 n2 hO hn hH => ?_
    have h0 : H2 0 = .live v cells := by rw [hH 0 hx]; exact hl0
    obtain ⟨S2, h4, hN2, hr2⟩ := hO
    have hca : cellsA H2 ra = some [ra] := h4.cellsA
    simp (maxSteps := 4000000) (disch := omega) only [go_sem, w64, AndB_of, IfB_of, IfB_no, pickE_of, pickE_no, ite_of, ite_no, tdivE, tmodE, takeAll, hca, h0]
    have hG2 : Grow (upd (upd H2 n2 (.live 0 [ra])) 0 (.live (v + 1) (cells ++ [ra]))) 0 (v + 1) (cells ++ [ra]) 0 (n2 + 1) (flat cR (l.take (k + 1))) := by
      rw [flat_succ h1']
      exact hG.snoc (by omega) hx (by omega) (h4.congr fun j hj => by have := hr2 j hj; rw [upd_ne _ _ (by omega), upd_ne _ _ (by omega)]) hN2 (fun j hj => by have := hr2 j hj; omega) (fun j hj hj0 => by rw [upd_ne _ _ hj0, upd_ne _ _ (by omega), hH j hj]) (upd_same ..)
    ((repeat' apply And.intro) <;> first | exact hG2 | (exact Weak.go (by (first | (simp [wkL]; done) | (simp [wkL]; omega))) (fun zi => by first | exact .inl rfl | exact .inr rfl | (simp only [upd]; repeat' split) <;> first | exact hG2 | exact .inl rfl | exact .inr rfl | (exfalso; omega) | exact .inr (hd _ (by omega)) | (left; subst_vars; exact hH.symm) | (left; subst_vars; rfl) | (left; simp; done) | (left; simp; omega)) (by omega)) | omega | rfl | assumption | exact Flat.nil | exact ⟨_, rfl, rfl, by assumption⟩ | (simp; done) | (simp; omega))
  · obtain rfl : k = l.length := by omega
    simp (maxSteps := 4000000) (disch := omega) only [go_sem, w64, AndB_of, IfB_of, IfB_no, pickE_of, pickE_no, ite_of, ite_no, tdivE, tmodE, takeAll, hl0]
    apply CallB.of (c_ClipR hl0)
    simp (maxSteps := 4000000) (disch := omega) only [go_sem, w64, AndB_of, IfB_of, IfB_no, pickE_of, pickE_no, ite_of, ite_no, tdivE, tmodE, takeAll]
    rw [List.take_length] at hG
    exact hG.own (by rw [cR_flen]; simp) (by omega) hx
theorem f_versionsCopy (l : List GVer) (hl : l.length ≤ 1048576) (hs : ∀ v ∈ l, v.row.length ≤ 1048576) : ACallD Try.prog 98 [versA l] noH 0 (fun r H' n' => OwnR H' 0 n' (versA l) r) := by
  refine dcall_body mixed Try.func98 _ (by unfold Try.f98; rfl) Try.ntmps98 Try.results98 (by decide) (by simp) ?_
  unfold versA
  simp (maxSteps := 4000000) (disch := omega) only [go_sem, w64, AndB_of, IfB_of, IfB_no, pickE_of, pickE_no, ite_of, ite_no, tdivE, tmodE, takeAll]
  refine LoopB.weak (Weak.nil 3 4 rfl) ?_
  simp only [List.set_cons_succ, List.set_cons_zero]
  refine LoopB.auto (fun zs => (heapOf zs, nxOf zs, (intOf (slotOf zs 8)).toNat, verOf (blkOf zs (0)), cellsOf (blkOf zs (0)))) (fun zz => [(3, some (.msl 0 zz.2.2.2.1 4 0 zz.2.2.1)), (2, none), (0, none), (0, some (.int .i64 (zz.2.2.1 : Int)))]) (fun zz => zz.1) (fun zz => zz.2.1) (fun zz => l.length - zz.2.2.1) (fun zz => zz.2.2.1 ≤ l.length ∧ 0 < zz.2.1 ∧ Grow zz.1 0 zz.2.2.2.1 zz.2.2.2.2 0 zz.2.1 (flat GVer.c (l.take zz.2.2.1))) (by (first | simp (maxSteps := 4000000) (disch := omega) only [go_sem, w64, AndB_of, IfB_of, IfB_no, pickE_of, pickE_no, ite_of, ite_no, tdivE, tmodE, takeAll, hH] | simp (maxSteps := 4000000) (disch := omega) only [go_sem, w64, AndB_of, IfB_of, IfB_no, pickE_of, pickE_no, ite_of, ite_no, tdivE, tmodE, takeAll]); ((repeat' apply And.intro) <;> first | exact Grow.nil (upd_same ..) | (exact Weak.go (by (first | (simp [wkL]; done) | (simp [wkL]; omega))) (fun zi => by first | exact .inl rfl | exact .inr rfl | (simp only [upd]; repeat' split) <;> first | exact Grow.nil (upd_same ..) | exact .inl rfl | exact .inr rfl | (exfalso; omega) | exact .inr (hd _ (by omega)) | (left; subst_vars; exact hH.symm) | (left; subst_vars; rfl) | (left; simp; done) | (left; simp; omega)) (by omega)) | omega | rfl | assumption | exact Flat.nil | exact ⟨_, rfl, rfl, by assumption⟩ | (simp; done) | (simp; omega))) ?_
  intro zz zh
  obtain ⟨h, x, k, v, cells⟩ := zz
  dsimp only at zh
  obtain ⟨hk, hx, hG⟩ := zh
  simp (maxSteps := 4000000) (disch := omega) only [go_sem, w64, AndB_of, IfB_of, IfB_no, pickE_of, pickE_no, ite_of, ite_no, tdivE, tmodE, takeAll]
  have hl0 := hG.hl
  have hgl := hG.len
  rw [flat_len GVer.len, List.length_take, Nat.min_eq_left hk] at hgl
  refine IfB.dec (fun h1 => ?_) (fun h1 => ?_)
  · have h1' : k < l.length := by omega
    simp (maxSteps := 4000000) (disch := omega) only [go_sem, w64, AndB_of, IfB_of, IfB_no, pickE_of, pickE_no, ite_of, ite_no, tdivE, tmodE, takeAll, hl0]
    refine CallB.fresh (Pict.cons (Pict.pure (rowA_pure _)) Pict.nil) (f_cloneV l[k].row (hs _ (List.getElem_mem h1'))) fun ra H2 n2 hO hn hH => ?_
    have h0 : H2 0 = .live v cells := by rw [hH 0 (by omega), upd_ne _ _ (by omega)]; exact hl0
    have hx2 : H2 x = .live 0 [.int .i64 l[k].key, .int .i64 l[k].born, .int .i64 l[k].died, rowA l[k].row] := by rw [hH x (by omega), upd_same]
    obtain ⟨S2, h4, hN2, hr2⟩ := hO
    have hca : cellsA H2 ra = some [ra] := h4.cellsA
    simp (maxSteps := 4000000) (disch := omega) only [go_sem, w64, AndB_of, IfB_of, IfB_no, pickE_of, pickE_no, ite_of, ite_no, tdivE, tmodE, takeAll, hca, h0, hx2]
    have hG2 : Grow (upd (upd (upd H2 x (.live 0 [.int .i64 l[k].key, .int .i64 l[k].born, .int .i64 l[k].died, ra])) n2 (.live 0 [.int .i64 l[k].key, .int .i64 l[k].born, .int .i64 l[k].died, ra])) 0 (.live (v + 1) (cells ++ [.int .i64 l[k].key, .int .i64 l[k].born, .int .i64 l[k].died, ra]))) 0 (v + 1) (cells ++ [.int .i64 l[k].key, .int .i64 l[k].born, .int .i64 l[k].died, ra]) 0 (n2 + 1) (flat GVer.c (l.take (k + 1))) := by
      rw [flat_succ h1']
      exact hG.snoc (by omega) hx (by omega) ((h4.congr fun j hj => by have := hr2 j hj; rw [upd_ne _ _ (by omega), upd_ne _ _ (by omega), upd_ne _ _ (by omega)]).plains) hN2 (fun j hj => by have := hr2 j hj; omega) (fun j hj hj0 => by rw [upd_ne _ _ hj0, upd_ne _ _ (by omega), upd_ne _ _ (by omega), hH j (by omega), upd_ne _ _ (by omega)]) (upd_same ..)
    ((repeat' apply And.intro) <;> first | exact hG2 | (exact Weak.go (by (first | (simp [wkL]; done) | (simp [wkL]; omega))) (fun zi => by first | exact .inl rfl | exact .inr rfl | (simp only [upd]; repeat' split) <;> first | exact hG2 | exact .inl rfl | exact .inr rfl | (exfalso; omega) | exact .inr (hd _ (by omega)) | (left; subst_vars; exact hH.symm) | (left; subst_vars; rfl) | (left; simp; done) | (left; simp; omega)) (by omega)) | omega | rfl | assumption | exact Flat.nil | exact ⟨_, rfl, rfl, by assumption⟩ | (simp; done) | (simp; omega))
  · obtain rfl : k = l.length := by omega
    simp (maxSteps := 4000000) (disch := omega) only [go_sem, w64, AndB_of, IfB_of, IfB_no, pickE_of, pickE_no, ite_of, ite_no, tdivE, tmodE, takeAll, hl0]
    apply CallB.of (c_ClipVr hl0)
    simp (maxSteps := 4000000) (disch := omega) only [go_sem, w64, AndB_of, IfB_of, IfB_no, pickE_of, pickE_no, ite_of, ite_no, tdivE, tmodE, takeAll]
    rw [List.take_length] at hG
    exact hG.own (by rw [flat_len GVer.len]) (by omega) hx
theorem q_SweptAt1 (a : GVer) (time : Int) : QCall Try.prog 101 [.agg [.int .i64 a.key, .int .i64 a.born, .int .i64 a.died, rowA a.row], .ro [.int .i64 time]] (.bool (!sweptP time a)) := by
  refine qcall_body mixed Try.func101 _ (by unfold Try.f101; rfl) Try.ntmps101 Try.results101 (by decide) 0 (by simp) (by simp [pureL, pureA]) ?_
  simp (maxSteps := 4000000) (disch := omega) only [go_sem, w64, AndB_of, IfB_of, IfB_no, pickE_of, pickE_no, ite_of, ite_no, tdivE, tmodE, takeAll]
  repeat' (first | (refine IfB.dec2 (fun h hd => ?_) (fun h hd => ?_) <;> (try (have h2 := h; unfold inR at h2)) <;> (try simp (maxSteps := 4000000) (disch := omega) only [go_sem, w64, AndB_of, IfB_of, IfB_no, pickE_of, pickE_no, ite_of, ite_no, tdivE, tmodE, takeAll, hd])) | (refine IfB.split (fun h => ?_) (fun h => ?_) <;> (try simp (maxSteps := 4000000) (disch := omega) only [go_sem, w64, AndB_of, IfB_of, IfB_no, pickE_of, pickE_no, ite_of, ite_no, tdivE, tmodE, takeAll, h])) | (refine DrawB.quiet (by kernel_rfl) ?_; simp (maxSteps := 4000000) (disch := omega) only [go_sem, w64, AndB_of, IfB_of, IfB_no, pickE_of, pickE_no, ite_of, ite_no, tdivE, tmodE, takeAll]))
  all_goals (unfold sweptP; rw [AV.bool.injEq, Bool.eq_iff_iff]; (try simp only [decide_eq_true_iff]); (try simp only [true_iff, Bool.false_eq_true, false_iff]); simp; omega)
theorem f_SweptAtI (l : List GVer) (hl : l.length ≤ 1048576) (hs : ∀ v ∈ l, v.row.length ≤ 1048576 ∧ ∀ x ∈ v.row, x.s.size ≤ 9223372036854775807) (time : Int) : ACallD Try.prog 40 [versA l, .int .i64 time] noH 0 (fun r H' n' => OwnR H' 0 n' (versA (sweptL l time)) r) := by
  refine dcall_body mixed Try.func40 _ (by unfold Try.f40; rfl) Try.ntmps40 Try.results40 (by decide) (by simp) ?_
  simp (maxSteps := 4000000) (disch := omega) only [go_sem, w64, AndB_of, IfB_of, IfB_no, pickE_of, pickE_no, ite_of, ite_no, tdivE, tmodE, takeAll]
  repeat' (first | (refine IfB.dec2 (fun h hd => ?_) (fun h hd => ?_) <;> (try (have h2 := h; unfold inR at h2)) <;> (try simp (maxSteps := 4000000) (disch := omega) only [go_sem, w64, AndB_of, IfB_of, IfB_no, pickE_of, pickE_no, ite_of, ite_no, tdivE, tmodE, takeAll, hd])) | (refine IfB.split (fun h => ?_) (fun h => ?_) <;> (try simp (maxSteps := 4000000) (disch := omega) only [go_sem, w64, AndB_of, IfB_of, IfB_no, pickE_of, pickE_no, ite_of, ite_no, tdivE, tmodE, takeAll, h])) | (refine DrawB.quiet (by kernel_rfl) ?_; simp (maxSteps := 4000000) (disch := omega) only [go_sem, w64, AndB_of, IfB_of, IfB_no, pickE_of, pickE_no, ite_of, ite_no, tdivE, tmodE, takeAll]) | (apply CallB.q (q_VersionsOkI l hl hs); simp (maxSteps := 4000000) (disch := omega) only [go_sem, w64, AndB_of, IfB_of, IfB_no, pickE_of, pickE_no, ite_of, ite_no, tdivE, tmodE, takeAll]) | (apply DCallB.q0 (q_VersionsOkI l hl hs); simp (maxSteps := 4000000) (disch := omega) only [go_sem, w64, AndB_of, IfB_of, IfB_no, pickE_of, pickE_no, ite_of, ite_no, tdivE, tmodE, takeAll]))
  · unfold versA
    apply CallB.of (c_CloneVr l false hl)
    simp (maxSteps := 4000000) (disch := omega) only [go_sem, w64, AndB_of, IfB_of, IfB_no, pickE_of, pickE_no, ite_of, ite_no, tdivE, tmodE, takeAll]
    refine CallB.law (d_DeleteFuncVr l 101 [.ptr 0 0 0] (fun m => !sweptP time m) hl (by omega) (fun i hi => ?_) (upd_same ..) (fun H' => ?_) (fun H' hH v hv => ?_)) ?_
    · rw [upd_ne _ _ (by omega), upd_ne _ _ (by omega)]; rfl
    · simp [pureL, snapA_pure]
    · have e0 : H' 0 = .live 0 [.int .i64 time] := by rw [hH 0 (by omega) (by omega)]; rfl
      have := q_SweptAt1 v time
      simpa [go_sem, e0] using this
    rintro _ H2 n2 ⟨rfl, rfl, hn⟩
    simp (maxSteps := 4000000) (disch := omega) only [go_sem, w64, AndB_of, IfB_of, IfB_no, pickE_of, pickE_no, ite_of, ite_no, tdivE, tmodE, takeAll]
    have ek : keptL (fun m => !sweptP time m) l = sweptL l time := by
      unfold sweptL keptL
      rw [if_pos (by assumption)]
      simp
    rw [ek]
    refine CallB.fresh (Pict.msl GVer.len GVer.pure (upd_same ..)) (f_versionsCopy _ (sweptL_len hl) (sweptL_all fun v hv => (hs v hv).1)) fun r H3 n3 hO hn3 hH3 => ?_
    simp (maxSteps := 4000000) (disch := omega) only [go_sem, w64, AndB_of, IfB_of, IfB_no, pickE_of, pickE_no, ite_of, ite_no, tdivE, tmodE, takeAll]
    exact hO.mono (by omega) (by omega)
  all_goals (unfold sweptL; rw [if_neg (by assumption)]; exact OwnR.nilS)
theorem q_SweptAtS (l : List GVer) (hl : l.length ≤ 1048576) (hs : ∀ v ∈ l, v.row.length ≤ 1048576 ∧ ∀ x ∈ v.row, x.s.size ≤ 9223372036854775807) (time : Int) : QCall Try.prog 39 [versA l, .int .i64 time] (versA (sweptL l time)) := by
  refine qcall_bodyL mixed Try.func39 _ (by unfold Try.f39; rfl) Try.ntmps39 Try.results39 (by decide) 1 (by simp) (by simp [pureL, pureA]) ?_
  unfold versA
  simp (maxSteps := 4000000) (disch := omega) only [go_sem, w64, AndB_of, IfB_of, IfB_no, pickE_of, pickE_no, ite_of, ite_no, tdivE, tmodE, takeAll]
  refine LoopB.auto (fun zs => (nxOf zs, (intOf (slotOf zs 6)).toNat, verOf (blkOf zs (0)), cellsOf (blkOf zs (0)), mlenOf (slotOf zs 5))) (fun zz => [(0, none), (0, none), (3, some (.msl 0 zz.2.2.1 4 0 zz.2.2.2.2)), (0, some (.int .i64 (zz.2.1 : Int)))]) (fun zz => upd noH 0 (.live zz.2.2.1 zz.2.2.2.1)) (fun zz => zz.1) (fun zz => l.length - zz.2.1) (fun zz => zz.2.1 ≤ l.length ∧ 0 < zz.1 ∧ (versOk l ∨ zz.2.1 = 0) ∧ Flt GVer.c id (sweptP time) l zz.2.1 zz.2.2.2.1 zz.2.2.2.2) (by (first | simp (maxSteps := 4000000) (disch := omega) only [go_sem, w64, AndB_of, IfB_of, IfB_no, pickE_of, pickE_no, ite_of, ite_no, tdivE, tmodE, takeAll, hH] | simp (maxSteps := 4000000) (disch := omega) only [go_sem, w64, AndB_of, IfB_of, IfB_no, pickE_of, pickE_no, ite_of, ite_no, tdivE, tmodE, takeAll]); ((repeat' apply And.intro) <;> first | exact Flt.zero | exact .inr rfl | (exact Weak.go (by (first | (simp [wkL]; done) | (simp [wkL]; omega))) (fun zi => by first | exact .inl rfl | exact .inr rfl | (simp only [upd]; repeat' split) <;> first | exact Flt.zero | exact .inr rfl | exact .inl rfl | exact .inr rfl | (exfalso; omega) | exact .inr (hd _ (by omega)) | (left; subst_vars; exact hH.symm) | (left; subst_vars; rfl) | (left; simp; done) | (left; simp; omega)) (by omega)) | omega | rfl | assumption | exact Flat.nil | exact ⟨_, rfl, rfl, by assumption⟩ | (simp; done) | (simp; omega))) ?_
  intro zz zh
  obtain ⟨x, k, w, cells, m⟩ := zz
  dsimp only at zh
  obtain ⟨hk, hx, hv, hf⟩ := zh
  simp (maxSteps := 4000000) (disch := omega) only [go_sem, w64, AndB_of, IfB_of, IfB_no, pickE_of, pickE_no, ite_of, ite_no, tdivE, tmodE, takeAll]
  refine IfB.dec (fun h1 => ?_) (fun h1 => ?_)
  · have h1' : k < l.length := by omega
    have hm := hf.le
    have hlen := hf.len GVer.len
    simp (maxSteps := 4000000) (disch := omega) only [go_sem, w64, AndB_of, IfB_of, IfB_no, pickE_of, pickE_no, ite_of, ite_no, tdivE, tmodE, takeAll]
    repeat' (first | (refine IfB.dec2 (fun h hd => ?_) (fun h hd => ?_) <;> (try (have h2 := h; unfold inR at h2)) <;> (try simp (maxSteps := 4000000) (disch := omega) only [go_sem, w64, AndB_of, IfB_of, IfB_no, pickE_of, pickE_no, ite_of, ite_no, tdivE, tmodE, takeAll, hd])) | (refine IfB.split (fun h => ?_) (fun h => ?_) <;> (try simp (maxSteps := 4000000) (disch := omega) only [go_sem, w64, AndB_of, IfB_of, IfB_no, pickE_of, pickE_no, ite_of, ite_no, tdivE, tmodE, takeAll, h])) | (refine DrawB.quiet (by kernel_rfl) ?_; simp (maxSteps := 4000000) (disch := omega) only [go_sem, w64, AndB_of, IfB_of, IfB_no, pickE_of, pickE_no, ite_of, ite_no, tdivE, tmodE, takeAll]) | (apply CallB.q (q_VersionsOkS l hl hs); simp (maxSteps := 4000000) (disch := omega) only [go_sem, w64, AndB_of, IfB_of, IfB_no, pickE_of, pickE_no, ite_of, ite_no, tdivE, tmodE, takeAll]) | (apply CallB.q (q_l3Own l[k].row (hs _ (List.getElem_mem h1')).1); simp (maxSteps := 4000000) (disch := omega) only [go_sem, w64, AndB_of, IfB_of, IfB_no, pickE_of, pickE_no, ite_of, ite_no, tdivE, tmodE, takeAll]) | (apply DCallB.q0 (q_VersionsOkS l hl hs); simp (maxSteps := 4000000) (disch := omega) only [go_sem, w64, AndB_of, IfB_of, IfB_no, pickE_of, pickE_no, ite_of, ite_no, tdivE, tmodE, takeAll]) | (apply DCallB.q0 (q_l3Own l[k].row (hs _ (List.getElem_mem h1')).1); simp (maxSteps := 4000000) (disch := omega) only [go_sem, w64, AndB_of, IfB_of, IfB_no, pickE_of, pickE_no, ite_of, ite_no, tdivE, tmodE, takeAll]))
    all_goals first
      | (have hp : sweptP time l[k] = true := decide_eq_true (by omega)
         refine ⟨⟨by omega, by assumption, hf.yes h1' hp rfl⟩, by omega, ?_⟩
         ((repeat' apply And.intro) <;> first | (exact Weak.go (by (first | (simp [wkL]; done) | (simp [wkL]; omega))) (fun zi => by first | exact .inl rfl | exact .inr rfl | (simp only [upd]; repeat' split) <;> first | exact .inl rfl | exact .inr rfl | (exfalso; omega) | exact .inr (hd _ (by omega)) | (left; subst_vars; exact hH.symm) | (left; subst_vars; rfl) | (left; simp; done) | (left; simp; omega)) (by omega)) | omega | rfl | assumption | exact Flat.nil | exact ⟨_, rfl, rfl, by assumption⟩ | (simp; done) | (simp; omega)))
      | (have hp : sweptP time l[k] = true := decide_eq_true (by omega)
         refine ⟨⟨by omega, by omega, by assumption, hf.yes h1' hp rfl⟩, by omega, ?_⟩
         ((repeat' apply And.intro) <;> first | (exact Weak.go (by (first | (simp [wkL]; done) | (simp [wkL]; omega))) (fun zi => by first | exact .inl rfl | exact .inr rfl | (simp only [upd]; repeat' split) <;> first | exact .inl rfl | exact .inr rfl | (exfalso; omega) | exact .inr (hd _ (by omega)) | (left; subst_vars; exact hH.symm) | (left; subst_vars; rfl) | (left; simp; done) | (left; simp; omega)) (by omega)) | omega | rfl | assumption | exact Flat.nil | exact ⟨_, rfl, rfl, by assumption⟩ | (simp; done) | (simp; omega)))
      | (have hp : sweptP time l[k] = false := decide_eq_false fun e => by omega
         refine ⟨⟨by omega, by omega, by assumption, hf.no h1' hp⟩, by omega, ?_⟩
         ((repeat' apply And.intro) <;> first | (exact Weak.go (by (first | (simp [wkL]; done) | (simp [wkL]; omega))) (fun zi => by first | exact .inl rfl | exact .inr rfl | (simp only [upd]; repeat' split) <;> first | exact .inl rfl | exact .inr rfl | (exfalso; omega) | exact .inr (hd _ (by omega)) | (left; subst_vars; exact hH.symm) | (left; subst_vars; rfl) | (left; simp; done) | (left; simp; omega)) (by omega)) | omega | rfl | assumption | exact Flat.nil | exact ⟨_, rfl, rfl, by assumption⟩ | (simp; done) | (simp; omega)))
      | skip
    have hk0 : k = 0 := by rcases hv with hv | hv; contradiction; exact hv
    subst hk0
    unfold sweptL
    rw [if_neg (by assumption)]
    have : m = 0 := by omega
    subst this
    obtain rfl : cells = [] := List.eq_nil_of_length_eq_zero (by omega)
    simp (maxSteps := 4000000) (disch := omega) only [go_sem, w64, AndB_of, IfB_of, IfB_no, pickE_of, pickE_no, ite_of, ite_no, tdivE, tmodE, takeAll, List.take_zero]
    rfl
  · obtain ⟨e1, e2⟩ := hf.fin (by omega)
    rw [List.map_id] at e1 e2
    subst e1 e2
    simp (maxSteps := 4000000) (disch := omega) only [go_sem, w64, AndB_of, IfB_of, IfB_no, pickE_of, pickE_no, ite_of, ite_no, tdivE, tmodE, takeAll]
    unfold sweptL
    split
    · rfl
    · have hl0 : l = [] := by
        rcases hv with hv | hv
        · contradiction
        · exact List.eq_nil_of_length_eq_zero (by omega)
      subst hl0
      rfl
theorem q_RowsAtS (l : List GVer) (time : Int) (hl : l.length ≤ 1048576) (hs : ∀ v ∈ l, v.row.length ≤ 1048576 ∧ ∀ x ∈ v.row, x.s.size ≤ 9223372036854775807) : QCall Try.prog 42 [versA l, .int .i64 time] (rowsA (rowsAtL l time)) := by
  refine qcall_bodyL mixed Try.func42 _ (by unfold Try.f42; rfl) Try.ntmps42 Try.results42 (by decide) 1 (by simp) (by simp [pureL, pureA]) ?_
  simp (maxSteps := 4000000) (disch := omega) only [go_sem, w64, AndB_of, IfB_of, IfB_no, pickE_of, pickE_no, ite_of, ite_no, tdivE, tmodE, takeAll]
  refine LoopB.auto (fun zs => (nxOf zs, (intOf (slotOf zs 6)).toNat, verOf (blkOf zs (0)), cellsOf (blkOf zs (0)), mlenOf (slotOf zs 5))) (fun zz => [(0, none), (0, none), (3, some (.msl 0 zz.2.2.1 1 0 zz.2.2.2.2)), (0, some (.int .i64 (zz.2.1 : Int)))]) (fun zz => upd noH 0 (.live zz.2.2.1 zz.2.2.2.1)) (fun zz => zz.1) (fun zz => 5 - zz.2.1) (fun zz => zz.2.1 ≤ 5 ∧ 0 < zz.1 ∧ zz.2.2.2.1 = flat cR (rowsK l time zz.2.1) ∧ zz.2.2.2.2 = (rowsK l time zz.2.1).length) (by (first | simp (maxSteps := 4000000) (disch := omega) only [go_sem, w64, AndB_of, IfB_of, IfB_no, pickE_of, pickE_no, ite_of, ite_no, tdivE, tmodE, takeAll, hH] | simp (maxSteps := 4000000) (disch := omega) only [go_sem, w64, AndB_of, IfB_of, IfB_no, pickE_of, pickE_no, ite_of, ite_no, tdivE, tmodE, takeAll]); ((repeat' apply And.intro) <;> first | exact rfl | (exact Weak.go (by (first | (simp [wkL]; done) | (simp [wkL]; omega))) (fun zi => by first | exact .inl rfl | exact .inr rfl | (simp only [upd]; repeat' split) <;> first | exact rfl | exact .inl rfl | exact .inr rfl | (exfalso; omega) | exact .inr (hd _ (by omega)) | (left; subst_vars; exact hH.symm) | (left; subst_vars; rfl) | (left; simp; done) | (left; simp; omega)) (by omega)) | omega | rfl | assumption | exact Flat.nil | exact ⟨_, rfl, rfl, by assumption⟩ | (simp; done) | (simp; omega))) ?_
  intro zz zh
  obtain ⟨x, k, w, cells, m⟩ := zz
  dsimp only at zh
  obtain ⟨hk, hx, hc, hm⟩ := zh
  simp (maxSteps := 4000000) (disch := omega) only [go_sem, w64, AndB_of, IfB_of, IfB_no, pickE_of, pickE_no, ite_of, ite_no, tdivE, tmodE, takeAll]
  have hm5 := rowsK_len l time k
  have hlen : cells.length = m := by rw [hc, cR_flen, hm]
  refine IfB.dec (fun h1 => ?_) (fun h1 => ?_)
  · simp (maxSteps := 4000000) (disch := omega) only [go_sem, w64, AndB_of, IfB_of, IfB_no, pickE_of, pickE_no, ite_of, ite_no, tdivE, tmodE, takeAll]
    apply CallB.q (q_SeenAtS l k time hl hs)
    have hsu := rowsK_succ l time k
    simp (maxSteps := 4000000) (disch := omega) only [go_sem, w64, AndB_of, IfB_of, IfB_no, pickE_of, pickE_no, ite_of, ite_no, tdivE, tmodE, takeAll]
    refine IfB.split (fun h => ?_) (fun h => ?_)
    · simp (maxSteps := 4000000) (disch := omega) only [go_sem, w64, AndB_of, IfB_of, IfB_no, pickE_of, pickE_no, ite_of, ite_no, tdivE, tmodE, takeAll]
      have e : rowsK l time (k + 1) = rowsK l time k ++ [seenRow l k time] := by rw [hsu, h]; rfl
      ((repeat' apply And.intro) <;> first | exact (by rw [e, flat_append, ← hc]; simp [flat, cR]) | exact (by rw [e, hm]; simp) | (exact Weak.go (by (first | (simp [wkL]; done) | (simp [wkL]; omega))) (fun zi => by first | exact .inl rfl | exact .inr rfl | (simp only [upd]; repeat' split) <;> first | exact (by rw [e, flat_append, ← hc]; simp [flat, cR]) | exact (by rw [e, hm]; simp) | exact .inl rfl | exact .inr rfl | (exfalso; omega) | exact .inr (hd _ (by omega)) | (left; subst_vars; exact hH.symm) | (left; subst_vars; rfl) | (left; simp; done) | (left; simp; omega)) (by omega)) | omega | rfl | assumption | exact Flat.nil | exact ⟨_, rfl, rfl, by assumption⟩ | (simp; done) | (simp; omega))
    · simp (maxSteps := 4000000) (disch := omega) only [go_sem, w64, AndB_of, IfB_of, IfB_no, pickE_of, pickE_no, ite_of, ite_no, tdivE, tmodE, takeAll]
      have e : rowsK l time (k + 1) = rowsK l time k := by rw [hsu, h]; simp
      ((repeat' apply And.intro) <;> first | exact (by rw [e, ← hc]) | exact (by rw [e, hm]) | (exact Weak.go (by (first | (simp [wkL]; done) | (simp [wkL]; omega))) (fun zi => by first | exact .inl rfl | exact .inr rfl | (simp only [upd]; repeat' split) <;> first | exact (by rw [e, ← hc]) | exact (by rw [e, hm]) | exact .inl rfl | exact .inr rfl | (exfalso; omega) | exact .inr (hd _ (by omega)) | (left; subst_vars; exact hH.symm) | (left; subst_vars; rfl) | (left; simp; done) | (left; simp; omega)) (by omega)) | omega | rfl | assumption | exact Flat.nil | exact ⟨_, rfl, rfl, by assumption⟩ | (simp; done) | (simp; omega))
  · obtain rfl : k = 5 := by omega
    subst hc hm
    simp (maxSteps := 4000000) (disch := omega) only [go_sem, w64, AndB_of, IfB_of, IfB_no, pickE_of, pickE_no, ite_of, ite_no, tdivE, tmodE, takeAll]
    rfl
theorem f_RowsAtI (l : List GVer) (time : Int) (hl : l.length ≤ 1048576) (hs : ∀ v ∈ l, v.row.length ≤ 1048576 ∧ ∀ x ∈ v.row, x.s.size ≤ 9223372036854775807) : ACallD Try.prog 43 [versA l, .int .i64 time] noH 0 (fun r H' n' => OwnR H' 0 n' (rowsA (rowsAtL l time)) r) := by
  refine dcall_body mixed Try.func43 _ (by unfold Try.f43; rfl) Try.ntmps43 Try.results43 (by decide) (by simp) ?_
  simp (maxSteps := 4000000) (disch := omega) only [go_sem, w64, AndB_of, IfB_of, IfB_no, pickE_of, pickE_no, ite_of, ite_no, tdivE, tmodE, takeAll]
  apply CallB.q (q_VersionsOkI l hl hs)
  simp (maxSteps := 4000000) (disch := omega) only [go_sem, w64, AndB_of, IfB_of, IfB_no, pickE_of, pickE_no, ite_of, ite_no, tdivE, tmodE, takeAll]
  refine IfB.dec (fun h2 => ?_) (fun h2 => ?_)
  rotate_left
  · simp (maxSteps := 4000000) (disch := omega) only [go_sem, w64, AndB_of, IfB_of, IfB_no, pickE_of, pickE_no, ite_of, ite_no, tdivE, tmodE, takeAll]
    have e : rowsAtL l time = [] := by
      have : ∀ k, rowsK l time k = [] := fun k => by
        induction k with
        | zero => rfl
        | succ k ih => rw [rowsK_succ, ih]; unfold seenIs; rw [seenV_no h2]; rfl
      exact this 5
    rw [e]
    exact OwnR.nilS
  simp (maxSteps := 4000000) (disch := omega) only [go_sem, w64, AndB_of, IfB_of, IfB_no, pickE_of, pickE_no, ite_of, ite_no, tdivE, tmodE, takeAll]
  refine LoopB.weak (Weak.nil 5 1 rfl) ?_
  simp only [List.set_cons_succ, List.set_cons_zero]
  refine LoopB.auto (fun zs => (nxOf zs, (intOf (slotOf zs 12)).toNat, verOf (blkOf zs (0)), cellsOf (blkOf zs (0)), mlenOf (slotOf zs 5))) (fun zz => [(0, none), (0, none), (3, some (.msl 0 zz.2.2.1 1 0 zz.2.2.2.2)), (6, some (.int .i64 (zz.2.1 : Int)))]) (fun zz => upd noH 0 (.live zz.2.2.1 zz.2.2.2.1)) (fun zz => zz.1) (fun zz => 5 - zz.2.1) (fun zz => zz.2.1 ≤ 5 ∧ 0 < zz.1 ∧ zz.2.2.2.1 = flat cR (rowsK l time zz.2.1) ∧ zz.2.2.2.2 = (rowsK l time zz.2.1).length) (by (first | simp (maxSteps := 4000000) (disch := omega) only [go_sem, w64, AndB_of, IfB_of, IfB_no, pickE_of, pickE_no, ite_of, ite_no, tdivE, tmodE, takeAll, hH] | simp (maxSteps := 4000000) (disch := omega) only [go_sem, w64, AndB_of, IfB_of, IfB_no, pickE_of, pickE_no, ite_of, ite_no, tdivE, tmodE, takeAll]); ((repeat' apply And.intro) <;> first | exact rfl | (exact Weak.go (by (first | (simp [wkL]; done) | (simp [wkL]; omega))) (fun zi => by first | exact .inl rfl | exact .inr rfl | (simp only [upd]; repeat' split) <;> first | exact rfl | exact .inl rfl | exact .inr rfl | (exfalso; omega) | exact .inr (hd _ (by omega)) | (left; subst_vars; exact hH.symm) | (left; subst_vars; rfl) | (left; simp; done) | (left; simp; omega)) (by omega)) | omega | rfl | assumption | exact Flat.nil | exact ⟨_, rfl, rfl, by assumption⟩ | (simp; done) | (simp; omega))) ?_
  intro zz zh
  obtain ⟨x, k, w, cells, m⟩ := zz
  dsimp only at zh
  obtain ⟨hk, hx, hc, hm⟩ := zh
  simp (maxSteps := 4000000) (disch := omega) only [go_sem, w64, AndB_of, IfB_of, IfB_no, pickE_of, pickE_no, ite_of, ite_no, tdivE, tmodE, takeAll]
  have hm5 := rowsK_len l time k
  have hlen : cells.length = m := by rw [hc, cR_flen, hm]
  refine IfB.dec (fun h1 => ?_) (fun h1 => ?_)
  · simp (maxSteps := 4000000) (disch := omega) only [go_sem, w64, AndB_of, IfB_of, IfB_no, pickE_of, pickE_no, ite_of, ite_no, tdivE, tmodE, takeAll]
    apply CallB.q (q_seen l k time hl)
    have hsu := rowsK_succ l time k
    have e1 : seenRow l k time = ((seenF l k time).getD ⟨0, 0, 0, []⟩).row := by
      unfold seenRow
      rw [seenV_ok h2]
      cases seenF l k time <;> rfl
    have e2 : seenIs l k time = (seenF l k time).isSome := by unfold seenIs; rw [seenV_ok h2]
    rw [e1, e2] at hsu
    obtain ⟨v, hv⟩ : ∃ v, v = (seenF l k time).getD ⟨0, 0, 0, []⟩ := ⟨_, rfl⟩
    rw [← hv] at hsu ⊢
    unfold GVer.c
    simp (maxSteps := 4000000) (disch := omega) only [go_sem, w64, AndB_of, IfB_of, IfB_no, pickE_of, pickE_no, ite_of, ite_no, tdivE, tmodE, takeAll]
    refine IfB.split (fun h => ?_) (fun h => ?_)
    · simp (maxSteps := 4000000) (disch := omega) only [go_sem, w64, AndB_of, IfB_of, IfB_no, pickE_of, pickE_no, ite_of, ite_no, tdivE, tmodE, takeAll]
      have e : rowsK l time (k + 1) = rowsK l time k ++ [v.row] := by rw [hsu, h]; rfl
      ((repeat' apply And.intro) <;> first | exact (by rw [e, flat_append, ← hc]; simp [flat, cR]) | exact (by rw [e, hm]; simp) | (exact Weak.go (by (first | (simp [wkL]; done) | (simp [wkL]; omega))) (fun zi => by first | exact .inl rfl | exact .inr rfl | (simp only [upd]; repeat' split) <;> first | exact (by rw [e, flat_append, ← hc]; simp [flat, cR]) | exact (by rw [e, hm]; simp) | exact .inl rfl | exact .inr rfl | (exfalso; omega) | exact .inr (hd _ (by omega)) | (left; subst_vars; exact hH.symm) | (left; subst_vars; rfl) | (left; simp; done) | (left; simp; omega)) (by omega)) | omega | rfl | assumption | exact Flat.nil | exact ⟨_, rfl, rfl, by assumption⟩ | (simp; done) | (simp; omega))
    · simp (maxSteps := 4000000) (disch := omega) only [go_sem, w64, AndB_of, IfB_of, IfB_no, pickE_of, pickE_no, ite_of, ite_no, tdivE, tmodE, takeAll]
      have e : rowsK l time (k + 1) = rowsK l time k := by rw [hsu, h]; simp
      ((repeat' apply And.intro) <;> first | exact (by rw [e, ← hc]) | exact (by rw [e, hm]) | (exact Weak.go (by (first | (simp [wkL]; done) | (simp [wkL]; omega))) (fun zi => by first | exact .inl rfl | exact .inr rfl | (simp only [upd]; repeat' split) <;> first | exact (by rw [e, ← hc]) | exact (by rw [e, hm]) | exact .inl rfl | exact .inr rfl | (exfalso; omega) | exact .inr (hd _ (by omega)) | (left; subst_vars; exact hH.symm) | (left; subst_vars; rfl) | (left; simp; done) | (left; simp; omega)) (by omega)) | omega | rfl | assumption | exact Flat.nil | exact ⟨_, rfl, rfl, by assumption⟩ | (simp; done) | (simp; omega))
  · obtain rfl : k = 5 := by omega
    simp (maxSteps := 4000000) (disch := omega) only [go_sem, w64, AndB_of, IfB_of, IfB_no, pickE_of, pickE_no, ite_of, ite_no, tdivE, tmodE, takeAll]
    subst hm
    refine CallB.fresh (Pict.msl (l := rowsK l time 5) (rest := []) cR_len cR_pure (by rw [upd_same, hc, List.append_nil])) (f_rowsCopy _ (by omega) (rowsK_all fun v hv => (hs v hv).1)) fun r H3 n3 hO hn3 hH3 => ?_
    simp (maxSteps := 4000000) (disch := omega) only [go_sem, w64, AndB_of, IfB_of, IfB_no, pickE_of, pickE_no, ite_of, ite_no, tdivE, tmodE, takeAll]
    exact hO.mono (by omega) (by omega)
end Go.TH
