/- TH: what an index finds: the walks. Made by gen.py. -/
import Derived.Test.YtdifgeiodkiilaaTf3
import Derived.Test.YtdifgeiodkiilaaTcmk
import Derived.Test.YtdifgeiodkiilaaTcow
namespace Go.TH
open Go Go.Proofs
set_option linter.unusedSimpArgs false
set_option linter.unusedVariables false
set_option maxHeartbeats 20000000
set_option maxRecDepth 100000
theorem q_IndexFindS (l : List GMk) (hl : l.length ≤ 1048576) (hs : ∀ t ∈ l, MkB t) (v : GVal) (hv : v.s.size ≤ 9223372036854775807) (time : Int) : QCall Try.prog 55 [marksA l, .agg [.int .i64 v.k, .int .i64 v.n, .str v.s], .int .i64 time] (intsA (mkFind l v time)) := by
  refine qcall_bodyL mixed Try.func55 _ (by unfold Try.f55; rfl) Try.ntmps55 Try.results55 (by decide) 1 (by simp) (by simp [pureL, pureA]) ?_
  simp (maxSteps := 4000000) (disch := omega) only [go_sem, w64, AndB_of, IfB_of, IfB_no, pickE_of, pickE_no, ite_of, ite_no, tdivE, tmodE, takeAll]
  repeat' (first | (refine IfB.dec2 (fun h hd => ?_) (fun h hd => ?_) <;> (try (have h2 := h; unfold inR at h2)) <;> (try simp (maxSteps := 4000000) (disch := omega) only [go_sem, w64, AndB_of, IfB_of, IfB_no, pickE_of, pickE_no, ite_of, ite_no, tdivE, tmodE, takeAll, hd])) | (refine IfB.split (fun h => ?_) (fun h => ?_) <;> (try simp (maxSteps := 4000000) (disch := omega) only [go_sem, w64, AndB_of, IfB_of, IfB_no, pickE_of, pickE_no, ite_of, ite_no, tdivE, tmodE, takeAll, h])) | (refine DrawB.quiet (by kernel_rfl) ?_; simp (maxSteps := 4000000) (disch := omega) only [go_sem, w64, AndB_of, IfB_of, IfB_no, pickE_of, pickE_no, ite_of, ite_no, tdivE, tmodE, takeAll]) | (apply CallB.q (q_IndexOkS l hl hs); simp (maxSteps := 4000000) (disch := omega) only [go_sem, w64, AndB_of, IfB_of, IfB_no, pickE_of, pickE_no, ite_of, ite_no, tdivE, tmodE, takeAll]) | (apply CallB.q (q_ValueOkS v hv); simp (maxSteps := 4000000) (disch := omega) only [go_sem, w64, AndB_of, IfB_of, IfB_no, pickE_of, pickE_no, ite_of, ite_no, tdivE, tmodE, takeAll]) | (apply DCallB.q0 (q_IndexOkS l hl hs); simp (maxSteps := 4000000) (disch := omega) only [go_sem, w64, AndB_of, IfB_of, IfB_no, pickE_of, pickE_no, ite_of, ite_no, tdivE, tmodE, takeAll]) | (apply DCallB.q0 (q_ValueOkS v hv); simp (maxSteps := 4000000) (disch := omega) only [go_sem, w64, AndB_of, IfB_of, IfB_no, pickE_of, pickE_no, ite_of, ite_no, tdivE, tmodE, takeAll]))
  · unfold marksA
    refine LoopB.auto (fun zs => (nxOf zs, (intOf (slotOf zs 8)).toNat, verOf (blkOf zs (1)), cellsOf (blkOf zs (1)), mlenOf (slotOf zs 7))) (fun zz => [(0, none), (1, none), (1, none), (2, some (.msl 1 zz.2.2.1 1 0 zz.2.2.2.2)), (0, some (.int .i64 (zz.2.1 : Int)))]) (fun zz => upd (upd noH 0 (.live 0 [.int .i64 v.k, .int .i64 v.n, .str v.s])) 1 (.live zz.2.2.1 zz.2.2.2.1)) (fun zz => zz.1) (fun zz => l.length - zz.2.1) (fun zz => zz.2.1 ≤ l.length ∧ 1 < zz.1 ∧ Flt cI GMk.key (mkFindP v time) l zz.2.1 zz.2.2.2.1 zz.2.2.2.2) (by (first | simp (maxSteps := 4000000) (disch := omega) only [go_sem, w64, AndB_of, IfB_of, IfB_no, pickE_of, pickE_no, ite_of, ite_no, tdivE, tmodE, takeAll, hH] | simp (maxSteps := 4000000) (disch := omega) only [go_sem, w64, AndB_of, IfB_of, IfB_no, pickE_of, pickE_no, ite_of, ite_no, tdivE, tmodE, takeAll]); ((repeat' apply And.intro) <;> first | exact Flt.zero | (exact Weak.go (by (first | (simp [wkL]; done) | (simp [wkL]; omega))) (fun zi => by first | exact .inl rfl | exact .inr rfl | (simp only [upd]; repeat' split) <;> first | exact Flt.zero | exact .inl rfl | exact .inr rfl | (exfalso; omega) | exact .inr (hd _ (by omega)) | (left; subst_vars; exact hH.symm) | (left; subst_vars; rfl) | (left; simp; done) | (left; simp; omega)) (by omega)) | omega | rfl | assumption | exact Flat.nil | exact ⟨_, rfl, rfl, by assumption⟩ | (simp; done) | (simp; omega))) ?_
    intro zz zh
    obtain ⟨x, k, w, cells, m⟩ := zz
    dsimp only at zh
    obtain ⟨hk, hx, hf⟩ := zh
    simp (maxSteps := 4000000) (disch := omega) only [go_sem, w64, AndB_of, IfB_of, IfB_no, pickE_of, pickE_no, ite_of, ite_no, tdivE, tmodE, takeAll]
    refine IfB.dec (fun h1 => ?_) (fun h1 => ?_)
    · have h1' : k < l.length := by omega
      have hm := hf.le
      have hlen := hf.len cI_len1
      have ev := eqv l[k].v v
      simp (maxSteps := 4000000) (disch := omega) only [go_sem, w64, AndB_of, IfB_of, IfB_no, pickE_of, pickE_no, ite_of, ite_no, tdivE, tmodE, takeAll, ev]
      repeat' (first | (refine IfB.dec2 (fun h hd => ?_) (fun h hd => ?_) <;> (try (have h2 := h; unfold inR at h2)) <;> (try simp (maxSteps := 4000000) (disch := omega) only [go_sem, w64, AndB_of, IfB_of, IfB_no, pickE_of, pickE_no, ite_of, ite_no, tdivE, tmodE, takeAll, ev, hd])) | (refine IfB.split (fun h => ?_) (fun h => ?_) <;> (try simp (maxSteps := 4000000) (disch := omega) only [go_sem, w64, AndB_of, IfB_of, IfB_no, pickE_of, pickE_no, ite_of, ite_no, tdivE, tmodE, takeAll, ev, h])) | (refine DrawB.quiet (by kernel_rfl) ?_; simp (maxSteps := 4000000) (disch := omega) only [go_sem, w64, AndB_of, IfB_of, IfB_no, pickE_of, pickE_no, ite_of, ite_no, tdivE, tmodE, takeAll, ev]))
      all_goals first
        | (have hp : mkFindP v time l[k] = true := decide_eq_true ⟨by assumption, by omega, by omega⟩
           ((repeat' apply And.intro) <;> first | exact hf.yes h1' hp rfl | (exact Weak.go (by (first | (simp [wkL]; done) | (simp [wkL]; omega))) (fun zi => by first | exact .inl rfl | exact .inr rfl | (simp only [upd]; repeat' split) <;> first | exact hf.yes h1' hp rfl | exact .inl rfl | exact .inr rfl | (exfalso; omega) | exact .inr (hd _ (by omega)) | (left; subst_vars; exact hH.symm) | (left; subst_vars; rfl) | (left; simp; done) | (left; simp; omega)) (by omega)) | omega | rfl | assumption | exact Flat.nil | exact ⟨_, rfl, rfl, by assumption⟩ | (simp; done) | (simp; omega)))
        | (have hp : mkFindP v time l[k] = false := decide_eq_false fun e => by obtain ⟨e1, e2, e3⟩ := e; first | contradiction | omega
           ((repeat' apply And.intro) <;> first | exact hf.no h1' hp | (exact Weak.go (by (first | (simp [wkL]; done) | (simp [wkL]; omega))) (fun zi => by first | exact .inl rfl | exact .inr rfl | (simp only [upd]; repeat' split) <;> first | exact hf.no h1' hp | exact .inl rfl | exact .inr rfl | (exfalso; omega) | exact .inr (hd _ (by omega)) | (left; subst_vars; exact hH.symm) | (left; subst_vars; rfl) | (left; simp; done) | (left; simp; omega)) (by omega)) | omega | rfl | assumption | exact Flat.nil | exact ⟨_, rfl, rfl, by assumption⟩ | (simp; done) | (simp; omega)))
    · obtain ⟨e1, e2⟩ := hf.fin (by omega)
      subst e1 e2
      simp (maxSteps := 4000000) (disch := omega) only [go_sem, w64, AndB_of, IfB_of, IfB_no, pickE_of, pickE_no, ite_of, ite_no, tdivE, tmodE, takeAll]
      unfold mkFind
      rw [if_pos ⟨by assumption, by assumption⟩]
      rfl
  all_goals (unfold mkFind; rw [if_neg (fun e => by have e1 := e.1; have e2 := e.2; contradiction)]; rfl)
theorem cI_plain : ∀ a, ∀ p ∈ cI a, plainA p = true := fun a p hp => by simp [cI] at hp; subst hp; rfl
theorem f_cloneZ (l : List Int) (hl : l.length ≤ 1048576) : ACallD Try.prog 137 [intsA l] noH 0 (fun r H' n' => OwnR H' 0 n' (intsA l) r) :=
  (d_cloneZ l hl).mono fun r H' n' ⟨e1, e2, e3⟩ => by
    subst e1 e2 e3
    exact OwnR.flat cI_len1 cI_plain (upd_same ..) (by omega) (by omega)
theorem d_keysOf (l : List GMk) (f : FuncId) (cap : List AV) (hcap : pureL cap = true) (p : GMk → Bool) (hl : l.length ≤ 1048576) (hf : ∀ v ∈ l, QCall Try.prog f ([.agg [.int .i64 v.v.k, .int .i64 v.v.n, .str v.v.s, .int .i64 v.key, .int .i64 v.born, .int .i64 v.died]] ++ cap) (.bool (p v))) :
    ACallD Try.prog 104 [marksA l, .fn f cap] noH 0 (fun r H' n' => OwnR H' 0 n' (intsA ((l.filter p).map GMk.key)) r) := by
  refine dcall_body mixed Try.func104 _ (by unfold Try.f104; rfl) Try.ntmps104 Try.results104 (by decide) (by simp) ?_
  unfold marksA
  simp (maxSteps := 4000000) (disch := omega) only [go_sem, w64, AndB_of, IfB_of, IfB_no, pickE_of, pickE_no, ite_of, ite_no, tdivE, tmodE, takeAll]
  refine LoopB.weak (Weak.nil 5 1 rfl) ?_
  simp only [List.set_cons_succ, List.set_cons_zero]
  refine LoopB.auto (fun zs => (nxOf zs, (intOf (slotOf zs 10)).toNat, verOf (blkOf zs (0)), cellsOf (blkOf zs (0)), mlenOf (slotOf zs 5))) (fun zz => [(1, none), (3, some (.msl 0 zz.2.2.1 1 0 zz.2.2.2.2)), (2, none), (0, none), (0, some (.int .i64 (zz.2.1 : Int)))]) (fun zz => upd noH 0 (.live zz.2.2.1 zz.2.2.2.1)) (fun zz => zz.1) (fun zz => l.length - zz.2.1) (fun zz => zz.2.1 ≤ l.length ∧ 0 < zz.1 ∧ Flt cI GMk.key p l zz.2.1 zz.2.2.2.1 zz.2.2.2.2) (by (first | simp (maxSteps := 4000000) (disch := omega) only [go_sem, w64, AndB_of, IfB_of, IfB_no, pickE_of, pickE_no, ite_of, ite_no, tdivE, tmodE, takeAll, hH] | simp (maxSteps := 4000000) (disch := omega) only [go_sem, w64, AndB_of, IfB_of, IfB_no, pickE_of, pickE_no, ite_of, ite_no, tdivE, tmodE, takeAll]); ((repeat' apply And.intro) <;> first | exact Flt.zero | (exact Weak.go (by (first | (simp [wkL]; done) | (simp [wkL]; omega))) (fun zi => by first | exact .inl rfl | exact .inr rfl | (simp only [upd]; repeat' split) <;> first | exact Flt.zero | exact .inl rfl | exact .inr rfl | (exfalso; omega) | exact .inr (hd _ (by omega)) | (left; subst_vars; exact hH.symm) | (left; subst_vars; rfl) | (left; simp; done) | (left; simp; omega)) (by omega)) | omega | rfl | assumption | exact Flat.nil | exact ⟨_, rfl, rfl, by assumption⟩ | (simp; done) | (simp; omega))) ?_
  intro zz zh
  obtain ⟨x, k, w, cells, m⟩ := zz
  dsimp only at zh
  obtain ⟨hk, hx, hF⟩ := zh
  simp (maxSteps := 4000000) (disch := omega) only [go_sem, w64, AndB_of, IfB_of, IfB_no, pickE_of, pickE_no, ite_of, ite_no, tdivE, tmodE, takeAll]
  refine IfB.dec (fun h1 => ?_) (fun h1 => ?_)
  · have h1' : k < l.length := by omega
    have hm := hF.le
    have hlen := hF.len cI_len1
    simp (maxSteps := 4000000) (disch := omega) only [go_sem, w64, AndB_of, IfB_of, IfB_no, pickE_of, pickE_no, ite_of, ite_no, tdivE, tmodE, takeAll]
    apply CallB.q (hf l[k] (List.getElem_mem _))
    simp (maxSteps := 4000000) (disch := omega) only [go_sem, w64, AndB_of, IfB_of, IfB_no, pickE_of, pickE_no, ite_of, ite_no, tdivE, tmodE, takeAll]
    refine IfB.split (fun h => ?_) (fun h => ?_)
    · simp (maxSteps := 4000000) (disch := omega) only [go_sem, w64, AndB_of, IfB_of, IfB_no, pickE_of, pickE_no, ite_of, ite_no, tdivE, tmodE, takeAll]
      ((repeat' apply And.intro) <;> first | exact hF.yes h1' h rfl | (exact Weak.go (by (first | (simp [wkL]; done) | (simp [wkL]; omega))) (fun zi => by first | exact .inl rfl | exact .inr rfl | (simp only [upd]; repeat' split) <;> first | exact hF.yes h1' h rfl | exact .inl rfl | exact .inr rfl | (exfalso; omega) | exact .inr (hd _ (by omega)) | (left; subst_vars; exact hH.symm) | (left; subst_vars; rfl) | (left; simp; done) | (left; simp; omega)) (by omega)) | omega | rfl | assumption | exact Flat.nil | exact ⟨_, rfl, rfl, by assumption⟩ | (simp; done) | (simp; omega))
    · simp (maxSteps := 4000000) (disch := omega) only [go_sem, w64, AndB_of, IfB_of, IfB_no, pickE_of, pickE_no, ite_of, ite_no, tdivE, tmodE, takeAll]
      ((repeat' apply And.intro) <;> first | exact hF.no h1' h | (exact Weak.go (by (first | (simp [wkL]; done) | (simp [wkL]; omega))) (fun zi => by first | exact .inl rfl | exact .inr rfl | (simp only [upd]; repeat' split) <;> first | exact hF.no h1' h | exact .inl rfl | exact .inr rfl | (exfalso; omega) | exact .inr (hd _ (by omega)) | (left; subst_vars; exact hH.symm) | (left; subst_vars; rfl) | (left; simp; done) | (left; simp; omega)) (by omega)) | omega | rfl | assumption | exact Flat.nil | exact ⟨_, rfl, rfl, by assumption⟩ | (simp; done) | (simp; omega))
  · simp (maxSteps := 4000000) (disch := omega) only [go_sem, w64, AndB_of, IfB_of, IfB_no, pickE_of, pickE_no, ite_of, ite_no, tdivE, tmodE, takeAll]
    obtain ⟨e1, e2⟩ := hF.fin (by omega)
    subst e1
    refine CallB.fresh (p := intsA ((l.filter p).map GMk.key)) (ps := [intsA ((l.filter p).map GMk.key)]) (OwnR.pict (lo := 0) (hi := 1) (by rw [e2]; exact OwnR.flat cI_len1 cI_plain (upd_same ..) (by omega) (by omega))) (f_cloneZ _ (by simp; exact Nat.le_trans (List.length_filter_le ..) hl)) fun r H2 n2 hO hn hH => ?_
    simp (maxSteps := 4000000) (disch := omega) only [go_sem, w64, AndB_of, IfB_of, IfB_no, pickE_of, pickE_no, ite_of, ite_no, tdivE, tmodE, takeAll]
    exact hO.mono (by omega) (by omega)
theorem q_mkAt (a : GMk) (time : Int) : QCall Try.prog 107 [.agg [.int .i64 a.v.k, .int .i64 a.v.n, .str a.v.s, .int .i64 a.key, .int .i64 a.born, .int .i64 a.died], .int .i64 time] (.bool (decide (a.born ≤ time ∧ (a.died = 0 ∨ time < a.died)))) := by
  refine qcall_body mixed Try.func107 _ (by unfold Try.f107; rfl) Try.ntmps107 Try.results107 (by decide) 0 (by simp) (by simp [pureL, pureA]) ?_
  simp (maxSteps := 4000000) (disch := omega) only [go_sem, w64, AndB_of, IfB_of, IfB_no, pickE_of, pickE_no, ite_of, ite_no, tdivE, tmodE, takeAll]
  repeat' (first | (refine IfB.dec (fun h => ?_) (fun h => ?_) <;> (try (have h2 := h; unfold inR at h2)) <;> (try simp (maxSteps := 4000000) (disch := omega) only [go_sem, w64, AndB_of, IfB_of, IfB_no, pickE_of, pickE_no, ite_of, ite_no, tdivE, tmodE, takeAll, h])) | (refine IfB.split (fun h => ?_) (fun h => ?_) <;> (try simp (maxSteps := 4000000) (disch := omega) only [go_sem, w64, AndB_of, IfB_of, IfB_no, pickE_of, pickE_no, ite_of, ite_no, tdivE, tmodE, takeAll, h])) | (refine DrawB.quiet (by kernel_rfl) ?_; simp (maxSteps := 4000000) (disch := omega) only [go_sem, w64, AndB_of, IfB_of, IfB_no, pickE_of, pickE_no, ite_of, ite_no, tdivE, tmodE, takeAll]))
  all_goals (rw [AV.bool.injEq, Bool.eq_iff_iff]; (try simp only [decide_eq_true_iff]); (try simp only [true_iff, Bool.false_eq_true, false_iff]); omega)
theorem q_IndexFind1 (a : GMk) (v : GVal) (time : Int) : QCall Try.prog 108 [.agg [.int .i64 a.v.k, .int .i64 a.v.n, .str a.v.s, .int .i64 a.key, .int .i64 a.born, .int .i64 a.died], .ro [.int .i64 v.k, .int .i64 v.n, .str v.s], .ro [.int .i64 time]] (.bool (mkFindP v time a)) := by
  refine qcall_body mixed Try.func108 _ (by unfold Try.f108; rfl) Try.ntmps108 Try.results108 (by decide) 0 (by simp) (by simp [pureL, pureA]) ?_
  have ev := eqv a.v v
  simp (maxSteps := 4000000) (disch := omega) only [go_sem, w64, AndB_of, IfB_of, IfB_no, pickE_of, pickE_no, ite_of, ite_no, tdivE, tmodE, takeAll, ev]
  repeat' (first | (refine IfB.dec2 (fun h hd => ?_) (fun h hd => ?_) <;> (try (have h2 := h; unfold inR at h2)) <;> (try simp (maxSteps := 4000000) (disch := omega) only [go_sem, w64, AndB_of, IfB_of, IfB_no, pickE_of, pickE_no, ite_of, ite_no, tdivE, tmodE, takeAll, ev, hd])) | (refine IfB.split (fun h => ?_) (fun h => ?_) <;> (try simp (maxSteps := 4000000) (disch := omega) only [go_sem, w64, AndB_of, IfB_of, IfB_no, pickE_of, pickE_no, ite_of, ite_no, tdivE, tmodE, takeAll, ev, h])) | (refine DrawB.quiet (by kernel_rfl) ?_; simp (maxSteps := 4000000) (disch := omega) only [go_sem, w64, AndB_of, IfB_of, IfB_no, pickE_of, pickE_no, ite_of, ite_no, tdivE, tmodE, takeAll, ev]) | (apply CallB.q (q_mkAt a time); simp (maxSteps := 4000000) (disch := omega) only [go_sem, w64, AndB_of, IfB_of, IfB_no, pickE_of, pickE_no, ite_of, ite_no, tdivE, tmodE, takeAll, ev]) | (apply DCallB.q0 (q_mkAt a time); simp (maxSteps := 4000000) (disch := omega) only [go_sem, w64, AndB_of, IfB_of, IfB_no, pickE_of, pickE_no, ite_of, ite_no, tdivE, tmodE, takeAll, ev]))
  all_goals (unfold mkFindP; rw [AV.bool.injEq, Bool.eq_iff_iff]; (try simp only [decide_eq_true_iff]); (try simp only [true_iff, Bool.false_eq_true, false_iff]); simp_all)
theorem f_IndexFindI (l : List GMk) (hl : l.length ≤ 1048576) (hs : ∀ t ∈ l, MkB t) (v : GVal) (hv : v.s.size ≤ 9223372036854775807) (time : Int) : ACallD Try.prog 56 [marksA l, .agg [.int .i64 v.k, .int .i64 v.n, .str v.s], .int .i64 time] noH 0 (fun r H' n' => OwnR H' 0 n' (intsA (mkFind l v time)) r) := by
  refine dcall_body mixed Try.func56 _ (by unfold Try.f56; rfl) Try.ntmps56 Try.results56 (by decide) (by simp) ?_
  simp (maxSteps := 4000000) (disch := omega) only [go_sem, w64, AndB_of, IfB_of, IfB_no, pickE_of, pickE_no, ite_of, ite_no, tdivE, tmodE, takeAll]
  repeat' (first | (refine IfB.dec2 (fun h hd => ?_) (fun h hd => ?_) <;> (try (have h2 := h; unfold inR at h2)) <;> (try simp (maxSteps := 4000000) (disch := omega) only [go_sem, w64, AndB_of, IfB_of, IfB_no, pickE_of, pickE_no, ite_of, ite_no, tdivE, tmodE, takeAll, hd])) | (refine IfB.split (fun h => ?_) (fun h => ?_) <;> (try simp (maxSteps := 4000000) (disch := omega) only [go_sem, w64, AndB_of, IfB_of, IfB_no, pickE_of, pickE_no, ite_of, ite_no, tdivE, tmodE, takeAll, h])) | (refine DrawB.quiet (by kernel_rfl) ?_; simp (maxSteps := 4000000) (disch := omega) only [go_sem, w64, AndB_of, IfB_of, IfB_no, pickE_of, pickE_no, ite_of, ite_no, tdivE, tmodE, takeAll]) | (apply CallB.q (q_IndexOkI l hl hs); simp (maxSteps := 4000000) (disch := omega) only [go_sem, w64, AndB_of, IfB_of, IfB_no, pickE_of, pickE_no, ite_of, ite_no, tdivE, tmodE, takeAll]) | (apply CallB.q (q_ok v hv); simp (maxSteps := 4000000) (disch := omega) only [go_sem, w64, AndB_of, IfB_of, IfB_no, pickE_of, pickE_no, ite_of, ite_no, tdivE, tmodE, takeAll]) | (apply DCallB.q0 (q_IndexOkI l hl hs); simp (maxSteps := 4000000) (disch := omega) only [go_sem, w64, AndB_of, IfB_of, IfB_no, pickE_of, pickE_no, ite_of, ite_no, tdivE, tmodE, takeAll]) | (apply DCallB.q0 (q_ok v hv); simp (maxSteps := 4000000) (disch := omega) only [go_sem, w64, AndB_of, IfB_of, IfB_no, pickE_of, pickE_no, ite_of, ite_no, tdivE, tmodE, takeAll]))
  · have hk := d_keysOf l 108 [.ro [.int .i64 v.k, .int .i64 v.n, .str v.s], .ro [.int .i64 time]] (by simp [pureL, pureA]) (mkFindP v time) hl fun a ha => q_IndexFind1 a v time
    refine CallB.fresh (ps := [marksA l, .fn 108 [.ro [.int .i64 v.k, .int .i64 v.n, .str v.s], .ro [.int .i64 time]]]) (p := intsA ((l.filter (mkFindP v time)).map GMk.key)) ?_ hk fun r H2 n2 hO hn hH => ?_
    · have := Pict.snap (H := upd (upd noH 0 (.live 0 [.int .i64 v.k, .int .i64 v.n, .str v.s])) 1 (.live 0 [.int .i64 time])) 1 [marksA l, .fn 108 [.ptr 0 0 0, .ptr 1 0 0]]
      simpa [go_sem, upd] using this
    · simp (maxSteps := 4000000) (disch := omega) only [go_sem, w64, AndB_of, IfB_of, IfB_no, pickE_of, pickE_no, ite_of, ite_no, tdivE, tmodE, takeAll]
      unfold mkFind
      rw [if_pos ⟨by assumption, by assumption⟩]
      exact hO.mono (by omega) (by omega)
  all_goals (unfold mkFind; rw [if_neg (fun e => by have e1 := e.1; have e2 := e.2; contradiction)]; exact OwnR.nilS)
theorem q_IndexBetweenS (l : List GMk) (hl : l.length ≤ 1048576) (hs : ∀ t ∈ l, MkB t) (lo hi : GVal) (hlo : lo.s.size ≤ 9223372036854775807) (hhi : hi.s.size ≤ 9223372036854775807) (time : Int) : QCall Try.prog 48 [marksA l, .agg [.int .i64 lo.k, .int .i64 lo.n, .str lo.s], .agg [.int .i64 hi.k, .int .i64 hi.n, .str hi.s], .int .i64 time] (intsA (mkBetw l lo hi time)) := by
  refine qcall_bodyL mixed Try.func48 _ (by unfold Try.f48; rfl) Try.ntmps48 Try.results48 (by decide) 1 (by simp) (by simp [pureL, pureA]) ?_
  simp (maxSteps := 4000000) (disch := omega) only [go_sem, w64, AndB_of, IfB_of, IfB_no, pickE_of, pickE_no, ite_of, ite_no, tdivE, tmodE, takeAll]
  repeat' (first | (refine IfB.dec2 (fun h hd => ?_) (fun h hd => ?_) <;> (try (have h2 := h; unfold inR at h2)) <;> (try simp (maxSteps := 4000000) (disch := omega) only [go_sem, w64, AndB_of, IfB_of, IfB_no, pickE_of, pickE_no, ite_of, ite_no, tdivE, tmodE, takeAll, hd])) | (refine IfB.split (fun h => ?_) (fun h => ?_) <;> (try simp (maxSteps := 4000000) (disch := omega) only [go_sem, w64, AndB_of, IfB_of, IfB_no, pickE_of, pickE_no, ite_of, ite_no, tdivE, tmodE, takeAll, h])) | (refine DrawB.quiet (by kernel_rfl) ?_; simp (maxSteps := 4000000) (disch := omega) only [go_sem, w64, AndB_of, IfB_of, IfB_no, pickE_of, pickE_no, ite_of, ite_no, tdivE, tmodE, takeAll]) | (apply CallB.q (q_IndexOkS l hl hs); simp (maxSteps := 4000000) (disch := omega) only [go_sem, w64, AndB_of, IfB_of, IfB_no, pickE_of, pickE_no, ite_of, ite_no, tdivE, tmodE, takeAll]) | (apply CallB.q (q_ValueOkS lo hlo); simp (maxSteps := 4000000) (disch := omega) only [go_sem, w64, AndB_of, IfB_of, IfB_no, pickE_of, pickE_no, ite_of, ite_no, tdivE, tmodE, takeAll]) | (apply CallB.q (q_ValueOkS hi hhi); simp (maxSteps := 4000000) (disch := omega) only [go_sem, w64, AndB_of, IfB_of, IfB_no, pickE_of, pickE_no, ite_of, ite_no, tdivE, tmodE, takeAll]) | (apply DCallB.q0 (q_IndexOkS l hl hs); simp (maxSteps := 4000000) (disch := omega) only [go_sem, w64, AndB_of, IfB_of, IfB_no, pickE_of, pickE_no, ite_of, ite_no, tdivE, tmodE, takeAll]) | (apply DCallB.q0 (q_ValueOkS lo hlo); simp (maxSteps := 4000000) (disch := omega) only [go_sem, w64, AndB_of, IfB_of, IfB_no, pickE_of, pickE_no, ite_of, ite_no, tdivE, tmodE, takeAll]) | (apply DCallB.q0 (q_ValueOkS hi hhi); simp (maxSteps := 4000000) (disch := omega) only [go_sem, w64, AndB_of, IfB_of, IfB_no, pickE_of, pickE_no, ite_of, ite_no, tdivE, tmodE, takeAll]))
  · unfold marksA
    refine LoopB.auto (fun zs => (nxOf zs, (intOf (slotOf zs 10)).toNat, verOf (blkOf zs (2)), cellsOf (blkOf zs (2)), mlenOf (slotOf zs 9))) (fun zz => [(0, none), (2, none), (1, none), (0, none), (2, some (.msl 2 zz.2.2.1 1 0 zz.2.2.2.2)), (0, some (.int .i64 (zz.2.1 : Int)))]) (fun zz => upd (upd (upd noH 0 (.live 0 [.int .i64 lo.k, .int .i64 lo.n, .str lo.s])) 1 (.live 0 [.int .i64 hi.k, .int .i64 hi.n, .str hi.s])) 2 (.live zz.2.2.1 zz.2.2.2.1)) (fun zz => zz.1) (fun zz => l.length - zz.2.1) (fun zz => zz.2.1 ≤ l.length ∧ 2 < zz.1 ∧ Flt cI GMk.key (mkBetwP lo hi time) l zz.2.1 zz.2.2.2.1 zz.2.2.2.2) (by (first | simp (maxSteps := 4000000) (disch := omega) only [go_sem, w64, AndB_of, IfB_of, IfB_no, pickE_of, pickE_no, ite_of, ite_no, tdivE, tmodE, takeAll, hH] | simp (maxSteps := 4000000) (disch := omega) only [go_sem, w64, AndB_of, IfB_of, IfB_no, pickE_of, pickE_no, ite_of, ite_no, tdivE, tmodE, takeAll]); ((repeat' apply And.intro) <;> first | exact Flt.zero | (exact Weak.go (by (first | (simp [wkL]; done) | (simp [wkL]; omega))) (fun zi => by first | exact .inl rfl | exact .inr rfl | (simp only [upd]; repeat' split) <;> first | exact Flt.zero | exact .inl rfl | exact .inr rfl | (exfalso; omega) | exact .inr (hd _ (by omega)) | (left; subst_vars; exact hH.symm) | (left; subst_vars; rfl) | (left; simp; done) | (left; simp; omega)) (by omega)) | omega | rfl | assumption | exact Flat.nil | exact ⟨_, rfl, rfl, by assumption⟩ | (simp; done) | (simp; omega))) ?_
    intro zz zh
    obtain ⟨x, k, w, cells, m⟩ := zz
    dsimp only at zh
    obtain ⟨hk, hx, hf⟩ := zh
    simp (maxSteps := 4000000) (disch := omega) only [go_sem, w64, AndB_of, IfB_of, IfB_no, pickE_of, pickE_no, ite_of, ite_no, tdivE, tmodE, takeAll]
    refine IfB.dec (fun h1 => ?_) (fun h1 => ?_)
    · have h1' : k < l.length := by omega
      have hm := hf.le
      have hlen := hf.len cI_len1
      have hb := hs _ (List.getElem_mem h1')
      have hz : l[k].v.s.size ≤ 9223372036854775807 := by unfold MkB VB at hb; omega
      have hok : l[k].v.Ok := marksOk_at (by assumption) k h1'
      have e1 : valOrd lo l[k].v = lo.ord l[k].v := if_pos ⟨by assumption, hok⟩
      have e2 : valOrd l[k].v hi = l[k].v.ord hi := if_pos ⟨hok, by assumption⟩
      have e3 := ord_neg lo l[k].v
      simp (maxSteps := 4000000) (disch := omega) only [go_sem, w64, AndB_of, IfB_of, IfB_no, pickE_of, pickE_no, ite_of, ite_no, tdivE, tmodE, takeAll]
      repeat' (first | (refine IfB.dec2 (fun h hd => ?_) (fun h hd => ?_) <;> (try (have h2 := h; unfold inR at h2)) <;> (try simp (maxSteps := 4000000) (disch := omega) only [go_sem, w64, AndB_of, IfB_of, IfB_no, pickE_of, pickE_no, ite_of, ite_no, tdivE, tmodE, takeAll, e1, e2, hd])) | (refine IfB.split (fun h => ?_) (fun h => ?_) <;> (try simp (maxSteps := 4000000) (disch := omega) only [go_sem, w64, AndB_of, IfB_of, IfB_no, pickE_of, pickE_no, ite_of, ite_no, tdivE, tmodE, takeAll, e1, e2, h])) | (refine DrawB.quiet (by kernel_rfl) ?_; simp (maxSteps := 4000000) (disch := omega) only [go_sem, w64, AndB_of, IfB_of, IfB_no, pickE_of, pickE_no, ite_of, ite_no, tdivE, tmodE, takeAll, e1, e2]) | (apply CallB.q (q_ValueOrderS lo l[k].v hlo hz); simp (maxSteps := 4000000) (disch := omega) only [go_sem, w64, AndB_of, IfB_of, IfB_no, pickE_of, pickE_no, ite_of, ite_no, tdivE, tmodE, takeAll, e1, e2]) | (apply CallB.q (q_ValueOrderS l[k].v hi hz hhi); simp (maxSteps := 4000000) (disch := omega) only [go_sem, w64, AndB_of, IfB_of, IfB_no, pickE_of, pickE_no, ite_of, ite_no, tdivE, tmodE, takeAll, e1, e2]) | (apply DCallB.q0 (q_ValueOrderS lo l[k].v hlo hz); simp (maxSteps := 4000000) (disch := omega) only [go_sem, w64, AndB_of, IfB_of, IfB_no, pickE_of, pickE_no, ite_of, ite_no, tdivE, tmodE, takeAll, e1, e2]) | (apply DCallB.q0 (q_ValueOrderS l[k].v hi hz hhi); simp (maxSteps := 4000000) (disch := omega) only [go_sem, w64, AndB_of, IfB_of, IfB_no, pickE_of, pickE_no, ite_of, ite_no, tdivE, tmodE, takeAll, e1, e2]))
      all_goals first
        | (have hp : mkBetwP lo hi time l[k] = true := decide_eq_true ⟨by omega, by omega, by omega, by omega⟩
           ((repeat' apply And.intro) <;> first | exact hf.yes h1' hp rfl | (exact Weak.go (by (first | (simp [wkL]; done) | (simp [wkL]; omega))) (fun zi => by first | exact .inl rfl | exact .inr rfl | (simp only [upd]; repeat' split) <;> first | exact hf.yes h1' hp rfl | exact .inl rfl | exact .inr rfl | (exfalso; omega) | exact .inr (hd _ (by omega)) | (left; subst_vars; exact hH.symm) | (left; subst_vars; rfl) | (left; simp; done) | (left; simp; omega)) (by omega)) | omega | rfl | assumption | exact Flat.nil | exact ⟨_, rfl, rfl, by assumption⟩ | (simp; done) | (simp; omega)))
        | (have hp : mkBetwP lo hi time l[k] = false := decide_eq_false fun e => by obtain ⟨e1, e2, e3, e4⟩ := e; first | contradiction | omega
           ((repeat' apply And.intro) <;> first | exact hf.no h1' hp | (exact Weak.go (by (first | (simp [wkL]; done) | (simp [wkL]; omega))) (fun zi => by first | exact .inl rfl | exact .inr rfl | (simp only [upd]; repeat' split) <;> first | exact hf.no h1' hp | exact .inl rfl | exact .inr rfl | (exfalso; omega) | exact .inr (hd _ (by omega)) | (left; subst_vars; exact hH.symm) | (left; subst_vars; rfl) | (left; simp; done) | (left; simp; omega)) (by omega)) | omega | rfl | assumption | exact Flat.nil | exact ⟨_, rfl, rfl, by assumption⟩ | (simp; done) | (simp; omega)))
    · obtain ⟨e1, e2⟩ := hf.fin (by omega)
      subst e1 e2
      simp (maxSteps := 4000000) (disch := omega) only [go_sem, w64, AndB_of, IfB_of, IfB_no, pickE_of, pickE_no, ite_of, ite_no, tdivE, tmodE, takeAll]
      unfold mkBetw
      rw [if_pos ⟨by assumption, by assumption, by assumption⟩]
      rfl
  all_goals (unfold mkBetw; rw [if_neg (fun e => by obtain ⟨e1, e2, e3⟩ := e; contradiction)]; rfl)
theorem q_IndexBetween1 (a : GMk) (lo hi : GVal) (time : Int) : QCall Try.prog 105 [.agg [.int .i64 a.v.k, .int .i64 a.v.n, .str a.v.s, .int .i64 a.key, .int .i64 a.born, .int .i64 a.died], .ro [.int .i64 lo.k, .int .i64 lo.n, .str lo.s], .ro [.int .i64 hi.k, .int .i64 hi.n, .str hi.s], .ro [.int .i64 time]] (.bool (mkBetwP lo hi time a)) := by
  refine qcall_body mixed Try.func105 _ (by unfold Try.f105; rfl) Try.ntmps105 Try.results105 (by decide) 0 (by simp) (by simp [pureL, pureA]) ?_
  simp (maxSteps := 4000000) (disch := omega) only [go_sem, w64, AndB_of, IfB_of, IfB_no, pickE_of, pickE_no, ite_of, ite_no, tdivE, tmodE, takeAll]
  repeat' (first | (refine IfB.dec2 (fun h hd => ?_) (fun h hd => ?_) <;> (try (have h2 := h; unfold inR at h2)) <;> (try simp (maxSteps := 4000000) (disch := omega) only [go_sem, w64, AndB_of, IfB_of, IfB_no, pickE_of, pickE_no, ite_of, ite_no, tdivE, tmodE, takeAll, hd])) | (refine IfB.split (fun h => ?_) (fun h => ?_) <;> (try simp (maxSteps := 4000000) (disch := omega) only [go_sem, w64, AndB_of, IfB_of, IfB_no, pickE_of, pickE_no, ite_of, ite_no, tdivE, tmodE, takeAll, h])) | (refine DrawB.quiet (by kernel_rfl) ?_; simp (maxSteps := 4000000) (disch := omega) only [go_sem, w64, AndB_of, IfB_of, IfB_no, pickE_of, pickE_no, ite_of, ite_no, tdivE, tmodE, takeAll]) | (apply CallB.q (q_mkAt a time); simp (maxSteps := 4000000) (disch := omega) only [go_sem, w64, AndB_of, IfB_of, IfB_no, pickE_of, pickE_no, ite_of, ite_no, tdivE, tmodE, takeAll]) | (apply CallB.q (q_order a.v lo); simp (maxSteps := 4000000) (disch := omega) only [go_sem, w64, AndB_of, IfB_of, IfB_no, pickE_of, pickE_no, ite_of, ite_no, tdivE, tmodE, takeAll]) | (apply CallB.q (q_order a.v hi); simp (maxSteps := 4000000) (disch := omega) only [go_sem, w64, AndB_of, IfB_of, IfB_no, pickE_of, pickE_no, ite_of, ite_no, tdivE, tmodE, takeAll]) | (apply DCallB.q0 (q_mkAt a time); simp (maxSteps := 4000000) (disch := omega) only [go_sem, w64, AndB_of, IfB_of, IfB_no, pickE_of, pickE_no, ite_of, ite_no, tdivE, tmodE, takeAll]) | (apply DCallB.q0 (q_order a.v lo); simp (maxSteps := 4000000) (disch := omega) only [go_sem, w64, AndB_of, IfB_of, IfB_no, pickE_of, pickE_no, ite_of, ite_no, tdivE, tmodE, takeAll]) | (apply DCallB.q0 (q_order a.v hi); simp (maxSteps := 4000000) (disch := omega) only [go_sem, w64, AndB_of, IfB_of, IfB_no, pickE_of, pickE_no, ite_of, ite_no, tdivE, tmodE, takeAll]))
  all_goals (unfold mkBetwP; rw [AV.bool.injEq, Bool.eq_iff_iff]; (try simp only [decide_eq_true_iff]); (try simp only [true_iff, Bool.false_eq_true, false_iff]); omega)
theorem f_IndexBetweenI (l : List GMk) (hl : l.length ≤ 1048576) (hs : ∀ t ∈ l, MkB t) (lo hi : GVal) (hlo : lo.s.size ≤ 9223372036854775807) (hhi : hi.s.size ≤ 9223372036854775807) (time : Int) : ACallD Try.prog 50 [marksA l, .agg [.int .i64 lo.k, .int .i64 lo.n, .str lo.s], .agg [.int .i64 hi.k, .int .i64 hi.n, .str hi.s], .int .i64 time] noH 0 (fun r H' n' => OwnR H' 0 n' (intsA (mkBetw l lo hi time)) r) := by
  refine dcall_body mixed Try.func50 _ (by unfold Try.f50; rfl) Try.ntmps50 Try.results50 (by decide) (by simp) ?_
  simp (maxSteps := 4000000) (disch := omega) only [go_sem, w64, AndB_of, IfB_of, IfB_no, pickE_of, pickE_no, ite_of, ite_no, tdivE, tmodE, takeAll]
  repeat' (first | (refine IfB.dec2 (fun h hd => ?_) (fun h hd => ?_) <;> (try (have h2 := h; unfold inR at h2)) <;> (try simp (maxSteps := 4000000) (disch := omega) only [go_sem, w64, AndB_of, IfB_of, IfB_no, pickE_of, pickE_no, ite_of, ite_no, tdivE, tmodE, takeAll, hd])) | (refine IfB.split (fun h => ?_) (fun h => ?_) <;> (try simp (maxSteps := 4000000) (disch := omega) only [go_sem, w64, AndB_of, IfB_of, IfB_no, pickE_of, pickE_no, ite_of, ite_no, tdivE, tmodE, takeAll, h])) | (refine DrawB.quiet (by kernel_rfl) ?_; simp (maxSteps := 4000000) (disch := omega) only [go_sem, w64, AndB_of, IfB_of, IfB_no, pickE_of, pickE_no, ite_of, ite_no, tdivE, tmodE, takeAll]) | (apply CallB.q (q_IndexOkI l hl hs); simp (maxSteps := 4000000) (disch := omega) only [go_sem, w64, AndB_of, IfB_of, IfB_no, pickE_of, pickE_no, ite_of, ite_no, tdivE, tmodE, takeAll]) | (apply CallB.q (q_ok lo hlo); simp (maxSteps := 4000000) (disch := omega) only [go_sem, w64, AndB_of, IfB_of, IfB_no, pickE_of, pickE_no, ite_of, ite_no, tdivE, tmodE, takeAll]) | (apply CallB.q (q_ok hi hhi); simp (maxSteps := 4000000) (disch := omega) only [go_sem, w64, AndB_of, IfB_of, IfB_no, pickE_of, pickE_no, ite_of, ite_no, tdivE, tmodE, takeAll]) | (apply DCallB.q0 (q_IndexOkI l hl hs); simp (maxSteps := 4000000) (disch := omega) only [go_sem, w64, AndB_of, IfB_of, IfB_no, pickE_of, pickE_no, ite_of, ite_no, tdivE, tmodE, takeAll]) | (apply DCallB.q0 (q_ok lo hlo); simp (maxSteps := 4000000) (disch := omega) only [go_sem, w64, AndB_of, IfB_of, IfB_no, pickE_of, pickE_no, ite_of, ite_no, tdivE, tmodE, takeAll]) | (apply DCallB.q0 (q_ok hi hhi); simp (maxSteps := 4000000) (disch := omega) only [go_sem, w64, AndB_of, IfB_of, IfB_no, pickE_of, pickE_no, ite_of, ite_no, tdivE, tmodE, takeAll]))
  · have hk := d_keysOf l 105 [.ro [.int .i64 lo.k, .int .i64 lo.n, .str lo.s], .ro [.int .i64 hi.k, .int .i64 hi.n, .str hi.s], .ro [.int .i64 time]] (by simp [pureL, pureA]) (mkBetwP lo hi time) hl fun a ha => q_IndexBetween1 a lo hi time
    refine CallB.fresh (ps := [marksA l, .fn 105 [.ro [.int .i64 lo.k, .int .i64 lo.n, .str lo.s], .ro [.int .i64 hi.k, .int .i64 hi.n, .str hi.s], .ro [.int .i64 time]]]) (p := intsA ((l.filter (mkBetwP lo hi time)).map GMk.key)) ?_ hk fun r H2 n2 hO hn hH => ?_
    · have := Pict.snap (H := upd (upd (upd noH 0 (.live 0 [.int .i64 lo.k, .int .i64 lo.n, .str lo.s])) 1 (.live 0 [.int .i64 hi.k, .int .i64 hi.n, .str hi.s])) 2 (.live 0 [.int .i64 time])) 1 [marksA l, .fn 105 [.ptr 0 0 0, .ptr 1 0 0, .ptr 2 0 0]]
      simpa [go_sem, upd] using this
    · simp (maxSteps := 4000000) (disch := omega) only [go_sem, w64, AndB_of, IfB_of, IfB_no, pickE_of, pickE_no, ite_of, ite_no, tdivE, tmodE, takeAll]
      unfold mkBetw
      rw [if_pos ⟨by assumption, by assumption, by assumption⟩]
      exact hO.mono (by omega) (by omega)
  all_goals (unfold mkBetw; rw [if_neg (fun e => by obtain ⟨e1, e2, e3⟩ := e; contradiction)]; exact OwnR.nilS)
theorem q_IndexSweptS (l : List GMk) (hl : l.length ≤ 1048576) (hs : ∀ t ∈ l, MkB t) (time : Int) : QCall Try.prog 57 [marksA l, .int .i64 time] (marksA (mkSwept l time)) := by
  refine qcall_bodyL mixed Try.func57 _ (by unfold Try.f57; rfl) Try.ntmps57 Try.results57 (by decide) 1 (by simp) (by simp [pureL, pureA]) ?_
  unfold marksA
  simp (maxSteps := 4000000) (disch := omega) only [go_sem, w64, AndB_of, IfB_of, IfB_no, pickE_of, pickE_no, ite_of, ite_no, tdivE, tmodE, takeAll]
  refine LoopB.auto (fun zs => (nxOf zs, (intOf (slotOf zs 6)).toNat, verOf (blkOf zs (0)), cellsOf (blkOf zs (0)), mlenOf (slotOf zs 5))) (fun zz => [(0, none), (0, none), (3, some (.msl 0 zz.2.2.1 6 0 zz.2.2.2.2)), (0, some (.int .i64 (zz.2.1 : Int)))]) (fun zz => upd noH 0 (.live zz.2.2.1 zz.2.2.2.1)) (fun zz => zz.1) (fun zz => l.length - zz.2.1) (fun zz => zz.2.1 ≤ l.length ∧ 0 < zz.1 ∧ (marksOk l ∨ zz.2.1 = 0) ∧ Flt GMk.c id (mkSweptP time) l zz.2.1 zz.2.2.2.1 zz.2.2.2.2) (by (first | simp (maxSteps := 4000000) (disch := omega) only [go_sem, w64, AndB_of, IfB_of, IfB_no, pickE_of, pickE_no, ite_of, ite_no, tdivE, tmodE, takeAll, hH] | simp (maxSteps := 4000000) (disch := omega) only [go_sem, w64, AndB_of, IfB_of, IfB_no, pickE_of, pickE_no, ite_of, ite_no, tdivE, tmodE, takeAll]); ((repeat' apply And.intro) <;> first | exact Flt.zero | exact .inr rfl | (exact Weak.go (by (first | (simp [wkL]; done) | (simp [wkL]; omega))) (fun zi => by first | exact .inl rfl | exact .inr rfl | (simp only [upd]; repeat' split) <;> first | exact Flt.zero | exact .inr rfl | exact .inl rfl | exact .inr rfl | (exfalso; omega) | exact .inr (hd _ (by omega)) | (left; subst_vars; exact hH.symm) | (left; subst_vars; rfl) | (left; simp; done) | (left; simp; omega)) (by omega)) | omega | rfl | assumption | exact Flat.nil | exact ⟨_, rfl, rfl, by assumption⟩ | (simp; done) | (simp; omega))) ?_
  intro zz zh
  obtain ⟨x, k, w, cells, m⟩ := zz
  dsimp only at zh
  obtain ⟨hk, hx, hv, hf⟩ := zh
  simp (maxSteps := 4000000) (disch := omega) only [go_sem, w64, AndB_of, IfB_of, IfB_no, pickE_of, pickE_no, ite_of, ite_no, tdivE, tmodE, takeAll]
  refine IfB.dec (fun h1 => ?_) (fun h1 => ?_)
  · have h1' : k < l.length := by omega
    have hm := hf.le
    have hlen := hf.len GMk.len
    simp (maxSteps := 4000000) (disch := omega) only [go_sem, w64, AndB_of, IfB_of, IfB_no, pickE_of, pickE_no, ite_of, ite_no, tdivE, tmodE, takeAll]
    repeat' (first | (refine IfB.dec2 (fun h hd => ?_) (fun h hd => ?_) <;> (try (have h2 := h; unfold inR at h2)) <;> (try simp (maxSteps := 4000000) (disch := omega) only [go_sem, w64, AndB_of, IfB_of, IfB_no, pickE_of, pickE_no, ite_of, ite_no, tdivE, tmodE, takeAll, hd])) | (refine IfB.split (fun h => ?_) (fun h => ?_) <;> (try simp (maxSteps := 4000000) (disch := omega) only [go_sem, w64, AndB_of, IfB_of, IfB_no, pickE_of, pickE_no, ite_of, ite_no, tdivE, tmodE, takeAll, h])) | (refine DrawB.quiet (by kernel_rfl) ?_; simp (maxSteps := 4000000) (disch := omega) only [go_sem, w64, AndB_of, IfB_of, IfB_no, pickE_of, pickE_no, ite_of, ite_no, tdivE, tmodE, takeAll]) | (apply CallB.q (q_IndexOkS l hl hs); simp (maxSteps := 4000000) (disch := omega) only [go_sem, w64, AndB_of, IfB_of, IfB_no, pickE_of, pickE_no, ite_of, ite_no, tdivE, tmodE, takeAll]) | (apply DCallB.q0 (q_IndexOkS l hl hs); simp (maxSteps := 4000000) (disch := omega) only [go_sem, w64, AndB_of, IfB_of, IfB_no, pickE_of, pickE_no, ite_of, ite_no, tdivE, tmodE, takeAll]))
    all_goals first
      | (have hp : mkSweptP time l[k] = true := decide_eq_true (by omega)
         refine ⟨⟨by omega, by assumption, hf.yes h1' hp rfl⟩, by omega, ?_⟩
         ((repeat' apply And.intro) <;> first | (exact Weak.go (by (first | (simp [wkL]; done) | (simp [wkL]; omega))) (fun zi => by first | exact .inl rfl | exact .inr rfl | (simp only [upd]; repeat' split) <;> first | exact .inl rfl | exact .inr rfl | (exfalso; omega) | exact .inr (hd _ (by omega)) | (left; subst_vars; exact hH.symm) | (left; subst_vars; rfl) | (left; simp; done) | (left; simp; omega)) (by omega)) | omega | rfl | assumption | exact Flat.nil | exact ⟨_, rfl, rfl, by assumption⟩ | (simp; done) | (simp; omega)))
      | (have hp : mkSweptP time l[k] = false := decide_eq_false fun e => by omega
         refine ⟨⟨by omega, by omega, by assumption, hf.no h1' hp⟩, by omega, ?_⟩
         ((repeat' apply And.intro) <;> first | (exact Weak.go (by (first | (simp [wkL]; done) | (simp [wkL]; omega))) (fun zi => by first | exact .inl rfl | exact .inr rfl | (simp only [upd]; repeat' split) <;> first | exact .inl rfl | exact .inr rfl | (exfalso; omega) | exact .inr (hd _ (by omega)) | (left; subst_vars; exact hH.symm) | (left; subst_vars; rfl) | (left; simp; done) | (left; simp; omega)) (by omega)) | omega | rfl | assumption | exact Flat.nil | exact ⟨_, rfl, rfl, by assumption⟩ | (simp; done) | (simp; omega)))
      | skip
    have hk0 : k = 0 := by rcases hv with hv | hv; contradiction; exact hv
    subst hk0
    unfold mkSwept
    rw [if_neg (by assumption)]
    have : m = 0 := by omega
    subst this
    obtain rfl : cells = [] := List.eq_nil_of_length_eq_zero (by omega)
    simp (maxSteps := 4000000) (disch := omega) only [go_sem, w64, AndB_of, IfB_of, IfB_no, pickE_of, pickE_no, ite_of, ite_no, tdivE, tmodE, takeAll, List.take_zero]
    rfl
  · obtain ⟨e1, e2⟩ := hf.fin (by omega)
    rw [List.map_id] at e1 e2
    subst e1 e2
    simp (maxSteps := 4000000) (disch := omega) only [go_sem, w64, AndB_of, IfB_of, IfB_no, pickE_of, pickE_no, ite_of, ite_no, tdivE, tmodE, takeAll]
    unfold mkSwept
    split
    · rfl
    · have hl0 : l = [] := by
        rcases hv with hv | hv
        · contradiction
        · exact List.eq_nil_of_length_eq_zero (by omega)
      subst hl0
      rfl
theorem q_IndexSwept1 (a : GMk) (time : Int) : QCall Try.prog 112 [.agg [.int .i64 a.v.k, .int .i64 a.v.n, .str a.v.s, .int .i64 a.key, .int .i64 a.born, .int .i64 a.died], .ro [.int .i64 time]] (.bool (!mkSweptP time a)) := by
  refine qcall_body mixed Try.func112 _ (by unfold Try.f112; rfl) Try.ntmps112 Try.results112 (by decide) 0 (by simp) (by simp [pureL, pureA]) ?_
  simp (maxSteps := 4000000) (disch := omega) only [go_sem, w64, AndB_of, IfB_of, IfB_no, pickE_of, pickE_no, ite_of, ite_no, tdivE, tmodE, takeAll]
  repeat' (first | (refine IfB.dec2 (fun h hd => ?_) (fun h hd => ?_) <;> (try (have h2 := h; unfold inR at h2)) <;> (try simp (maxSteps := 4000000) (disch := omega) only [go_sem, w64, AndB_of, IfB_of, IfB_no, pickE_of, pickE_no, ite_of, ite_no, tdivE, tmodE, takeAll, hd])) | (refine IfB.split (fun h => ?_) (fun h => ?_) <;> (try simp (maxSteps := 4000000) (disch := omega) only [go_sem, w64, AndB_of, IfB_of, IfB_no, pickE_of, pickE_no, ite_of, ite_no, tdivE, tmodE, takeAll, h])) | (refine DrawB.quiet (by kernel_rfl) ?_; simp (maxSteps := 4000000) (disch := omega) only [go_sem, w64, AndB_of, IfB_of, IfB_no, pickE_of, pickE_no, ite_of, ite_no, tdivE, tmodE, takeAll]))
  all_goals (unfold mkSweptP; rw [AV.bool.injEq, Bool.eq_iff_iff]; (try simp only [decide_eq_true_iff]); (try simp only [true_iff, Bool.false_eq_true, false_iff]); simp; omega)
theorem GMk_plain : ∀ a, ∀ p ∈ GMk.c a, plainA p = true := fun a p hp => by simp [GMk.c] at hp; rcases hp with rfl | rfl | rfl | rfl | rfl | rfl <;> rfl
theorem f_cloneMk (l : List GMk) (hl : l.length ≤ 1048576) : ACallD Try.prog 109 [marksA l] noH 0 (fun r H' n' => OwnR H' 0 n' (marksA l) r) :=
  (d_cloneMk l hl).mono fun r H' n' ⟨e1, e2, e3⟩ => by
    subst e1 e2 e3
    exact OwnR.flat GMk.len GMk_plain (upd_same ..) (by omega) (by omega)
theorem f_IndexSweptI (l : List GMk) (hl : l.length ≤ 1048576) (hs : ∀ t ∈ l, MkB t) (time : Int) : ACallD Try.prog 58 [marksA l, .int .i64 time] noH 0 (fun r H' n' => OwnR H' 0 n' (marksA (mkSwept l time)) r) := by
  refine dcall_body mixed Try.func58 _ (by unfold Try.f58; rfl) Try.ntmps58 Try.results58 (by decide) (by simp) ?_
  simp (maxSteps := 4000000) (disch := omega) only [go_sem, w64, AndB_of, IfB_of, IfB_no, pickE_of, pickE_no, ite_of, ite_no, tdivE, tmodE, takeAll]
  repeat' (first | (refine IfB.dec2 (fun h hd => ?_) (fun h hd => ?_) <;> (try (have h2 := h; unfold inR at h2)) <;> (try simp (maxSteps := 4000000) (disch := omega) only [go_sem, w64, AndB_of, IfB_of, IfB_no, pickE_of, pickE_no, ite_of, ite_no, tdivE, tmodE, takeAll, hd])) | (refine IfB.split (fun h => ?_) (fun h => ?_) <;> (try simp (maxSteps := 4000000) (disch := omega) only [go_sem, w64, AndB_of, IfB_of, IfB_no, pickE_of, pickE_no, ite_of, ite_no, tdivE, tmodE, takeAll, h])) | (refine DrawB.quiet (by kernel_rfl) ?_; simp (maxSteps := 4000000) (disch := omega) only [go_sem, w64, AndB_of, IfB_of, IfB_no, pickE_of, pickE_no, ite_of, ite_no, tdivE, tmodE, takeAll]) | (apply CallB.q (q_IndexOkI l hl hs); simp (maxSteps := 4000000) (disch := omega) only [go_sem, w64, AndB_of, IfB_of, IfB_no, pickE_of, pickE_no, ite_of, ite_no, tdivE, tmodE, takeAll]) | (apply DCallB.q0 (q_IndexOkI l hl hs); simp (maxSteps := 4000000) (disch := omega) only [go_sem, w64, AndB_of, IfB_of, IfB_no, pickE_of, pickE_no, ite_of, ite_no, tdivE, tmodE, takeAll]))
  · unfold marksA
    apply CallB.of (c_CloneMk l false hl)
    simp (maxSteps := 4000000) (disch := omega) only [go_sem, w64, AndB_of, IfB_of, IfB_no, pickE_of, pickE_no, ite_of, ite_no, tdivE, tmodE, takeAll]
    refine CallB.law (d_DeleteFuncMk l 112 [.ptr 0 0 0] (fun m => !mkSweptP time m) hl (by omega) (fun i hi => ?_) (upd_same ..) (fun H' => ?_) (fun H' hH v hv => ?_)) ?_
    · rw [upd_ne _ _ (by omega), upd_ne _ _ (by omega)]; rfl
    · simp [pureL, snapA_pure]
    · have e0 : H' 0 = .live 0 [.int .i64 time] := by rw [hH 0 (by omega) (by omega)]; rfl
      have := q_IndexSwept1 v time
      simpa [go_sem, e0] using this
    rintro _ H2 n2 ⟨rfl, rfl, hn⟩
    simp (maxSteps := 4000000) (disch := omega) only [go_sem, w64, AndB_of, IfB_of, IfB_no, pickE_of, pickE_no, ite_of, ite_no, tdivE, tmodE, takeAll]
    have ek : keptL (fun m => !mkSweptP time m) l = mkSwept l time := by
      unfold mkSwept keptL
      rw [if_pos (by assumption)]
      simp
    rw [ek]
    refine CallB.fresh (Pict.msl GMk.len GMk.pure (upd_same ..)) (f_cloneMk _ (mkSwept_len hl)) fun r H3 n3 hO hn3 hH3 => ?_
    simp (maxSteps := 4000000) (disch := omega) only [go_sem, w64, AndB_of, IfB_of, IfB_no, pickE_of, pickE_no, ite_of, ite_no, tdivE, tmodE, takeAll]
    exact hO.mono (by omega) (by omega)
  all_goals (unfold mkSwept; rw [if_neg (by assumption)]; exact OwnR.nilS)
end Go.TH
