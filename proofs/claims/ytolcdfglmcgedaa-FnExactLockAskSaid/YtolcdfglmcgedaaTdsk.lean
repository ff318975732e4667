/- TH: the library on slices: the walks. Made by slib.py and gen.py. -/
import Derived.Test.YtolcdfglmcgedaaTdo
import Derived.Test.YtolcdfglmcgedaaTdbo
import Derived.Test.YtolcdfglmcgedaaTf3
namespace Go.TH
open Go Go.Proofs
set_option linter.unusedSimpArgs false
set_option linter.unusedVariables false
set_option maxHeartbeats 20000000
set_option maxRecDepth 100000
theorem q_IndexFuncAk (l : List GAk) (f : FuncId) (cap : List AV) (hcap : pureL cap = true) (p : GAk → Bool) (hl : l.length ≤ 1048576) (hf : ∀ v ∈ l, QCall Try.prog f ([.agg [.int .i64 v.who, .int .i64 v.key, .int .i64 v.kind]] ++ cap) (.bool (p v))) :
    QCall Try.prog 124 [asksA l, .fn f cap] (.int .i64 (idxF p l)) := by
  refine qcall_body mixed Try.func124 _ (by unfold Try.f124; rfl) Try.ntmps124 Try.results124 (by decide) 0 (by simp) (by simp [pureL, pureA, hcap]) ?_
  unfold asksA
  simp (maxSteps := 4000000) (disch := omega) only [go_sem, w64, AndB_of, IfB_of, IfB_no, pickE_of, pickE_no, ite_of, ite_no, tdivE, tmodE, takeAll]
  refine LoopB.auto (fun zs => (intOf (slotOf zs 8)).toNat) (fun zz => [(0, none), (0, none), (5, none), (0, some (.int .i64 (zz : Int)))]) (fun zz => noH) (fun zz => 5 * zz) (fun zz => l.length - zz) (fun zz => zz ≤ l.length ∧ ∀ j (h : j < l.length), j < zz → p l[j] = false) (by (first | simp (maxSteps := 4000000) (disch := omega) only [go_sem, w64, AndB_of, IfB_of, IfB_no, pickE_of, pickE_no, ite_of, ite_no, tdivE, tmodE, takeAll, hH] | simp (maxSteps := 4000000) (disch := omega) only [go_sem, w64, AndB_of, IfB_of, IfB_no, pickE_of, pickE_no, ite_of, ite_no, tdivE, tmodE, takeAll]); ((repeat' apply And.intro) <;> first | (exact Weak.go (by (first | (simp [wkL]; done) | (simp [wkL]; omega))) (fun zi => by first | exact .inl rfl | exact .inr rfl | (simp only [upd]; repeat' split) <;> first | exact .inl rfl | exact .inr rfl | (exfalso; omega) | exact .inr (hd _ (by omega)) | (left; subst_vars; exact hH.symm) | (left; subst_vars; rfl) | (left; simp; done) | (left; simp; omega)) (by omega)) | omega | rfl | assumption | exact Flat.nil | exact ⟨_, rfl, rfl, by assumption⟩ | (simp; done) | (simp; omega))) ?_
  intro k zh
  obtain ⟨hk, hall⟩ := zh
  simp (maxSteps := 4000000) (disch := omega) only [go_sem, w64, AndB_of, IfB_of, IfB_no, pickE_of, pickE_no, ite_of, ite_no, tdivE, tmodE, takeAll]
  refine IfB.dec (fun h1 => ?_) (fun h1 => ?_)
  · have h1' : k < l.length := by omega
    simp (maxSteps := 4000000) (disch := omega) only [go_sem, w64, AndB_of, IfB_of, IfB_no, pickE_of, pickE_no, ite_of, ite_no, tdivE, tmodE, takeAll]
    apply CallB.q (hf l[k] (List.getElem_mem _))
    simp (maxSteps := 4000000) (disch := omega) only [go_sem, w64, AndB_of, IfB_of, IfB_no, pickE_of, pickE_no, ite_of, ite_no, tdivE, tmodE, takeAll]
    refine IfB.split (fun h => ?_) (fun h => ?_)
    · simp (maxSteps := 4000000) (disch := omega) only [go_sem, w64, AndB_of, IfB_of, IfB_no, pickE_of, pickE_no, ite_of, ite_no, tdivE, tmodE, takeAll, idxF_at h1' h hall]
    · simp (maxSteps := 4000000) (disch := omega) only [go_sem, w64, AndB_of, IfB_of, IfB_no, pickE_of, pickE_no, ite_of, ite_no, tdivE, tmodE, takeAll]
      ((repeat' apply And.intro) <;> first | exact fun j hj hji => by by_cases e : j = k; exact (by subst e; exact h); exact hall j hj (by omega) | (exact Weak.go (by (first | (simp [wkL]; done) | (simp [wkL]; omega))) (fun zi => by first | exact .inl rfl | exact .inr rfl | (simp only [upd]; repeat' split) <;> first | exact fun j hj hji => by by_cases e : j = k; exact (by subst e; exact h); exact hall j hj (by omega) | exact .inl rfl | exact .inr rfl | (exfalso; omega) | exact .inr (hd _ (by omega)) | (left; subst_vars; exact hH.symm) | (left; subst_vars; rfl) | (left; simp; done) | (left; simp; omega)) (by omega)) | omega | rfl | assumption | exact Flat.nil | exact ⟨_, rfl, rfl, by assumption⟩ | (simp; done) | (simp; omega))
  · simp (maxSteps := 4000000) (disch := omega) only [go_sem, w64, AndB_of, IfB_of, IfB_no, pickE_of, pickE_no, ite_of, ite_no, tdivE, tmodE, takeAll, idxF_none (fun j hj => hall j hj (by omega))]
theorem q_ContainsFuncAk (l : List GAk) (f : FuncId) (cap : List AV) (hcap : pureL cap = true) (p : GAk → Bool) (hl : l.length ≤ 1048576) (hf : ∀ v ∈ l, QCall Try.prog f ([.agg [.int .i64 v.who, .int .i64 v.key, .int .i64 v.kind]] ++ cap) (.bool (p v))) :
    QCall Try.prog 63 [asksA l, .fn f cap] (.bool (l.any p)) := by
  refine qcall_body mixed Try.func63 _ (by unfold Try.f63; rfl) Try.ntmps63 Try.results63 (by decide) 0 (by simp) (by simp [pureL, pureA, hcap]) ?_
  simp (maxSteps := 4000000) (disch := omega) only [go_sem, w64, AndB_of, IfB_of, IfB_no, pickE_of, pickE_no, ite_of, ite_no, tdivE, tmodE, takeAll]
  apply CallB.q (q_IndexFuncAk l f cap hcap p hl hf)
  simp (maxSteps := 4000000) (disch := omega) only [go_sem, w64, AndB_of, IfB_of, IfB_no, pickE_of, pickE_no, ite_of, ite_no, tdivE, tmodE, takeAll]
  have := @idxF_ge _ p l
  rw [AV.bool.injEq, Bool.eq_iff_iff]; (try simp only [decide_eq_true_iff])
  simp [this]
theorem c_ClipAk {H : AH} {nx id ver n : Nat} {cells : List AV} (h : H id = .live ver cells) : CallC Try.prog 88 [.msl id ver 3 0 n] H nx (.msl id ver 3 0 n) H nx := by
  refine call_body mixed Try.func88 _ (by unfold Try.f88; rfl) Try.ntmps88 Try.results88 (by decide) (by simp) ?_
  simp (maxSteps := 4000000) (disch := omega) only [go_sem, w64, AndB_of, IfB_of, IfB_no, pickE_of, pickE_no, ite_of, ite_no, tdivE, tmodE, takeAll, h]
theorem c_CloneAk {H : AH} {nx : Nat} (l : List GAk) (t : Bool) (hl : l.length ≤ 1048576) : CallC Try.prog 153 [.sl l.length t (flat GAk.c l)] H nx (.msl nx 1 3 0 l.length) (upd H nx (.live 1 (flat GAk.c l))) (nx + 1) := by
  by_cases h0 : 0 < l.length
  · refine call_body mixed Try.func153 _ (by unfold Try.f153; rfl) Try.ntmps153 Try.results153 (by decide) (by simp) ?_
    simp (maxSteps := 4000000) (disch := omega) only [go_sem, w64, AndB_of, IfB_of, IfB_no, pickE_of, pickE_no, ite_of, ite_no, tdivE, tmodE, takeAll, upd_upd]
  · obtain rfl : l = [] := List.eq_nil_of_length_eq_zero (by omega)
    refine ncall_body mixed Try.func153 _ (by unfold Try.f153; rfl) Try.ntmps153 Try.results153 (by decide) (by simp) ?_
    simp (maxSteps := 4000000) (disch := omega) only [go_sem, w64, AndB_of, IfB_of, IfB_no, pickE_of, pickE_no, ite_of, ite_no, tdivE, tmodE, takeAll, flat_nil]
    refine NW.step ?_
    simp (maxSteps := 4000000) (disch := omega) only [go_sem, w64, AndB_of, IfB_of, IfB_no, pickE_of, pickE_no, ite_of, ite_no, tdivE, tmodE, takeAll]
    refine NW.then ?_
    refine NW.step ?_
    simp (maxSteps := 4000000) (disch := omega) only [go_sem, w64, AndB_of, IfB_of, IfB_no, pickE_of, pickE_no, ite_of, ite_no, tdivE, tmodE, takeAll]
    refine NW.fork rfl ?_ ?_
    · refine NW.step ?_
      simp (maxSteps := 4000000) (disch := omega) only [go_sem, w64, AndB_of, IfB_of, IfB_no, pickE_of, pickE_no, ite_of, ite_no, tdivE, tmodE, takeAll]
      refine NW.weak (Weak.nilV 2 3 1 rfl) (NW.ofw ?_)
      simp (maxSteps := 4000000) (disch := omega) only [go_sem, w64, AndB_of, IfB_of, IfB_no, pickE_of, pickE_no, ite_of, ite_no, tdivE, tmodE, takeAll, List.set_cons_succ, List.set_cons_zero]
    · refine NW.ofw ?_
      simp (maxSteps := 4000000) (disch := omega) only [go_sem, w64, AndB_of, IfB_of, IfB_no, pickE_of, pickE_no, ite_of, ite_no, tdivE, tmodE, takeAll]
      refine NW.ofw ?_
      simp (maxSteps := 4000000) (disch := omega) only [go_sem, w64, AndB_of, IfB_of, IfB_no, pickE_of, pickE_no, ite_of, ite_no, tdivE, tmodE, takeAll, upd_upd]
theorem q_cloneAk (l : List GAk) (hl : l.length ≤ 1048576) : QCall Try.prog 134 [asksA l] (asksA l) := by
  refine qcall_bodyL mixed Try.func134 _ (by unfold Try.f134; rfl) Try.ntmps134 Try.results134 (by decide) 1 (by simp) (by simp [pureL, pureA]) ?_
  unfold asksA
  simp (maxSteps := 4000000) (disch := omega) only [go_sem, w64, AndB_of, IfB_of, IfB_no, pickE_of, pickE_no, ite_of, ite_no, tdivE, tmodE, takeAll]
  refine IfB.dec (fun h => ?_) (fun h => ?_)
  · obtain rfl : l = [] := List.eq_nil_of_length_eq_zero (by omega)
    simp (maxSteps := 4000000) (disch := omega) only [go_sem, w64, AndB_of, IfB_of, IfB_no, pickE_of, pickE_no, ite_of, ite_no, tdivE, tmodE, takeAll, flat_nil]
  · simp (maxSteps := 4000000) (disch := omega) only [go_sem, w64, AndB_of, IfB_of, IfB_no, pickE_of, pickE_no, ite_of, ite_no, tdivE, tmodE, takeAll]
    apply CallB.of (c_ClipAk (by repeat (first | exact hH | exact upd_same _ _ _ | rw [upd_ne _ _ (by omega)])))
    simp (maxSteps := 4000000) (disch := omega) only [go_sem, w64, AndB_of, IfB_of, IfB_no, pickE_of, pickE_no, ite_of, ite_no, tdivE, tmodE, takeAll]
theorem d_cloneAk {H : AH} {nx : Nat} (l : List GAk) (hl : l.length ≤ 1048576) : ACallD Try.prog 134 [asksA l] H nx (fun r H' nx' => r = .msl nx 0 3 0 l.length ∧ H' = upd H nx (.live 0 (flat GAk.c l)) ∧ nx' = nx + 1) := by
  by_cases h0 : 0 < l.length
  · refine dcall_body mixed Try.func134 _ (by unfold Try.f134; rfl) Try.ntmps134 Try.results134 (by decide) (by simp) ?_
    unfold asksA
    simp (maxSteps := 4000000) (disch := omega) only [go_sem, w64, AndB_of, IfB_of, IfB_no, pickE_of, pickE_no, ite_of, ite_no, tdivE, tmodE, takeAll]
    apply CallB.of (c_ClipAk (by repeat (first | exact hH | exact upd_same _ _ _ | rw [upd_ne _ _ (by omega)])))
    simp (maxSteps := 4000000) (disch := omega) only [go_sem, w64, AndB_of, IfB_of, IfB_no, pickE_of, pickE_no, ite_of, ite_no, tdivE, tmodE, takeAll]
  · obtain rfl : l = [] := List.eq_nil_of_length_eq_zero (by omega)
    refine ⟨_, _, _, ?_, rfl, rfl, rfl⟩
    refine ncall_body mixed Try.func134 _ (by unfold Try.f134; rfl) Try.ntmps134 Try.results134 (by decide) (by simp) ?_
    unfold asksA
    simp (maxSteps := 4000000) (disch := omega) only [go_sem, w64, AndB_of, IfB_of, IfB_no, pickE_of, pickE_no, ite_of, ite_no, tdivE, tmodE, takeAll, flat_nil]
    refine NW.step ?_
    simp (maxSteps := 4000000) (disch := omega) only [go_sem, w64, AndB_of, IfB_of, IfB_no, pickE_of, pickE_no, ite_of, ite_no, tdivE, tmodE, takeAll]
    refine NW.then ?_
    refine NW.step ?_
    simp (maxSteps := 4000000) (disch := omega) only [go_sem, w64, AndB_of, IfB_of, IfB_no, pickE_of, pickE_no, ite_of, ite_no, tdivE, tmodE, takeAll]
    refine NW.yes rfl ?_
    refine NW.step ?_
    simp (maxSteps := 4000000) (disch := omega) only [go_sem, w64, AndB_of, IfB_of, IfB_no, pickE_of, pickE_no, ite_of, ite_no, tdivE, tmodE, takeAll]
    refine NW.weak (Weak.nil 2 3 rfl) (NW.ofw ?_)
    simp (maxSteps := 4000000) (disch := omega) only [go_sem, w64, AndB_of, IfB_of, IfB_no, pickE_of, pickE_no, ite_of, ite_no, tdivE, tmodE, takeAll, List.set_cons_succ, List.set_cons_zero]
theorem d_DeleteFuncAk {H : AH} {nx id ver : Nat} (l : List GAk) (f : FuncId) (cap : List AV) (p : GAk → Bool) (hl : l.length ≤ 1048576) (hid : id < nx) (hd : ∀ i, nx ≤ i → H i = .dead) (hH : H id = .live ver (flat GAk.c l)) (hcap : ∀ H', pureL (cap.map (snapA 1 H')) = true)
    (hf : ∀ H' : AH, (∀ i, i < nx → i ≠ id → H' i = H i) → ∀ v ∈ l, QCall Try.prog f (.agg [.int .i64 v.who, .int .i64 v.key, .int .i64 v.kind] :: cap.map (snapA 1 H')) (.bool (p v))) :
    ACallD Try.prog 152 [.msl id ver 3 0 l.length, .fn f cap] H nx (fun r H' nx' => r = .msl id ver 3 0 (keptL p l).length ∧ H' = upd H id (.live ver (flat GAk.c (keptL p l) ++ (List.replicate (l.length - (keptL p l).length) zAk).flatten)) ∧ nx ≤ nx') := by
  refine dcall_body mixed Try.func152 _ (by unfold Try.f152; rfl) Try.ntmps152 Try.results152 (by decide) (by simp) ?_
  simp (maxSteps := 4000000) (disch := omega) only [go_sem, w64, AndB_of, IfB_of, IfB_no, pickE_of, pickE_no, ite_of, ite_no, tdivE, tmodE, takeAll]
  have hq := q_IndexFuncAk l f (cap.map (snapA 1 H)) (hcap H) p hl (hf H fun _ _ _ => rfl)
  apply CallB.borrow 1 (r := .int .i64 (idxF p l)) _ rfl
  rotate_left
  · simp (maxSteps := 4000000) (disch := omega) only [go_sem, w64, AndB_of, IfB_of, IfB_no, pickE_of, pickE_no, ite_of, ite_no, tdivE, tmodE, takeAll, hH]
    exact hq
  rcases idxF_spec p l with ⟨e, hn⟩ | ⟨i, hi, e, hp, hn⟩
  · simp (maxSteps := 4000000) (disch := omega) only [go_sem, w64, AndB_of, IfB_of, IfB_no, pickE_of, pickE_no, ite_of, ite_no, tdivE, tmodE, takeAll, e]
    rw [keptL_none hn]
    simp only [Nat.sub_self, List.replicate_zero, List.flatten_nil, List.append_nil]
    rw [upd_val hH]
    exact ⟨trivial, rfl, Nat.le_refl _⟩ 
  · simp (maxSteps := 4000000) (disch := omega) only [go_sem, w64, AndB_of, IfB_of, IfB_no, pickE_of, pickE_no, ite_of, ite_no, tdivE, tmodE, takeAll, e]
    refine LoopB.auto (fun zs => (nxOf zs, (intOf (slotOf zs 5)).toNat, (intOf (slotOf zs 6)).toNat, cellsOf (blkOf zs (id)))) (fun zz => [(0, none), (0, none), (3, some (.int .i64 (zz.2.1 : Int))), (0, some (.int .i64 (zz.2.2.1 : Int)))]) (fun zz => upd H id (.live ver zz.2.2.2)) (fun zz => zz.1) (fun zz => l.length - zz.2.2.1) (fun zz => nx ≤ zz.1 ∧ DelI GAk.c 3 p l zz.2.2.1 zz.2.1 zz.2.2.2) (by (first | simp (maxSteps := 4000000) (disch := omega) only [go_sem, w64, AndB_of, IfB_of, IfB_no, pickE_of, pickE_no, ite_of, ite_no, tdivE, tmodE, takeAll, hH] | simp (maxSteps := 4000000) (disch := omega) only [go_sem, w64, AndB_of, IfB_of, IfB_no, pickE_of, pickE_no, ite_of, ite_no, tdivE, tmodE, takeAll]); ((repeat' apply And.intro) <;> first | exact DelI.first GAk.len hi hp hn | (exact Weak.go (by (first | (simp [wkL]; done) | (simp [wkL]; omega))) (fun zi => by first | exact .inl rfl | exact .inr rfl | (simp only [upd]; repeat' split) <;> first | exact DelI.first GAk.len hi hp hn | exact .inl rfl | exact .inr rfl | (exfalso; omega) | exact .inr (hd _ (by omega)) | (left; subst_vars; exact hH.symm) | (left; subst_vars; rfl) | (left; simp; done) | (left; simp; omega)) (by omega)) | omega | rfl | assumption | exact Flat.nil | exact ⟨_, rfl, rfl, by assumption⟩ | (simp; done) | (simp; omega))) ?_
    intro zz zh
    obtain ⟨x, i, j, cells⟩ := zz
    dsimp only at zh
    obtain ⟨hx, hI⟩ := zh
    simp (maxSteps := 4000000) (disch := omega) only [go_sem, w64, AndB_of, IfB_of, IfB_no, pickE_of, pickE_no, ite_of, ite_no, tdivE, tmodE, takeAll]
    have hle := hI.le
    have hlen := hI.len
    refine IfB.dec (fun h1 => ?_) (fun h1 => ?_)
    · have h1' : j < l.length := by omega
      have hat := hI.at GAk.len h1'
      change cells.drop (j * 3) = .int .i64 l[j].who :: .int .i64 l[j].key :: .int .i64 l[j].kind :: flat GAk.c (l.drop (j + 1)) at hat
      simp (maxSteps := 4000000) (disch := omega) only [go_sem, w64, AndB_of, IfB_of, IfB_no, pickE_of, pickE_no, ite_of, ite_no, tdivE, tmodE, takeAll, hat]
      apply CallB.borrow 1 (r := .bool (p l[j])) _ rfl
      rotate_left
      · simp (maxSteps := 4000000) (disch := omega) only [go_sem, w64, AndB_of, IfB_of, IfB_no, pickE_of, pickE_no, ite_of, ite_no, tdivE, tmodE, takeAll]
        refine hf _ (fun q h1 h2 => ?_) _ (List.getElem_mem h1')
        (repeat rw [upd_ne _ _ (by omega)])
      simp (maxSteps := 4000000) (disch := omega) only [go_sem, w64, AndB_of, IfB_of, IfB_no, pickE_of, pickE_no, ite_of, ite_no, tdivE, tmodE, takeAll]
      refine IfB.split (fun h => ?_) (fun h => ?_)
      · simp (maxSteps := 4000000) (disch := omega) only [go_sem, w64, AndB_of, IfB_of, IfB_no, pickE_of, pickE_no, ite_of, ite_no, tdivE, tmodE, takeAll]
        ((repeat' apply And.intro) <;> first | exact hI.skip GAk.len h1' h | (exact Weak.go (by (first | (simp [wkL]; done) | (simp [wkL]; omega))) (fun zi => by first | exact .inl rfl | exact .inr rfl | (simp only [upd]; repeat' split) <;> first | exact hI.skip GAk.len h1' h | exact .inl rfl | exact .inr rfl | (exfalso; omega) | exact .inr (hd _ (by omega)) | (left; subst_vars; exact hH.symm) | (left; subst_vars; rfl) | (left; simp; done) | (left; simp; omega)) (by omega)) | omega | rfl | assumption | exact Flat.nil | exact ⟨_, rfl, rfl, by assumption⟩ | (simp; done) | (simp; omega))
      · simp (maxSteps := 4000000) (disch := omega) only [go_sem, w64, AndB_of, IfB_of, IfB_no, pickE_of, pickE_no, ite_of, ite_no, tdivE, tmodE, takeAll]
        ((repeat' apply And.intro) <;> first | exact hI.keep GAk.len h1' h | (have h5 := hI.keep GAk.len h1' h; rw [Nat.mul_one] at h5; exact h5) | (exact Weak.go (by (first | (simp [wkL]; done) | (simp [wkL]; omega))) (fun zi => by first | exact .inl rfl | exact .inr rfl | (simp only [upd]; repeat' split) <;> first | exact hI.keep GAk.len h1' h | (have h5 := hI.keep GAk.len h1' h; rw [Nat.mul_one] at h5; exact h5) | exact .inl rfl | exact .inr rfl | (exfalso; omega) | exact .inr (hd _ (by omega)) | (left; subst_vars; exact hH.symm) | (left; subst_vars; rfl) | (left; simp; done) | (left; simp; omega)) (by omega)) | omega | rfl | assumption | exact Flat.nil | exact ⟨_, rfl, rfl, by assumption⟩ | (simp; done) | (simp; omega))
    · obtain rfl : j = l.length := by have := hI.hj; omega
      obtain ⟨e1, e2⟩ := hI.all GAk.len 0 []
      have hkl := keptL_le (p := p) (l := l)
      subst e1
      have hsub : ((l.length : Int) - ((keptL p l).length : Nat)).toNat = l.length - (keptL p l).length := by omega
      have hdrop : cells.drop (l.length * 3) = [] := List.drop_of_length_le (by omega)
      have hadd : (keptL p l).length * 3 + (l.length - (keptL p l).length) * 3 = l.length * 3 := by omega
      skip
      simp (maxSteps := 4000000) (disch := omega) only [go_sem, w64, AndB_of, IfB_of, IfB_no, pickE_of, pickE_no, ite_of, ite_no, tdivE, tmodE, takeAll, e2, upd_upd, hsub, hadd, hdrop, List.append_nil]
      exact hx
end Go.TH
