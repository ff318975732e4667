/- TH: rows joined by buckets: the walks. Made by gen.py. -/
import Derived.Test.YtfnflalnjigfkaaTf3
import Derived.Test.YtfnflalnjigfkaaTelj
import Derived.Test.YtfnflalnjigfkaaTeby
import Derived.Test.YtfnflalnjigfkaaTegr
import Derived.Test.YtfnflalnjigfkaaTf4
namespace Go.TH
open Go Go.Proofs
set_option linter.unusedSimpArgs false
set_option linter.unusedVariables false
set_option maxHeartbeats 20000000
set_option maxRecDepth 100000
theorem q_bucketOf (v : GVal) (hv : v.Ok) (m : Nat) (h1 : 1 ≤ m) (h5 : m ≤ 5) : QCall Try.prog 120 [.agg [.int .i64 v.k, .int .i64 v.n, .str v.s], .int .i64 m] (.int .i64 (bkt v m)) := by
  have hl := vBy_len hv
  have hmod2 : ((bSum (vBy v) : Nat) : Int) % (m : Int) = ((bkt v m : Nat) : Int) := by unfold bkt; simp
  refine qcall_body mixed Try.func120 _ (by unfold Try.f120; rfl) Try.ntmps120 Try.results120 (by decide) 0 (by simp) (by simp [pureL, pureA]) ?_
  simp (maxSteps := 4000000) (disch := omega) only [go_sem, w64, AndB_of, IfB_of, IfB_no, pickE_of, pickE_no, ite_of, ite_no, tdivE, tmodE, takeAll]
  apply CallB.q (q_bytes v hv)
  unfold bysA
  simp (maxSteps := 4000000) (disch := omega) only [go_sem, w64, AndB_of, IfB_of, IfB_no, pickE_of, pickE_no, ite_of, ite_no, tdivE, tmodE, takeAll]
  refine LoopB.auto (fun zs => ((intOf (slotOf zs 11)).toNat, (intOf (slotOf zs 5)).toNat)) (fun zz => [(1, none), (3, some (.int .i64 (zz.2 : Int))), (3, none), (0, none), (0, some (.int .i64 (zz.1 : Int)))]) (fun zz => upd noH 0 (.live 0 [.int .i64 v.k, .int .i64 v.n, .str v.s])) (fun zz => 1) (fun zz => (vBy v).length - zz.1) (fun zz => zz.1 ≤ (vBy v).length ∧ zz.2 = bSum ((vBy v).take zz.1) ∧ zz.2 ≤ 255 * zz.1) (by (first | simp (maxSteps := 4000000) (disch := omega) only [go_sem, w64, AndB_of, IfB_of, IfB_no, pickE_of, pickE_no, ite_of, ite_no, tdivE, tmodE, takeAll, hH] | simp (maxSteps := 4000000) (disch := omega) only [go_sem, w64, AndB_of, IfB_of, IfB_no, pickE_of, pickE_no, ite_of, ite_no, tdivE, tmodE, takeAll]); ((repeat' apply And.intro) <;> first | (exact Weak.go (by (first | (simp [wkL]; done) | (simp [wkL]; omega))) (fun zi => by first | exact .inl rfl | exact .inr rfl | (simp only [upd]; repeat' split) <;> first | exact .inl rfl | exact .inr rfl | (exfalso; omega) | exact .inr (hd _ (by omega)) | (left; subst_vars; exact hH.symm) | (left; subst_vars; rfl) | (left; simp; done) | (left; simp; omega)) (by omega)) | omega | rfl | assumption | exact Flat.nil | exact ⟨_, rfl, rfl, by assumption⟩ | (simp; done) | (simp; omega))) ?_
  intro zz zh
  obtain ⟨k, n⟩ := zz
  dsimp only at zh
  obtain ⟨hk, hn, hn2⟩ := zh
  simp (maxSteps := 4000000) (disch := omega) only [go_sem, w64, AndB_of, IfB_of, IfB_no, pickE_of, pickE_no, ite_of, ite_no, tdivE, tmodE, takeAll]
  refine IfB.dec (fun c1 => ?_) (fun c1 => ?_)
  · have c1' : k < (vBy v).length := by omega
    have e1 : bts ((vBy v).drop k) = .int .u8 (vBy v)[k].toNat :: bts ((vBy v).drop (k + 1)) := by rw [List.drop_eq_getElem_cons c1', bts_cons]
    have e2 := bSum_succ c1'
    have hu := (vBy v)[k].toNat_lt
    have e3 : (n : Int) + (vBy v)[k].toNat = ((n + (vBy v)[k].toNat : Nat) : Int) := by omega
    simp (maxSteps := 4000000) (disch := omega) only [go_sem, w64, AndB_of, IfB_of, IfB_no, pickE_of, pickE_no, ite_of, ite_no, tdivE, tmodE, takeAll, e1, e3]
    ((repeat' apply And.intro) <;> first | (exact Weak.go (by (first | (simp [wkL]; done) | (simp [wkL]; omega))) (fun zi => by first | exact .inl rfl | exact .inr rfl | (simp only [upd]; repeat' split) <;> first | exact .inl rfl | exact .inr rfl | (exfalso; omega) | exact .inr (hd _ (by omega)) | (left; subst_vars; exact hH.symm) | (left; subst_vars; rfl) | (left; simp; done) | (left; simp; omega)) (by omega)) | omega | rfl | assumption | exact Flat.nil | exact ⟨_, rfl, rfl, by assumption⟩ | (simp; done) | (simp; omega))
  · have hk2 : k = (vBy v).length := by omega
    rw [hk2, List.take_length] at hn
    subst hn
    simp (maxSteps := 4000000) (disch := omega) only [go_sem, w64, AndB_of, IfB_of, IfB_no, pickE_of, pickE_no, ite_of, ite_no, tdivE, tmodE, takeAll, hmod2]
theorem cRR_pure : ∀ l, pureL (cRR l) = true := fun l => by simp [cRR, pureL]
theorem cRR_flen (L : List (List GRow)) : (flat cRR L).length = L.length := by rw [flat_len (c := cRR) (sz := 1) (fun _ => rfl)]; omega
theorem q_HashJoin1 (v : GVal) (hv : v.Ok) (m : Nat) (h1 : 1 ≤ m) (h5 : m ≤ 5) (L : List (List GRow)) (hL : L.length = m) (g : List GRow) (hg : L[bkt v m]? = some g) :
    QCall Try.prog 122 [.agg [.int .i64 v.k, .int .i64 v.n, .str v.s], .ro [.sl m false (flat cRR L)], .ro [.int .i64 m]] (rowsA g) := by
  have hlt : bkt v m < L.length := (List.getElem?_eq_some_iff.1 hg).1
  have hlt2 : bkt v m < m := by omega
  have hgd : (flat cRR L).drop (bkt v m) = rowsA g :: flat cRR (L.drop (bkt v m + 1)) := by
    have := flat_at (c := cRR) (sz := 1) (fun _ => rfl) hlt
    rw [Nat.mul_one] at this
    rw [this]
    have e : L[bkt v m] = g := by rw [List.getElem?_eq_getElem hlt] at hg; exact Option.some.inj hg
    rw [e]; rfl
  refine qcall_body mixed Try.func122 _ (by unfold Try.f122; rfl) Try.ntmps122 Try.results122 (by decide) 0 (by simp) (by simp [pureL, pureA, flat_pure cRR_pure]) ?_
  simp (maxSteps := 4000000) (disch := omega) only [go_sem, w64, AndB_of, IfB_of, IfB_no, pickE_of, pickE_no, ite_of, ite_no, tdivE, tmodE, takeAll]
  refine DrawB.quiet (by kernel_rfl) ?_
  simp (maxSteps := 4000000) (disch := omega) only [go_sem, w64, AndB_of, IfB_of, IfB_no, pickE_of, pickE_no, ite_of, ite_no, tdivE, tmodE, takeAll]
  refine DCallB.q0 (q_bucketOf v hv m h1 h5) ?_
  simp (maxSteps := 4000000) (disch := omega) only [go_sem, w64, AndB_of, IfB_of, IfB_no, pickE_of, pickE_no, ite_of, ite_no, tdivE, tmodE, takeAll, hgd, cRR_flen, hL]
end Go.TH
