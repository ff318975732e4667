/- TH: the law FnPartsFor. Made by gen.py. -/
import Derived.Test.YtipoefabimcbdaaTbpf2
import Derived.Test.YtipoefabimcbdaaTbpf3
import Derived.Test.YtipoefabimcbdaaTf3
namespace Go.TH
open Go Go.Proofs
set_option linter.unusedSimpArgs false
set_option linter.unusedVariables false
set_option maxHeartbeats 20000000
set_option maxRecDepth 100000
theorem belowL_mono {m n : Int} (h : m ≤ n) : ∀ l : List Int, belowL l m ≤ belowL l n
  | [] => Nat.le_refl _
  | a :: l => by
    have ih := belowL_mono h l
    simp only [belowL, keptL, List.filter_cons] at ih ⊢
    split <;> split
    · simp only [List.length_cons]; omega
    · next h1 h2 => simp at h1 h2; omega
    · simp only [List.length_cons]; omega
    · exact ih
theorem mem_range {lo hi b : Nat} (h1 : lo ≤ b) (h2 : b ≤ hi) : (b : Int) ∈ rangeL lo hi := by
  unfold rangeL rangeK
  exact List.mem_map.2 ⟨b - lo, List.mem_range.2 (by omega), by rw [show lo + (b - lo) = b by omega]⟩
theorem partsL_len (l : List Int) (kind n : Int) : (partsL l kind n).length ≤ l.length + 1 := by
  have hb1 := belowL_le l n
  have hb2 := belowL_le l (n - 1)
  unfold partsL rangeL
  split
  · split
    · rw [rangeK_len]; omega
    · split
      · rw [rangeK_len]; omega
      · split
        · rw [rangeK_len]; omega
        · split
          · rw [rangeK_len]; omega
          · simp
  · simp
theorem q_PartOf (l : List Int) (m : Int) (hl : l.length ≤ 1000) (hc : cutsOk l) (hm : inR m (-9999) 9999) : QCall Try.prog 38 [intsA l, .agg [.int .i64 (⟨1, m, ⟨#[]⟩⟩ : GVal).k, .int .i64 (⟨1, m, ⟨#[]⟩⟩ : GVal).n, .str (⟨1, m, ⟨#[]⟩⟩ : GVal).s]] (.int .i64 (belowL l m)) := by
  have qc := q_CutsOkI l (by omega)
  rw [decide_eq_true hc] at qc
  have qv := q_ok ⟨1, m, ⟨#[]⟩⟩ (by show (⟨#[]⟩ : ByteArray).size ≤ 9223372036854775807; decide)
  rw [decide_eq_true (show GVal.Ok ⟨1, m, ⟨#[]⟩⟩ from by unfold GVal.Ok; simp [hm])] at qv
  refine qcall_body mixed Try.func38 _ (by unfold Try.f38; rfl) Try.ntmps38 Try.results38 (by decide) 0 (by simp) (by simp [pureL, pureA]) ?_
  simp (maxSteps := 4000000) (disch := omega) only [go_sem, w64, AndB_of, IfB_of, IfB_no, pickE_of, pickE_no, ite_of, ite_no, tdivE, tmodE, takeAll]
  apply CallB.q qc
  simp (maxSteps := 4000000) (disch := omega) only [go_sem, w64, AndB_of, IfB_of, IfB_no, pickE_of, pickE_no, ite_of, ite_no, tdivE, tmodE, takeAll]
  apply CallB.q qv
  simp (maxSteps := 4000000) (disch := omega) only [go_sem, w64, AndB_of, IfB_of, IfB_no, pickE_of, pickE_no, ite_of, ite_no, tdivE, tmodE, takeAll]
  apply CallB.q (q_below l m (by omega))
  simp (maxSteps := 4000000) (disch := omega) only [go_sem, w64, AndB_of, IfB_of, IfB_no, pickE_of, pickE_no, ite_of, ite_no, tdivE, tmodE, takeAll]
theorem ord_num (m n : Int) : GVal.ord ⟨1, m, ⟨#[]⟩⟩ ⟨1, n, ⟨#[]⟩⟩ = cmpI m n := by
  unfold GVal.ord
  have h1 : cmpI 1 1 = 0 := by decide
  have h2 : cmpS ⟨#[]⟩ ⟨#[]⟩ = 0 := by decide
  simp only [orF, h1, h2, if_true]
  split
  · next h => exact h.symm
  · rfl
theorem cmp_num {kind m n : Int} (h : cmpV kind ⟨1, m, ⟨#[]⟩⟩ ⟨1, n, ⟨#[]⟩⟩ = 1) : (kind = 1 ∧ m = n) ∨ kind = 2 ∨ (kind = 3 ∧ m < n) ∨ (kind = 4 ∧ m ≤ n) := by
  unfold cmpV at h
  rw [ord_num] at h
  unfold cmpT cmpI at h
  simp only at h
  repeat' split at h
  all_goals omega
theorem parts_mem {l : List Int} {kind m n : Int} (hc : cutsOk l) (hn : inR n (-9999) 9999) (h : (kind = 1 ∧ m = n) ∨ kind = 2 ∨ (kind = 3 ∧ m < n) ∨ (kind = 4 ∧ m ≤ n)) : ((belowL l m : Nat) : Int) ∈ partsL l kind n := by
  unfold partsL
  rw [if_pos ⟨hc, hn⟩]
  rcases h with ⟨rfl, rfl⟩ | rfl | ⟨rfl, h⟩ | ⟨rfl, h⟩
  · rw [if_pos rfl]; exact mem_range (Nat.le_refl _) (Nat.le_refl _)
  · rw [if_neg (by omega), if_pos rfl]; exact mem_range (by omega) (belowL_le _ _)
  · rw [if_neg (by omega), if_neg (by omega), if_pos rfl]; exact mem_range (by omega) (belowL_mono (by omega) _)
  · rw [if_neg (by omega), if_neg (by omega), if_neg (by omega), if_pos rfl]; exact mem_range (by omega) (belowL_mono h _)
theorem w_PartsFor (s : ByteArray) (hs : s.size ≤ 9223372036854775807) :
    CallQ Try.prog 6 [.sl s.size false (bytesCells s)] noH 0 fun r _ _ => r = .bool true := by
  refine callQ_body mixed Try.func6 _ (by unfold Try.f6; rfl) Try.ntmps6 Try.results6 (by decide) (by simp) ?_
  simp (maxSteps := 4000000) (disch := omega) only [go_sem, w64, AndB_of, IfB_of, IfB_no, pickE_of, pickE_no, ite_of, ite_no, tdivE, tmodE, takeAll]
  refine IfB.dec (fun h => ?_) (fun h => ?_)
  · simp (maxSteps := 4000000) (disch := omega) only [go_sem, w64, AndB_of, IfB_of, IfB_no, pickE_of, pickE_no, ite_of, ite_no, tdivE, tmodE, takeAll]
  obtain ⟨R, ⟨l, kind, n, hl, hn1, hn2, rfl⟩, hq⟩ := x_DrawPartsFor s
  have hpl := partsL_len l kind n
  simp (maxSteps := 4000000) (disch := omega) only [go_sem, w64, AndB_of, IfB_of, IfB_no, pickE_of, pickE_no, ite_of, ite_no, tdivE, tmodE, takeAll]
  apply CallB.q hq
  simp (maxSteps := 4000000) (disch := omega) only [go_sem, w64, AndB_of, IfB_of, IfB_no, pickE_of, pickE_no, ite_of, ite_no, tdivE, tmodE, takeAll]
  apply CallB.q (q_PartsForI l kind n (by omega))
  simp (maxSteps := 4000000) (disch := omega) only [go_sem, w64, AndB_of, IfB_of, IfB_no, pickE_of, pickE_no, ite_of, ite_no, tdivE, tmodE, takeAll]
  apply CallB.q (q_PartsForS l kind n (by omega))
  simp (maxSteps := 4000000) (disch := omega) only [go_sem, w64, AndB_of, IfB_of, IfB_no, pickE_of, pickE_no, ite_of, ite_no, tdivE, tmodE, takeAll]
  apply CallB.q (q_sameInts _ _ (by omega))
  simp (maxSteps := 4000000) (disch := omega) only [go_sem, w64, AndB_of, IfB_of, IfB_no, pickE_of, pickE_no, ite_of, ite_no, tdivE, tmodE, takeAll]
  have hlen0 : ¬ (cutsOk l ∧ 1 ≤ kind ∧ kind ≤ 4) → partsL l kind n = [] := fun e => by
    unfold partsL
    split
    · next h =>
      have hk : ¬ (1 ≤ kind ∧ kind ≤ 4) := fun e2 => e ⟨h.1, e2⟩
      repeat rw [if_neg (by omega)]
    · rfl
  apply CallB.q (q_CutsOkI l (by omega))
  simp (maxSteps := 4000000) (disch := omega) only [go_sem, w64, AndB_of, IfB_of, IfB_no, pickE_of, pickE_no, ite_of, ite_no, tdivE, tmodE, takeAll]
  by_cases hg : cutsOk l ∧ 1 ≤ kind ∧ kind ≤ 4
  · obtain ⟨hc, hk1, hk2⟩ := hg
    have hdc := decide_eq_true hc
    simp (maxSteps := 4000000) (disch := omega) only [go_sem, w64, AndB_of, IfB_of, IfB_no, pickE_of, pickE_no, ite_of, ite_no, tdivE, tmodE, takeAll, hdc]
    refine LoopB.auto (fun zs => (nxOf zs, intOf (slotOf zs 7))) (fun zz => [(3, none), (0, none), (0, none), (0, none), (0, some (.int .i64 zz.2))]) (fun zz => noH) (fun zz => zz.1) (fun zz => (n + 13 - zz.2).toNat) (fun zz => n - 12 ≤ zz.2 ∧ zz.2 ≤ n + 13) (by (first | simp (maxSteps := 4000000) (disch := omega) only [go_sem, w64, AndB_of, IfB_of, IfB_no, pickE_of, pickE_no, ite_of, ite_no, tdivE, tmodE, takeAll, hH] | simp (maxSteps := 4000000) (disch := omega) only [go_sem, w64, AndB_of, IfB_of, IfB_no, pickE_of, pickE_no, ite_of, ite_no, tdivE, tmodE, takeAll]); ((repeat' apply And.intro) <;> first | (exact Weak.go (by (first | (simp [wkL]; done) | (simp [wkL]; omega))) (fun zi => by first | exact .inl rfl | exact .inr rfl | (simp only [upd]; repeat' split) <;> first | exact .inl rfl | exact .inr rfl | (exfalso; omega) | exact .inr (hd _ (by omega)) | (left; subst_vars; exact hH.symm) | (left; subst_vars; rfl) | (left; simp; done) | (left; simp; omega)) (by omega)) | omega | rfl | assumption | exact Flat.nil | exact ⟨_, rfl, rfl, by assumption⟩ | (simp; done) | (simp; omega))) ?_
    intro zz zh
    obtain ⟨x, m⟩ := zz
    dsimp only at zh
    obtain ⟨hm1, hm2⟩ := zh
    simp (maxSteps := 4000000) (disch := omega) only [go_sem, w64, AndB_of, IfB_of, IfB_no, pickE_of, pickE_no, ite_of, ite_no, tdivE, tmodE, takeAll]
    refine IfB.dec (fun h1 => ?_) (fun h1 => ?_)
    · simp (maxSteps := 4000000) (disch := omega) only [go_sem, w64, AndB_of, IfB_of, IfB_no, pickE_of, pickE_no, ite_of, ite_no, tdivE, tmodE, takeAll]
      have hmi : inR m (-9999) 9999 := by unfold inR; omega
      have hni : inR n (-9999) 9999 := by unfold inR; omega
      apply CallB.q (q_CompareKI kind ⟨1, m, ⟨#[]⟩⟩ ⟨1, n, ⟨#[]⟩⟩ (by show (⟨#[]⟩ : ByteArray).size ≤ 140737488355328; decide) (by show (⟨#[]⟩ : ByteArray).size ≤ 140737488355328; decide))
      simp (maxSteps := 4000000) (disch := omega) only [go_sem, w64, AndB_of, IfB_of, IfB_no, pickE_of, pickE_no, ite_of, ite_no, tdivE, tmodE, takeAll]
      refine IfB.dec (fun h2 => ?_) (fun h2 => ?_)
      · have qh := q_hasInt (partsL l kind n) (belowL l m) (by omega)
        rw [decide_eq_true (parts_mem hc hni (cmp_num h2))] at qh
        simp (maxSteps := 4000000) (disch := omega) only [go_sem, w64, AndB_of, IfB_of, IfB_no, pickE_of, pickE_no, ite_of, ite_no, tdivE, tmodE, takeAll]
        apply CallB.q (q_PartOf l m (by omega) hc hmi)
        simp (maxSteps := 4000000) (disch := omega) only [go_sem, w64, AndB_of, IfB_of, IfB_no, pickE_of, pickE_no, ite_of, ite_no, tdivE, tmodE, takeAll]
        apply CallB.q qh
        simp (maxSteps := 4000000) (disch := omega) only [go_sem, w64, AndB_of, IfB_of, IfB_no, pickE_of, pickE_no, ite_of, ite_no, tdivE, tmodE, takeAll]
        ((repeat' apply And.intro) <;> first | (exact Weak.go (by (first | (simp [wkL]; done) | (simp [wkL]; omega))) (fun zi => by first | exact .inl rfl | exact .inr rfl | (simp only [upd]; repeat' split) <;> first | exact .inl rfl | exact .inr rfl | (exfalso; omega) | exact .inr (hd _ (by omega)) | (left; subst_vars; exact hH.symm) | (left; subst_vars; rfl) | (left; simp; done) | (left; simp; omega)) (by omega)) | omega | rfl | assumption | exact Flat.nil | exact ⟨_, rfl, rfl, by assumption⟩ | (simp; done) | (simp; omega))
      · simp (maxSteps := 4000000) (disch := omega) only [go_sem, w64, AndB_of, IfB_of, IfB_no, pickE_of, pickE_no, ite_of, ite_no, tdivE, tmodE, takeAll]
        ((repeat' apply And.intro) <;> first | (exact Weak.go (by (first | (simp [wkL]; done) | (simp [wkL]; omega))) (fun zi => by first | exact .inl rfl | exact .inr rfl | (simp only [upd]; repeat' split) <;> first | exact .inl rfl | exact .inr rfl | (exfalso; omega) | exact .inr (hd _ (by omega)) | (left; subst_vars; exact hH.symm) | (left; subst_vars; rfl) | (left; simp; done) | (left; simp; omega)) (by omega)) | omega | rfl | assumption | exact Flat.nil | exact ⟨_, rfl, rfl, by assumption⟩ | (simp; done) | (simp; omega))
    · simp (maxSteps := 4000000) (disch := omega) only [go_sem, w64, AndB_of, IfB_of, IfB_no, pickE_of, pickE_no, ite_of, ite_no, tdivE, tmodE, takeAll]
      repeat' (first | (refine IfB.dec (fun h => ?_) (fun h => ?_) <;> (try (have h2 := h; unfold inR at h2)) <;> (try simp (maxSteps := 4000000) (disch := omega) only [go_sem, w64, AndB_of, IfB_of, IfB_no, pickE_of, pickE_no, ite_of, ite_no, tdivE, tmodE, takeAll, h])) | (refine IfB.split (fun h => ?_) (fun h => ?_) <;> (try simp (maxSteps := 4000000) (disch := omega) only [go_sem, w64, AndB_of, IfB_of, IfB_no, pickE_of, pickE_no, ite_of, ite_no, tdivE, tmodE, takeAll, h])) | (refine DrawB.quiet (by kernel_rfl) ?_; simp (maxSteps := 4000000) (disch := omega) only [go_sem, w64, AndB_of, IfB_of, IfB_no, pickE_of, pickE_no, ite_of, ite_no, tdivE, tmodE, takeAll]) | (apply CallB.q (q_alive); simp (maxSteps := 4000000) (disch := omega) only [go_sem, w64, AndB_of, IfB_of, IfB_no, pickE_of, pickE_no, ite_of, ite_no, tdivE, tmodE, takeAll]) | (apply DCallB.q0 (q_alive); simp (maxSteps := 4000000) (disch := omega) only [go_sem, w64, AndB_of, IfB_of, IfB_no, pickE_of, pickE_no, ite_of, ite_no, tdivE, tmodE, takeAll]))
  · have hpe := hlen0 hg
    rw [hpe]
    repeat' (first | (refine IfB.dec2 (fun h hd => ?_) (fun h hd => ?_) <;> (try (have h2 := h; unfold inR at h2)) <;> (try simp (maxSteps := 4000000) (disch := omega) only [go_sem, w64, AndB_of, IfB_of, IfB_no, pickE_of, pickE_no, ite_of, ite_no, tdivE, tmodE, takeAll, hd])) | (refine IfB.split (fun h => ?_) (fun h => ?_) <;> (try simp (maxSteps := 4000000) (disch := omega) only [go_sem, w64, AndB_of, IfB_of, IfB_no, pickE_of, pickE_no, ite_of, ite_no, tdivE, tmodE, takeAll, h])) | (refine DrawB.quiet (by kernel_rfl) ?_; simp (maxSteps := 4000000) (disch := omega) only [go_sem, w64, AndB_of, IfB_of, IfB_no, pickE_of, pickE_no, ite_of, ite_no, tdivE, tmodE, takeAll]) | (apply CallB.q (q_alive); simp (maxSteps := 4000000) (disch := omega) only [go_sem, w64, AndB_of, IfB_of, IfB_no, pickE_of, pickE_no, ite_of, ite_no, tdivE, tmodE, takeAll]) | (apply DCallB.q0 (q_alive); simp (maxSteps := 4000000) (disch := omega) only [go_sem, w64, AndB_of, IfB_of, IfB_no, pickE_of, pickE_no, ite_of, ite_no, tdivE, tmodE, takeAll]))
    all_goals first | omega | (exact absurd ⟨by assumption, by omega, by omega⟩ hg)
end Go.TH
