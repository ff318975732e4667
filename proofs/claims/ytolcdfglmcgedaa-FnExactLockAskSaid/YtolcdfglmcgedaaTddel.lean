/- TH: slices.Delete of one element, of three cells. Made by gen.py. -/
import Derived.Test.YtolcdfglmcgedaaTf3
import Derived.Test.YtolcdfglmcgedaaTdlk9
import Derived.Test.YtolcdfglmcgedaaTf4
import Derived.WalkKit
import Derived.Deep.RegionLaw
import Derived.OwnWalk
namespace Go.TH
open Go Go.Proofs Go.RowKit
set_option linter.unusedSimpArgs false
set_option linter.unusedVariables false
set_option maxHeartbeats 20000000
set_option maxRecDepth 100000
theorem infoAk : (Try.prog.info? 50).map (fun i => (i.zero, i.size, i.bytes)) = some (some (.agg #[.int .i64 0, .int .i64 0, .int .i64 0]), 3, 24) := by kernel_rfl
theorem w_DeleteAk (b n c i : Nat) (hi : i < n) (hn : n ≤ c) (w : World) (T : TypeId) (A B C D : List Value) (hb : w.heap[b]? = some (Obj.cells (A ++ B ++ C ++ D).toArray T (0, 0)))
    (hA : A.length = i * 3) (hB : B.length = 3) (hC : C.length = (n - (i + 1)) * 3) (h1 : ∀ u ∈ C, u.oneCell' = true) :
    Calls Try.prog 154 #[.slice (some ⟨b, 0, none⟩) n c, .int .i64 i, .int .i64 ((i : Int) + 1)] w fun e w' => e = .returned (.slice (some ⟨b, 0, none⟩) (n - 1) c) ∧
      w' = w.drew.setRow b (A ++ C ++ [Value.int .i64 0, Value.int .i64 0, Value.int .i64 0] ++ D).toArray := by
  obtain ⟨i0, hi0, hz0, hz1, hz2⟩ := info_parts infoAk
  have hbd : w.drew.heap[b]? = some (Obj.cells (A ++ B ++ C ++ D).toArray T (0, 0)) := hb
  obtain ⟨Ad, hAd, hsrc⟩ : ∃ Ad : Addr, (if c = i + 1 then some (⟨b, 0, none⟩ : Addr) else some ⟨b, (i + 1) * 3, none⟩) = some Ad ∧ Src Try.prog 3 34 (.slice (some Ad) (n - (i + 1)) (c - (i + 1))) (n - (i + 1)) C w.drew := by
    by_cases h : c = i + 1
    · have h0 : C = [] := List.eq_nil_of_length_eq_zero (by rw [hC]; have : n - (i + 1) = 0 := by omega
                                                            rw [this])
      refine ⟨⟨b, 0, none⟩, by simp [h], ?_⟩
      subst h0
      exact Src.ofSlice w.drew Try.underlying34 _ _ _ [] (by rw [List.length_nil, ← hC]; rfl) (fun t u hu => by simp at hu) (by simp)
    · refine ⟨⟨b, (i + 1) * 3, none⟩, by simp [h], Src.ofSlice w.drew Try.underlying34 _ _ _ C hC (fun t u hu => ?_) h1⟩
      have ht : t < C.length := (List.getElem?_eq_some_iff.1 hu).1
      rw [Addr.add_lit]
      simp only [World.cell?, hbd]
      have e : (i + 1) * 3 + t = (A ++ B).length + t := by rw [List.length_append, hA, hB]; omega
      simp only [List.getElem?_toArray]
      rw [e, List.append_assoc, List.append_assoc, ← List.append_assoc A B, List.getElem?_append_right (Nat.le_add_right _ _), Nat.add_sub_cancel_left, List.getElem?_append_left ht, hu]
      rfl
  obtain ⟨W1, hW1⟩ : ∃ W1, W1 = w.drew.setRow b ((A ++ B ++ C ++ D).toArray.toList.take (i * i0.size) ++ C ++ (A ++ B ++ C ++ D).toArray.toList.drop (i * i0.size + C.length)).toArray := ⟨_, rfl⟩
  have hl1 : A.length + C.length = (i + (n - (i + 1))) * 3 := by rw [hA, hC, ← Nat.add_mul]
  have hrow1 : ((A ++ B ++ C ++ D).toArray.toList.take (i * i0.size) ++ C ++ (A ++ B ++ C ++ D).toArray.toList.drop (i * i0.size + C.length)) = A ++ C ++ ((B ++ C ++ D).drop C.length) := by
    rw [hz1]
    show (A ++ B ++ C ++ D).take (i * 3) ++ C ++ (A ++ B ++ C ++ D).drop (i * 3 + C.length) = _
    have e : A ++ B ++ C ++ D = A ++ (B ++ C ++ D) := by simp only [List.append_assoc]
    rw [← hA, e, List.take_left, ← List.drop_drop, List.drop_left]
  have hW1' : W1 = w.drew.setRow b (A ++ C ++ ((B ++ C ++ D).drop C.length)).toArray := by rw [hW1, hrow1]
  have hb1 : W1.heap[b]? = some (Obj.cells (A ++ C ++ ((B ++ C ++ D).drop C.length)).toArray T (0, 0)) := by rw [hW1']; exact setRow_heap _ _ _ _ _ _ hbd
  have hcl : ∀ ty, (Builtin.clear_ #[34] ty #[.slice (some ⟨b, (i + (n - (i + 1))) * 3, none⟩) (n - (i + (n - (i + 1)))) (c - (i + (n - (i + 1))))]).run Try.prog W1 = .ok (.tuple #[]) (w.drew.setRow b (A ++ C ++ [Value.int .i64 0, Value.int .i64 0, Value.int .i64 0] ++ D).toArray) := by
    intro ty
    have hn1 : n - (i + (n - (i + 1))) = 1 := by omega
    rw [hn1]
    have hsz : (i + (n - (i + 1))) * 3 + 1 * 3 ≤ (A ++ C ++ ((B ++ C ++ D).drop C.length)).toArray.size := by
      simp only [List.size_toArray, List.length_append, List.length_drop]
      omega
    have hr := run_clear_row (P := Try.prog) (t := 34) Try.underlying34 hi0 hz0 (by decide) (by decide) ty W1 b ((i + (n - (i + 1))) * 3) 1 (c - (i + (n - (i + 1)))) (by omega) T _ hb1 hsz
    rw [hr, hW1', setRow_setRow]
    congr 3
    show (A ++ C ++ ((B ++ C ++ D).drop C.length)).take ((i + (n - (i + 1))) * 3) ++ [Value.int .i64 0, Value.int .i64 0, Value.int .i64 0] ++ (A ++ C ++ ((B ++ C ++ D).drop C.length)).drop ((i + (n - (i + 1))) * 3 + 3) = _
    rw [← hl1, ← List.length_append, List.take_left, ← List.drop_drop, List.drop_left, List.drop_drop]
    have : (B ++ C ++ D).drop (C.length + 3) = D := by
      rw [Nat.add_comm, ← hB, ← List.length_append, List.drop_left]
    rw [this]
  have hW : Hid (W1 = w.drew.setRow b ((A ++ B ++ C ++ D).toArray.toList.take (i * i0.size) ++ C ++ (A ++ B ++ C ++ D).toArray.toList.drop (i * i0.size + C.length)).toArray) := hW1
  have s1 : Hid (Src Try.prog i0.size 34 (.slice (some Ad) (n - (i + 1)) (c - (i + 1))) (n - (i + 1)) C w.drew) := by rw [hz1]; exact hsrc
  have s2 : Hid (i * i0.size + C.length ≤ (A ++ B ++ C ++ D).toArray.size) := by
    rw [hz1]
    show i * 3 + C.length ≤ (A ++ B ++ C ++ D).toArray.size
    simp only [List.size_toArray, List.length_append]
    omega
  have s3 : Hid (w.drew.heap[b]? = some (Obj.cells (A ++ B ++ C ++ D).toArray T (0, 0))) := hbd
  have hic : i ≤ c := by omega
  have hjc : i + 1 ≤ c := by omega
  have hp0 : (0 : Int) ≤ (i : Int) + 1 := by omega
  have hp1 : (i : Int) + 1 ≤ (n : Int) := by omega
  have hp2 : ((i : Int) + 1).toNat = i + 1 := by omega
  have hp3 : (i : Int) ≤ (i : Int) + 1 := by omega
  have hp4 : ¬ (i : Int) = (i : Int) + 1 := by omega
  have t0 := Try.underlying34
  clear hW1 hW1' hb1 hrow1 hl1 hbd hb hsrc h1 hA hB hC
  go_enter Try.func154, Try.ntmps154
  go_wp2_with fail
  go_region_law (refine step_app_row rfl (.tmp 22) (.tmp 25) 34 rfl 50 i0 t0 hi0 b i c T _ s3.out (by simp [Act.eval, Act.put]) _ (by simp [Act.eval, Act.put]) (n - (i + 1)) C s1.out (by omega) s2.out ?_; rw [← hW.out])
  go_wp2
  go_ret
  exact ⟨by rw [show i + (n - (i + 1)) = n - 1 by omega]; rfl, by simp only [List.append_assoc, List.cons_append, List.nil_append]⟩
theorem c_DeleteAk {H : AH} {nx id ver : Nat} (l : List GAk) (rest : List AV) (i : Nat) (hi : i < l.length) (hH : H id = .live ver (flat GAk.c l ++ rest)) :
    CallC Try.prog 154 [.msl id ver 3 0 l.length, .int .i64 i, .int .i64 ((i : Int) + 1)] H nx (.msl id ver 3 0 (l.length - 1)) (upd H id (.live ver (flat GAk.c (l.eraseIdx i) ++ ([.int .i64 0, .int .i64 0, .int .i64 0] ++ rest)))) nx := by
  refine ⟨⟨_, Try.func154, by decide, rfl⟩, fun base κ vs hinv hr => ?_⟩
  obtain ⟨v1, vs1, rfl, r1, hr1⟩ := hr.uncons
  obtain ⟨v2, vs2, rfl, r2, hr2⟩ := hr1.uncons
  obtain ⟨v3, vs3, rfl, r3, hr3⟩ := hr2.uncons
  obtain rfl : vs3 = [] := List.eq_nil_of_length_eq_zero hr3.1
  cases r2
  cases r3
  rcases hinv.msl_inv hH r1 with ⟨b, c, cs, T, fz, rfl, hm, hn, hb0, hcap⟩ | ⟨A, b0, rfl, hm, hn⟩
  · obtain ⟨hbb, hF, vs, tail, T', hb, h1, hrs⟩ := hinv.place hH hm
    rw [hb] at hb0
    cases hb0
    have hvl : vs.length = l.length * 3 + rest.length := by rw [hrs.1, List.length_append, flat_len GAk.len]
    obtain ⟨A, hA⟩ : ∃ A, A = vs.take (i * 3) := ⟨_, rfl⟩
    obtain ⟨B, hB⟩ : ∃ B, B = (vs.drop (i * 3)).take 3 := ⟨_, rfl⟩
    obtain ⟨C, hC⟩ : ∃ C, C = (vs.drop ((i + 1) * 3)).take ((l.length - (i + 1)) * 3) := ⟨_, rfl⟩
    obtain ⟨D, hD⟩ : ∃ D, D = vs.drop (l.length * 3) := ⟨_, rfl⟩
    have lA : A.length = i * 3 := by rw [hA, List.length_take]; omega
    have lB : B.length = 3 := by rw [hB, List.length_take, List.length_drop]; omega
    have lC : C.length = (l.length - (i + 1)) * 3 := by rw [hC, List.length_take, List.length_drop]; omega
    have hvs : vs = A ++ B ++ C ++ D := by
      have e3 : vs.drop ((i + 1) * 3) = C ++ D := by
        rw [hC, hD, show l.length * 3 = (i + 1) * 3 + (l.length - (i + 1)) * 3 by omega, ← List.drop_drop, List.take_append_drop]
      have e2 : vs.drop (i * 3) = B ++ (C ++ D) := by
        rw [hB, ← e3, show (i + 1) * 3 = i * 3 + 3 by omega, ← List.drop_drop, List.take_append_drop]
      rw [List.append_assoc, List.append_assoc, ← e2, hA, List.take_append_drop]
    have rA : Reps κ A (flat GAk.c (l.take i)) := by
      have := hrs.take (i * 3)
      rw [← hA, List.take_append_of_le_length (by rw [flat_len GAk.len]; omega), flat_take GAk.len] at this
      exact this
    have rC : Reps κ C (flat GAk.c (l.drop (i + 1))) := by
      have := (hrs.drop ((i + 1) * 3)).take ((l.length - (i + 1)) * 3)
      rw [← hC, List.drop_append_of_le_length (by rw [flat_len GAk.len]; omega), flat_drop GAk.len, List.take_left' (by rw [flat_len GAk.len, List.length_drop])] at this
      exact this
    have rD : Reps κ D rest := by
      have := hrs.drop (l.length * 3)
      rw [← hD, List.drop_left' (flat_len GAk.len l)] at this
      exact this
    have rZ : Reps κ [Value.int .i64 0, Value.int .i64 0, Value.int .i64 0] [.int .i64 0, .int .i64 0, .int .i64 0] := Reps.cons (.int _ _) (Reps.cons (.int _ _) (Reps.cons (.int _ _) (Reps.nil _)))
    have rAll : Reps κ.drew (A ++ C ++ [Value.int .i64 0, Value.int .i64 0, Value.int .i64 0] ++ D) (flat GAk.c (l.eraseIdx i) ++ ([.int .i64 0, .int .i64 0, .int .i64 0] ++ rest)) := by
      have := ((rA.append rC).append rZ).append rD
      rw [flat_erase hi, ← List.append_assoc]
      exact this.ev (.drew κ)
    have hone : ∀ u ∈ A ++ C ++ [Value.int .i64 0, Value.int .i64 0, Value.int .i64 0] ++ D, u.oneCell' = true := by
      intro u hu
      simp only [List.mem_append] at hu
      have hA1 : ∀ u, u ∈ A ∨ u ∈ C ∨ u ∈ D → u ∈ vs := fun u h => by rw [hvs]; simp only [List.mem_append]; rcases h with h | h | h <;> simp [h]
      rcases hu with ((hu | hu) | hu) | hu
      · exact h1 u (hA1 u (.inl hu))
      · exact h1 u (hA1 u (.inr (.inl hu)))
      · simp at hu; subst hu; rfl
      · exact h1 u (hA1 u (.inr (.inr hu)))
    have hb2 : κ.W.heap[b]? = some (Obj.cells (A ++ B ++ C ++ (D ++ tail)).toArray T (0, 0)) := by rw [hb, hvs]; simp only [List.append_assoc]
    have hlen : ((A ++ C ++ [Value.int .i64 0, Value.int .i64 0, Value.int .i64 0] ++ D) ++ tail).length = (vs ++ tail).toArray.size := by
      rw [hvs]
      simp only [List.size_toArray, List.length_append, lB, List.length_cons, List.length_nil]
      omega
    have hG := w_DeleteAk b l.length c i hi hn κ.W T A B C (D ++ tail) hb2 lA lB lC (fun u hu => h1 u (by rw [hvs]; simp [hu]))
    refine hG.mono ?_
    rintro e W' ⟨rfl, rfl⟩
    have hcd : κ.drew.W.heap[b]? = some (Obj.cells (vs ++ tail).toArray T (0, 0)) := hb
    have inv1 := hinv.drew.setRow hH (show κ.drew.M id = some ⟨ver, some b⟩ from hm) hcd hF _ tail hlen hone rAll
    refine ⟨_, κ.drew.setRow b ((A ++ C ++ [Value.int .i64 0, Value.int .i64 0, Value.int .i64 0] ++ D) ++ tail).toArray, rfl, ?_, ?_, (Ext.drew base κ).trans (setRow_ext hcd hF (by simpa using hlen) hbb), inv1⟩
    · show κ.W.drew.setRow b _ = _
      simp only [List.append_assoc]
    · refine .msl _ _ _ _ _ _ b _ T (0, 0) hm (by omega) (setRow_heap _ _ _ _ _ _ hcd) ?_
      have : ((A ++ C ++ [Value.int .i64 0, Value.int .i64 0, Value.int .i64 0] ++ D) ++ tail).toArray.size = (vs ++ tail).toArray.size := by simpa using hlen
      rw [this]
      exact hcap
  · omega
end Go.TH
