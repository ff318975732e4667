/- TH: draws, the reader: the walks. Made by gen.py. -/
import Derived.Test.YtipoefabimcbdaaDoorTf3
import Derived.Test.YtipoefabimcbdaaDoorTfw
namespace Go.TH
open Go Go.Proofs
set_option linter.unusedSimpArgs false
set_option linter.unusedVariables false
set_option maxHeartbeats 20000000
set_option maxRecDepth 100000
theorem getD_ints (l : List Int) (x : Nat) (h : x < l.length) : ∃ m ∈ l, (l.map (AV.int .i64)).getD x .junk = .int .i64 m :=
  ⟨l[x], List.getElem_mem h, by simp [List.getD, h]⟩
theorem upd_self (H : AH) (i : Nat) : upd H i (H i) = H := by funext j; simp only [upd]; split <;> simp_all
theorem xor64 {a b : Int} (ha0 : 0 ≤ a) (ha : a < 4611686018427387904) (hb0 : 0 ≤ b) (hb : b < 4611686018427387904) :
    ∃ x : Int, IntKind.i64.wrap ((BitVec.ofInt IntKind.i64.bits a ^^^ BitVec.ofInt IntKind.i64.bits b).toNat) = x ∧ 0 ≤ x ∧ x < 4611686018427387904 := by
  have e : ∀ c : Int, 0 ≤ c → c < 4611686018427387904 → (BitVec.ofInt IntKind.i64.bits c).toNat < 2 ^ 62 := by
    intro c h0 h
    have : (BitVec.ofInt 64 c).toNat < 2 ^ 62 := by
      rw [BitVec.toNat_ofInt]
      have : c % ((2 ^ 64 : Nat) : Int) = c := Int.emod_eq_of_lt h0 (by omega)
      rw [this]
      omega
    exact this
  have h := Nat.xor_lt_two_pow (e a ha0 ha) (e b hb0 hb)
  rw [← BitVec.toNat_xor] at h
  refine ⟨_, w64 ⟨by omega, by omega⟩, by omega, by omega⟩
theorem xor64p {a b : Int} (ha0 : 0 ≤ a) (ha : a < 4611686018427387904) (hb0 : 0 ≤ b) (hb : b < 4611686018427387904) :
    0 ≤ IntKind.i64.wrap ((BitVec.ofInt 64 a ^^^ BitVec.ofInt 64 b).toNat) := by
  obtain ⟨x, h, h1, _⟩ := xor64 ha0 ha hb0 hb
  have : IntKind.i64.wrap ((BitVec.ofInt 64 a ^^^ BitVec.ofInt 64 b).toNat) = x := h
  rw [this]
  exact h1
theorem d_pick {H : AH} {nx rid : Nat} {bs : ByteArray} {p n : Int} (hH : H rid = .live 0 [.sl bs.size false (bytesCells bs), .int .i64 (p)]) (hp0 : 0 ≤ p) (hp : p ≤ 1000000000) (hb : bs.size ≤ 2000) (hn0 : -1000000000 ≤ n) (hn : n ≤ 1000000000) :
    ACallD Tryd.prog 29 [.ptr rid 0 0, .int .i64 n] H nx (fun r H' nx' => ∃ x : Int, 0 ≤ x ∧ (1 ≤ n → x < n) ∧ r = .int .i64 x ∧ H' = upd H rid (.live 0 [.sl bs.size false (bytesCells bs), .int .i64 (p+1)]) ∧ nx' = nx) := by
  refine dcall_body mixed Tryd.func29 _ (by unfold Tryd.f29; rfl) Tryd.ntmps29 Tryd.results29 (by decide) (by simp) ?_
  have e0 : p + 1 - 1 = p := by omega
  simp (maxSteps := 4000000) (disch := omega) only [go_sem, w64, AndB_of, IfB_of, IfB_no, pickE_of, pickE_no, ite_of, ite_no, hH, e0]
  refine IfB.dec (fun h1 => ?_) (fun h1 => ?_)
  · simp (maxSteps := 4000000) (disch := omega) only [go_sem, w64, AndB_of, IfB_of, IfB_no, pickE_of, pickE_no, ite_of, ite_no, h1, e0]
    exact ⟨0, by omega, by omega, rfl⟩
  simp (maxSteps := 4000000) (disch := omega) only [go_sem, w64, AndB_of, IfB_of, IfB_no, pickE_of, pickE_no, ite_of, ite_no, h1, e0]
  refine IfB.dec (fun h2 => ?_) (fun h2 => ?_)
  · simp (maxSteps := 4000000) (disch := omega) only [go_sem, w64, AndB_of, IfB_of, IfB_no, pickE_of, pickE_no, ite_of, ite_no, h2, e0]
    exact ⟨0, by omega, by omega, rfl⟩
  have hs : (0 : Int) < bs.size := by omega
  have f1 := Int.tmod_lt_of_pos p hs
  have f2 := Int.tmod_nonneg (bs.size : Int) hp0
  have f3 := Int.tmod_lt_of_pos (p * 7 + 3) hs
  have f4 := Int.tmod_nonneg (bs.size : Int) (show 0 ≤ p * 7 + 3 by omega)
  have f5 := Int.tdiv_nonneg hp0 (Int.le_of_lt hs)
  have f6 := Int.tdiv_le_self (bs.size : Int) hp0
  have g1 := fun x => Int.tmod_lt_of_pos x (show 0 < n by omega)
  simp (maxSteps := 4000000) (disch := omega) only [go_sem, w64, AndB_of, IfB_of, IfB_no, pickE_of, pickE_no, ite_of, ite_no, h2, e0]
  refine IfB.dec (fun h3 => ?_) (fun h3 => ?_)
  · have b1 : bAt bs p.toNat < 256 := bAt_lt
    simp (maxSteps := 4000000) (disch := omega) only [go_sem, w64, AndB_of, IfB_of, IfB_no, pickE_of, pickE_no, ite_of, ite_no, h3, e0]
    refine ⟨_, ?_, fun _ => g1 _, rfl⟩
    exact Int.tmod_nonneg _ (by omega)
  · have b1 : bAt bs (p.tmod bs.size).toNat < 256 := bAt_lt
    have b2 : bAt bs ((p * 7 + 3).tmod bs.size).toNat < 256 := bAt_lt
    simp (maxSteps := 4000000) (disch := omega) only [go_sem, w64, AndB_of, IfB_of, IfB_no, pickE_of, pickE_no, ite_of, ite_no, h3, e0]
    refine DrawB.quiet (by kernel_rfl) ?_
    simp (maxSteps := 4000000) (disch := omega) only [go_sem, w64, AndB_of, IfB_of, IfB_no, pickE_of, pickE_no, ite_of, ite_no, h3, e0]
    have key : ∀ A : Int, 0 ≤ A → A < 4611686018427387904 → 0 ≤ IntKind.i64.wrap ((BitVec.ofInt 64 A ^^^ BitVec.ofInt 64 (IntKind.i64.wrap (A.tdiv 64))).toNat) := fun A h0 h => by
      have h1 := Int.tdiv_nonneg h0 (show (0 : Int) ≤ 64 by omega)
      have h2 := Int.tdiv_le_self 64 h0
      rw [w64 (x := A.tdiv 64) ⟨by omega, by omega⟩]
      exact xor64p h0 h h1 (Int.lt_of_le_of_lt h2 h)
    refine ⟨_, ?_, ?_, rfl⟩
    · refine Int.tmod_nonneg _ ?_
      apply key <;> omega
    · exact fun _ => g1 _
theorem d_odd {H : AH} {nx rid : Nat} {bs : ByteArray} {p n : Int} (hH : H rid = .live 0 [.sl bs.size false (bytesCells bs), .int .i64 (p)]) (hp0 : 0 ≤ p) (hp : p ≤ 1000000000) (hb : bs.size ≤ 2000) (hn0 : -1000000000 ≤ n) (hn : n ≤ 1000000000) :
    ACallD Tryd.prog 30 [.ptr rid 0 0, .int .i64 n] H nx (fun r H' nx' => ∃ (x : Bool) (q : Int), p ≤ q ∧ q ≤ p + 1 ∧ r = .bool x ∧ H' = upd H rid (.live 0 [.sl bs.size false (bytesCells bs), .int .i64 (q)]) ∧ nx' = nx) := by
  refine dcall_body mixed Tryd.func30 _ (by unfold Tryd.f30; rfl) Tryd.ntmps30 Tryd.results30 (by decide) (by simp) ?_
  simp (maxSteps := 4000000) (disch := omega) only [go_sem, w64, AndB_of, IfB_of, IfB_no, pickE_of, pickE_no, ite_of, ite_no, tdivE, tmodE, takeAll, hH]
  repeat' (first | (refine IfB.dec (fun h => ?_) (fun h => ?_) <;> (try (have h2 := h; unfold inR at h2)) <;> (try simp (maxSteps := 4000000) (disch := omega) only [go_sem, w64, AndB_of, IfB_of, IfB_no, pickE_of, pickE_no, ite_of, ite_no, tdivE, tmodE, takeAll, h])) | (refine IfB.split (fun h => ?_) (fun h => ?_) <;> (try simp (maxSteps := 4000000) (disch := omega) only [go_sem, w64, AndB_of, IfB_of, IfB_no, pickE_of, pickE_no, ite_of, ite_no, tdivE, tmodE, takeAll, h])) | (apply CallB.law; (focus (apply d_pick; (repeat (first | exact hH | exact upd_same _ _ _ | rw [upd_ne _ _ (by omega)])); all_goals omega)); rintro _ _ _ ⟨x, hx0, hx1, rfl, rfl, rfl⟩; simp (maxSteps := 4000000) (disch := omega) only [go_sem, w64, AndB_of, IfB_of, IfB_no, pickE_of, pickE_no, ite_of, ite_no, tdivE, tmodE, takeAll]))
  · exact ⟨_, _, by omega, by omega, rfl, rfl⟩
  · refine ⟨_, p, by omega, by omega, rfl, ?_⟩
    rw [← hH]
    exact (upd_self H rid).symm
end Go.TH
