/- TH: drawn expressions. Made by gen.py. -/
import Derived.Test.YtfnflalnjigfkaaTf3
import Derived.Test.YtfnflalnjigfkaaTed3
import Derived.Test.YtfnflalnjigfkaaTf4
namespace Go.TH
open Go Go.Proofs
set_option linter.unusedSimpArgs false
set_option linter.unusedVariables false
set_option maxHeartbeats 20000000
set_option maxRecDepth 100000
def PP (p : GPt) : Prop := p.v.s.size ≤ 20
theorem GPt.snocE (l : List GPt) (k n vk vn : Int) (s : ByteArray) : flat GPt.c l ++ [.int .i64 k, .int .i64 n, .int .i64 vk, .int .i64 vn, .str s] = flat GPt.c (l ++ [⟨k, n, ⟨vk, vn, s⟩⟩]) := by rw [flat_append]; rfl
theorem GPt.appE (a b : List GPt) : flat GPt.c a ++ flat GPt.c b = flat GPt.c (a ++ b) := by rw [flat_append]
theorem GPt.takeE (l : List GPt) (x : GPt) : List.take ((l.length + 1) * 5) (flat GPt.c (l ++ [x])) = flat GPt.c (l ++ [x]) := List.take_of_length_le (by rw [flat_len GPt.len, List.length_append]; exact Nat.le_refl _)
theorem GPt.takeF (a b : List GPt) : List.take ((a.length + b.length) * 5) (flat GPt.c (a ++ b)) = flat GPt.c (a ++ b) := List.take_of_length_le (by rw [flat_len GPt.len, List.length_append]; exact Nat.le_refl _)
theorem d_leaf {H : AH} {nx rid : Nat} {bs : ByteArray} {p : Int} (kind : Int) (cols : List GCol) (hr : rid < nx) (hH : H rid = .live 0 [.sl bs.size false (bytesCells bs), .int .i64 (p)]) (hd : ∀ i, nx ≤ i → H i = .dead) (hp0 : 0 ≤ p) (hp : p ≤ 800000000) (hb : bs.size ≤ 2000) (hc : cols.length ≤ 10) :
    ACallD Try.prog 174 [.ptr rid 0 0, colsA cols, .int .i64 kind] H nx (fun r H' nx' => ∃ (x : GPt) (q : Int), p ≤ q ∧ q ≤ p + 20 ∧ PP x ∧ r = .agg (GPt.c x) ∧ H' = upd H rid (.live 0 [.sl bs.size false (bytesCells bs), .int .i64 (q)]) ∧ nx' = nx) := by
  refine ACallD.finR 1 rid hr ?_
  refine dcall_body mixed Try.func174 _ (by unfold Try.f174; rfl) Try.ntmps174 Try.results174 (by decide) (by simp) ?_
  unfold colsA
  simp (maxSteps := 4000000) (disch := omega) only [go_sem, w64, AndB_of, IfB_of, IfB_no, pickE_of, pickE_no, ite_of, ite_no, tdivE, tmodE, takeAll]
  refine LoopB.auto (fun zs => ((intOf (slotOf zs 7)).toNat, intOf (nthA (cellsOf (blkOf zs (rid))) 1))) (fun zz => [(0, none), (0, none), (0, none), (3, none), (0, some (.int .i64 (zz.1 : Int)))]) (fun zz => upd (upd H nx (.live 0 [.int .i64 0, .int .i64 0, .int .i64 0, .int .i64 0, .str ⟨#[]⟩])) rid (.live 0 [.sl bs.size false (bytesCells bs), .int .i64 (zz.2)])) (fun zz => nx + 1) (fun zz => 4 - zz.1) (fun zz => zz.1 ≤ 4 ∧ p ≤ zz.2 ∧ zz.2 ≤ p + 2 * zz.1) (by (first | simp (maxSteps := 4000000) (disch := omega) only [go_sem, w64, AndB_of, IfB_of, IfB_no, pickE_of, pickE_no, ite_of, ite_no, tdivE, tmodE, takeAll, hH] | simp (maxSteps := 4000000) (disch := omega) only [go_sem, w64, AndB_of, IfB_of, IfB_no, pickE_of, pickE_no, ite_of, ite_no, tdivE, tmodE, takeAll]); ((repeat' apply And.intro) <;> first | (exact Weak.go (by (first | (simp [wkL]; done) | (simp [wkL]; omega))) (fun zi => by first | exact .inl rfl | exact .inr rfl | (simp only [upd]; repeat' split) <;> first | exact .inl rfl | exact .inr rfl | (exfalso; omega) | exact .inr (hd _ (by omega)) | (left; subst_vars; exact hH.symm) | (left; subst_vars; rfl) | (left; simp; done) | (left; simp; omega)) (by omega)) | omega | rfl | assumption | exact Flat.nil | exact ⟨_, rfl, rfl, by assumption⟩ | (simp; done) | (simp; omega))) ?_
  intro zz zh
  obtain ⟨k, q⟩ := zz
  dsimp only at zh
  obtain ⟨hk, hq1, hq2⟩ := zh
  simp (maxSteps := 4000000) (disch := omega) only [go_sem, w64, AndB_of, IfB_of, IfB_no, pickE_of, pickE_no, ite_of, ite_no, tdivE, tmodE, takeAll]
  have lastp : ∀ v : GVal, v.s.size ≤ 2 → PP ⟨1, 0, v⟩ := fun v hv => by unfold PP; show v.s.size ≤ 20; omega
  have colp : ∀ x : Int, PP ⟨2, x, zV⟩ := fun x => by unfold PP; show (⟨#[]⟩ : ByteArray).size ≤ 20; decide
  refine IfB.dec (fun c1 => ?_) (fun c1 => ?_)
  · simp (maxSteps := 4000000) (disch := omega) only [go_sem, w64, AndB_of, IfB_of, IfB_no, pickE_of, pickE_no, ite_of, ite_no, tdivE, tmodE, takeAll]
    refine IfB.dec (fun c2 => ?_) (fun c2 => ?_)
    · simp (maxSteps := 4000000) (disch := omega) only [go_sem, w64, AndB_of, IfB_of, IfB_no, pickE_of, pickE_no, ite_of, ite_no, tdivE, tmodE, takeAll]
      apply CallB.law; (focus (apply d_pick; (repeat (first | exact hH | exact upd_same _ _ _ | rw [upd_ne _ _ (by omega)])); all_goals omega)); rintro _ _ _ ⟨x, hx0, hx1, rfl, rfl, rfl⟩
      have hx : x.toNat < cols.length := by omega
      simp (maxSteps := 4000000) (disch := omega) only [go_sem, w64, AndB_of, IfB_of, IfB_no, pickE_of, pickE_no, ite_of, ite_no, tdivE, tmodE, takeAll]
      refine IfB.dec (fun c3 => ?_) (fun c3 => ?_)
      · simp (maxSteps := 4000000) (disch := omega) only [go_sem, w64, AndB_of, IfB_of, IfB_no, pickE_of, pickE_no, ite_of, ite_no, tdivE, tmodE, takeAll]
        refine CallB.law (d_pick (p := q + 1) (by repeat (first | exact upd_same _ _ _ | rw [upd_ne _ _ (by omega)])) (by omega) (by omega) hb (by omega) (by omega)) ?_
        rintro _ _ _ ⟨y, hy0, hy1, rfl, rfl, rfl⟩
        simp (maxSteps := 4000000) (disch := omega) only [go_sem, w64, AndB_of, IfB_of, IfB_no, pickE_of, pickE_no, ite_of, ite_no, tdivE, tmodE, takeAll]
        refine IfB.dec (fun c4 => ?_) (fun c4 => ?_)
        · simp (maxSteps := 4000000) (disch := omega) only [go_sem, w64, AndB_of, IfB_of, IfB_no, pickE_of, pickE_no, ite_of, ite_no, tdivE, tmodE, takeAll]
          refine ⟨_, _, (by repeat (first | exact OldR.base hH | refine OldR.set ?_ | refine OldR.new (by omega) ?_ | exact OldW.refl | refine OldW.new (by omega) ?_ | refine OldW.rd ?_)), (by simp [pureL, pureA, bytesCells_pure]), ?_⟩
          exact ⟨⟨2, x, zV⟩, q + 1 + 1, by omega, by omega, colp x, rfl, rfl⟩
        · simp (maxSteps := 4000000) (disch := omega) only [go_sem, w64, AndB_of, IfB_of, IfB_no, pickE_of, pickE_no, ite_of, ite_no, tdivE, tmodE, takeAll]
          ((repeat' apply And.intro) <;> first | (exact Weak.go (by (first | (simp [wkL]; done) | (simp [wkL]; omega))) (fun zi => by first | exact .inl rfl | exact .inr rfl | (simp only [upd]; repeat' split) <;> first | exact .inl rfl | exact .inr rfl | (exfalso; omega) | exact .inr (hd _ (by omega)) | (left; subst_vars; exact hH.symm) | (left; subst_vars; rfl) | (left; simp; done) | (left; simp; omega)) (by omega)) | omega | rfl | assumption | exact Flat.nil | exact ⟨_, rfl, rfl, by assumption⟩ | (simp; done) | (simp; omega))
      · simp (maxSteps := 4000000) (disch := omega) only [go_sem, w64, AndB_of, IfB_of, IfB_no, pickE_of, pickE_no, ite_of, ite_no, tdivE, tmodE, takeAll]
        ((repeat' apply And.intro) <;> first | (exact Weak.go (by (first | (simp [wkL]; done) | (simp [wkL]; omega))) (fun zi => by first | exact .inl rfl | exact .inr rfl | (simp only [upd]; repeat' split) <;> first | exact .inl rfl | exact .inr rfl | (exfalso; omega) | exact .inr (hd _ (by omega)) | (left; subst_vars; exact hH.symm) | (left; subst_vars; rfl) | (left; simp; done) | (left; simp; omega)) (by omega)) | omega | rfl | assumption | exact Flat.nil | exact ⟨_, rfl, rfl, by assumption⟩ | (simp; done) | (simp; omega))
    · simp (maxSteps := 4000000) (disch := omega) only [go_sem, w64, AndB_of, IfB_of, IfB_no, pickE_of, pickE_no, ite_of, ite_no, tdivE, tmodE, takeAll]
      refine CallB.law (d_like (p := q) ⟨kind, false⟩ (by omega) (by repeat (first | exact upd_same _ _ _ | rw [upd_ne _ _ (by omega)])) (fun i hi => by repeat (first | exact hd i (by omega) | rw [upd_ne _ _ (by omega)])) (by omega) (by omega) hb) ?_
      rintro _ _ _ ⟨v, q2, hv1, hv2, hv3, hv4, hv5, rfl, rfl, rfl⟩
      simp (maxSteps := 4000000) (disch := omega) only [go_sem, w64, AndB_of, IfB_of, IfB_no, pickE_of, pickE_no, ite_of, ite_no, tdivE, tmodE, takeAll]
      refine ⟨_, _, (by repeat (first | exact OldR.base hH | refine OldR.set ?_ | refine OldR.new (by omega) ?_ | exact OldW.refl | refine OldW.new (by omega) ?_ | refine OldW.rd ?_)), (by simp [pureL, pureA, bytesCells_pure]), ?_⟩
      exact ⟨⟨1, 0, v⟩, q2, by omega, by omega, lastp v hv4, rfl, rfl⟩
  · simp (maxSteps := 4000000) (disch := omega) only [go_sem, w64, AndB_of, IfB_of, IfB_no, pickE_of, pickE_no, ite_of, ite_no, tdivE, tmodE, takeAll]
    refine CallB.law (d_like (p := q) ⟨kind, false⟩ (by omega) (by repeat (first | exact upd_same _ _ _ | rw [upd_ne _ _ (by omega)])) (fun i hi => by repeat (first | exact hd i (by omega) | rw [upd_ne _ _ (by omega)])) (by omega) (by omega) hb) ?_
    rintro _ _ _ ⟨v, q2, hv1, hv2, hv3, hv4, hv5, rfl, rfl, rfl⟩
    simp (maxSteps := 4000000) (disch := omega) only [go_sem, w64, AndB_of, IfB_of, IfB_no, pickE_of, pickE_no, ite_of, ite_no, tdivE, tmodE, takeAll]
    refine ⟨_, _, (by repeat (first | exact OldR.base hH | refine OldR.set ?_ | refine OldR.new (by omega) ?_ | exact OldW.refl | refine OldW.new (by omega) ?_ | refine OldW.rd ?_)), (by simp [pureL, pureA, bytesCells_pure]), ?_⟩
    exact ⟨⟨1, 0, v⟩, q2, by omega, by omega, lastp v hv4, rfl, rfl⟩
def ExprD (deep : Int) (M : Nat) (B : Int) : Prop := ∀ {H : AH} {nx rid : Nat} {bs : ByteArray} {p : Int} (kind : Int) (cols : List GCol) (hr : rid < nx) (hH : H rid = .live 0 [.sl bs.size false (bytesCells bs), .int .i64 (p)]) (hd : ∀ i, nx ≤ i → H i = .dead) (hp0 : 0 ≤ p) (hp : p + B ≤ 700000000) (hb : bs.size ≤ 2000) (hc : cols.length ≤ 10),
    ACallD Try.prog 170 [.ptr rid 0 0, colsA cols, .int .i64 kind, .int .i64 deep] H nx (fun r H' nx' => ∃ (l : List GPt) (q : Int), p ≤ q ∧ q ≤ p + B ∧ 1 ≤ l.length ∧ l.length ≤ M ∧ (∀ x ∈ l, PP x) ∧ r = .msl nx 0 5 0 l.length ∧ H' = upd (upd H rid (.live 0 [.sl bs.size false (bytesCells bs), .int .i64 (q)])) nx (.live 0 (flat GPt.c l)) ∧ nx' = nx + 1)
theorem d_expr0 (deep : Int) (h : deep < 1) : ExprD deep 1 20 := by
  intro H nx rid bs p kind cols hr hH hd hp0 hp hb hc
  refine ACallD.finR1 1 rid hr ?_
  refine dcall_body mixed Try.func170 _ (by unfold Try.f170; rfl) Try.ntmps170 Try.results170 (by decide) (by simp) ?_
  simp (maxSteps := 4000000) (disch := omega) only [go_sem, w64, AndB_of, IfB_of, IfB_no, pickE_of, pickE_no, ite_of, ite_no, tdivE, tmodE, takeAll]
  refine CallB.law (d_leaf (p := p) kind cols hr hH hd hp0 (by omega) hb hc) ?_
  rintro _ _ nx ⟨x, q, hq1, hq2, hx, rfl, rfl, rfl⟩
  unfold GPt.c
  simp (maxSteps := 4000000) (disch := omega) only [go_sem, w64, AndB_of, IfB_of, IfB_no, pickE_of, pickE_no, ite_of, ite_no, tdivE, tmodE, takeAll]
  refine ⟨_, _, nx, 0, _, (by repeat (first | exact OldR.base hH | refine OldR.set ?_ | refine OldR.new (by omega) ?_ | exact OldW.refl | refine OldW.new (by omega) ?_ | refine OldW.rd ?_)), (by simp [pureL, pureA, bytesCells_pure]), Nat.le_refl _, (by rw [if_pos rfl]), ?_⟩
  simp (maxSteps := 4000000) (disch := omega) only [go_sem, w64, AndB_of, IfB_of, IfB_no, pickE_of, pickE_no, ite_of, ite_no, tdivE, tmodE, takeAll]
  exact ⟨[x], q, by omega, by omega, by simp, by simp, by simpa using hx, rfl, rfl⟩
theorem d_exprS (deep : Int) (M : Nat) (B : Int) (hdp : 1 ≤ deep) (hdq : deep ≤ 10) (hM : 1 ≤ M) (hM2 : M ≤ 1000) (hB0 : 20 ≤ B) (hB1 : B ≤ 1000000) (h1 : ExprD (deep - 1) M B) (h2 : ExprD (deep - 2) M B) : ExprD deep (2 * M + 2) (2 * B + 100) := by
  intro H nx rid bs p kind cols hr hH hd hp0 hp hb hc
  refine ACallD.finR1 1 rid hr ?_
  refine dcall_body mixed Try.func170 _ (by unfold Try.f170; rfl) Try.ntmps170 Try.results170 (by decide) (by simp) ?_
  simp (maxSteps := 4000000) (disch := omega) only [go_sem, w64, AndB_of, IfB_of, IfB_no, pickE_of, pickE_no, ite_of, ite_no, tdivE, tmodE, takeAll]
  refine CallB.law (d_pick (p := p) hH hp0 (by omega) hb (by omega) (by omega)) ?_
  rintro _ _ nx ⟨x0, hx0, hx1, rfl, rfl, rfl⟩
  simp (maxSteps := 4000000) (disch := omega) only [go_sem, w64, AndB_of, IfB_of, IfB_no, pickE_of, pickE_no, ite_of, ite_no, tdivE, tmodE, takeAll]
  refine IfB.dec (fun c0 => ?_) (fun c0 => ?_)
  · simp (maxSteps := 4000000) (disch := omega) only [go_sem, w64, AndB_of, IfB_of, IfB_no, pickE_of, pickE_no, ite_of, ite_no, tdivE, tmodE, takeAll]
    refine CallB.law (d_leaf (p := p + 1) kind cols hr (upd_same _ _ _) (fun i hi => by rw [upd_ne _ _ (by omega)]; exact hd i hi) (by omega) (by omega) hb hc) ?_
    rintro _ _ nx ⟨x, q, hq1, hq2, hx, rfl, rfl, rfl⟩
    unfold GPt.c
    simp (maxSteps := 4000000) (disch := omega) only [go_sem, w64, AndB_of, IfB_of, IfB_no, pickE_of, pickE_no, ite_of, ite_no, tdivE, tmodE, takeAll]
    refine ⟨_, _, nx, 0, _, (by repeat (first | exact OldR.base hH | refine OldR.set ?_ | refine OldR.new (by omega) ?_ | exact OldW.refl | refine OldW.new (by omega) ?_ | refine OldW.rd ?_)), (by simp [pureL, pureA, bytesCells_pure]), Nat.le_refl _, (by first | rw [if_pos rfl] | exact upd_same _ _ _), ?_⟩
    simp (maxSteps := 4000000) (disch := omega) only [go_sem, w64, AndB_of, IfB_of, IfB_no, pickE_of, pickE_no, ite_of, ite_no, tdivE, tmodE, takeAll]
    exact ⟨[x], q, by omega, by omega, by simp, by simp, by simpa using hx, rfl, rfl⟩
  simp (maxSteps := 4000000) (disch := omega) only [go_sem, w64, AndB_of, IfB_of, IfB_no, pickE_of, pickE_no, ite_of, ite_no, tdivE, tmodE, takeAll]
  have cp : ∀ k n : Int, PP ⟨k, n, zV⟩ := fun k n => by unfold PP; show (⟨#[]⟩ : ByteArray).size ≤ 20; decide
  have mm : ∀ (a b : List GPt), (∀ x ∈ a, PP x) → (∀ x ∈ b, PP x) → ∀ x ∈ a ++ b, PP x := fun a b ha hb x hx => (List.mem_append.1 hx).elim (ha x) (hb x)
  have m1 : ∀ y : GPt, PP y → ∀ x ∈ [y], PP x := fun y hy x hx => by simp at hx; subst hx; exact hy
  refine IfB.dec (fun c1 => ?_) (fun c1 => ?_)
  · simp (maxSteps := 4000000) (disch := omega) only [go_sem, w64, AndB_of, IfB_of, IfB_no, pickE_of, pickE_no, ite_of, ite_no, tdivE, tmodE, takeAll]
    refine CallB.law (h1 (p := p + 1) kind cols (by omega) (by repeat (first | exact upd_same _ _ _ | rw [upd_ne _ _ (by omega)])) (fun i hi => by repeat (first | exact hd i (by omega) | rw [upd_ne _ _ (by omega)])) (by omega) (by omega) hb hc) ?_
    rintro _ _ _ ⟨l, q, hq1, hq2, hl1, hl2, hPl, rfl, rfl, rfl⟩
    simp (maxSteps := 4000000) (disch := omega) only [go_sem, w64, AndB_of, IfB_of, IfB_no, pickE_of, pickE_no, ite_of, ite_no, tdivE, tmodE, takeAll, GPt.snocE, GPt.appE, GPt.takeE, GPt.takeF, List.length_append, List.length_cons, List.length_nil]
    refine CallB.law (d_leaf (p := q) kind cols (by omega) (by repeat (first | exact upd_same _ _ _ | rw [upd_ne _ _ (by omega)])) (fun i hi => by repeat (first | exact hd i (by omega) | rw [upd_ne _ _ (by omega)])) (by omega) (by omega) hb hc) ?_
    rintro _ _ _ ⟨x, q2, hq21, hq22, hPx, rfl, rfl, rfl⟩
    simp only [GPt.c]
    simp (maxSteps := 4000000) (disch := omega) only [go_sem, w64, AndB_of, IfB_of, IfB_no, pickE_of, pickE_no, ite_of, ite_no, tdivE, tmodE, takeAll, GPt.snocE, GPt.appE, GPt.takeE, GPt.takeF, List.length_append, List.length_cons, List.length_nil]
    refine ⟨_, _, nx, 2, _, (by repeat (first | exact OldR.base hH | refine OldR.set ?_ | refine OldR.new (by omega) ?_ | exact OldW.refl | refine OldW.new (by omega) ?_ | refine OldW.rd ?_)), (by simp [pureL, pureA, bytesCells_pure]), Nat.le_refl _, (by rw [if_pos rfl]), ?_⟩
    simp (maxSteps := 4000000) (disch := omega) only [go_sem, w64, AndB_of, IfB_of, IfB_no, pickE_of, pickE_no, ite_of, ite_no, tdivE, tmodE, takeAll, GPt.snocE, GPt.appE, GPt.takeE, GPt.takeF, List.length_append, List.length_cons, List.length_nil]
    exact ⟨l ++ [x] ++ [⟨3, 0, zV⟩], q2, by omega, by omega, by simp [List.length_append] <;> omega, by simp only [List.length_append, List.length_cons, List.length_nil]; omega, mm _ _ (mm _ _ hPl (m1 _ hPx)) (m1 _ (cp _ _)), by simp only [List.length_append, List.length_cons, List.length_nil], rfl⟩
  simp (maxSteps := 4000000) (disch := omega) only [go_sem, w64, AndB_of, IfB_of, IfB_no, pickE_of, pickE_no, ite_of, ite_no, tdivE, tmodE, takeAll]
  refine IfB.dec (fun c2 => ?_) (fun c2 => ?_)
  · simp (maxSteps := 4000000) (disch := omega) only [go_sem, w64, AndB_of, IfB_of, IfB_no, pickE_of, pickE_no, ite_of, ite_no, tdivE, tmodE, takeAll]
    refine CallB.law (d_leaf (p := p + 1) kind cols (by omega) (by repeat (first | exact upd_same _ _ _ | rw [upd_ne _ _ (by omega)])) (fun i hi => by repeat (first | exact hd i (by omega) | rw [upd_ne _ _ (by omega)])) (by omega) (by omega) hb hc) ?_
    rintro _ _ nx ⟨x, q, hq1, hq2, hPx, rfl, rfl, rfl⟩
    simp only [GPt.c]
    simp (maxSteps := 4000000) (disch := omega) only [go_sem, w64, AndB_of, IfB_of, IfB_no, pickE_of, pickE_no, ite_of, ite_no, tdivE, tmodE, takeAll, GPt.snocE, GPt.appE, GPt.takeE, GPt.takeF, List.length_append, List.length_cons, List.length_nil]
    refine ⟨_, _, nx, 0, _, (by repeat (first | exact OldR.base hH | refine OldR.set ?_ | refine OldR.new (by omega) ?_ | exact OldW.refl | refine OldW.new (by omega) ?_ | refine OldW.rd ?_)), (by simp [pureL, pureA, bytesCells_pure]), Nat.le_refl _, (by rw [if_pos rfl]), ?_⟩
    simp (maxSteps := 4000000) (disch := omega) only [go_sem, w64, AndB_of, IfB_of, IfB_no, pickE_of, pickE_no, ite_of, ite_no, tdivE, tmodE, takeAll, GPt.snocE, GPt.appE, GPt.takeE, GPt.takeF, List.length_append, List.length_cons, List.length_nil]
    exact ⟨[x], q, by omega, by omega, by simp [List.length_append] <;> omega, by simp only [List.length_append, List.length_cons, List.length_nil]; omega, m1 _ hPx, by simp only [List.length_append, List.length_cons, List.length_nil], rfl⟩
  simp (maxSteps := 4000000) (disch := omega) only [go_sem, w64, AndB_of, IfB_of, IfB_no, pickE_of, pickE_no, ite_of, ite_no, tdivE, tmodE, takeAll]
  refine CallB.law (d_pick (p := p + 1) (by repeat (first | exact upd_same _ _ _ | rw [upd_ne _ _ (by omega)])) (by omega) (by omega) hb (by omega) (by omega)) ?_
  rintro _ _ nx ⟨y, hy0, hy1, rfl, rfl, rfl⟩
  simp (maxSteps := 4000000) (disch := omega) only [go_sem, w64, AndB_of, IfB_of, IfB_no, pickE_of, pickE_no, ite_of, ite_no, tdivE, tmodE, takeAll, GPt.snocE, GPt.appE, GPt.takeE, GPt.takeF, List.length_append, List.length_cons, List.length_nil]
  refine IfB.dec (fun c3 => ?_) (fun c3 => ?_)
  · simp (maxSteps := 4000000) (disch := omega) only [go_sem, w64, AndB_of, IfB_of, IfB_no, pickE_of, pickE_no, ite_of, ite_no, tdivE, tmodE, takeAll]
    refine CallB.law (h1 (p := p + 1 + 1) 3 cols (by omega) (by repeat (first | exact upd_same _ _ _ | rw [upd_ne _ _ (by omega)])) (fun i hi => by repeat (first | exact hd i (by omega) | rw [upd_ne _ _ (by omega)])) (by omega) (by omega) hb hc) ?_
    rintro _ _ _ ⟨l, q, hq1, hq2, hl1, hl2, hPl, rfl, rfl, rfl⟩
    simp (maxSteps := 4000000) (disch := omega) only [go_sem, w64, AndB_of, IfB_of, IfB_no, pickE_of, pickE_no, ite_of, ite_no, tdivE, tmodE, takeAll, GPt.snocE, GPt.appE, GPt.takeE, GPt.takeF, List.length_append, List.length_cons, List.length_nil]
    refine CallB.law (h2 (p := q) 3 cols (by omega) (by repeat (first | exact upd_same _ _ _ | rw [upd_ne _ _ (by omega)])) (fun i hi => by repeat (first | exact hd i (by omega) | rw [upd_ne _ _ (by omega)])) (by omega) (by omega) hb hc) ?_
    rintro _ _ _ ⟨l2, q2, hq21, hq22, hl21, hl22, hPl2, rfl, rfl, rfl⟩
    simp (maxSteps := 4000000) (disch := omega) only [go_sem, w64, AndB_of, IfB_of, IfB_no, pickE_of, pickE_no, ite_of, ite_no, tdivE, tmodE, takeAll, GPt.snocE, GPt.appE, GPt.takeE, GPt.takeF, List.length_append, List.length_cons, List.length_nil]
    refine CallB.law (d_pick (p := q2) (by repeat (first | exact upd_same _ _ _ | rw [upd_ne _ _ (by omega)])) (by omega) (by omega) hb (by omega) (by omega)) ?_
    rintro _ _ _ ⟨z, hz0, hz1, rfl, rfl, rfl⟩
    simp (maxSteps := 4000000) (disch := omega) only [go_sem, w64, AndB_of, IfB_of, IfB_no, pickE_of, pickE_no, ite_of, ite_no, tdivE, tmodE, takeAll, GPt.snocE, GPt.appE, GPt.takeE, GPt.takeF, List.length_append, List.length_cons, List.length_nil]
    refine ⟨_, _, nx, 2, _, (by repeat (first | exact OldR.base hH | refine OldR.set ?_ | refine OldR.new (by omega) ?_ | exact OldW.refl | refine OldW.new (by omega) ?_ | refine OldW.rd ?_)), (by simp [pureL, pureA, bytesCells_pure]), Nat.le_refl _, (by rw [if_pos rfl]), ?_⟩
    simp (maxSteps := 4000000) (disch := omega) only [go_sem, w64, AndB_of, IfB_of, IfB_no, pickE_of, pickE_no, ite_of, ite_no, tdivE, tmodE, takeAll, GPt.snocE, GPt.appE, GPt.takeE, GPt.takeF, List.length_append, List.length_cons, List.length_nil]
    exact ⟨l ++ l2 ++ [⟨5 + z, 0, zV⟩], q2 + 1, by omega, by omega, by simp [List.length_append] <;> omega, by simp only [List.length_append, List.length_cons, List.length_nil]; omega, mm _ _ (mm _ _ hPl hPl2) (m1 _ (cp _ _)), by simp only [List.length_append, List.length_cons, List.length_nil], rfl⟩
  simp (maxSteps := 4000000) (disch := omega) only [go_sem, w64, AndB_of, IfB_of, IfB_no, pickE_of, pickE_no, ite_of, ite_no, tdivE, tmodE, takeAll]
  refine IfB.dec (fun c4 => ?_) (fun c4 => ?_)
  · simp (maxSteps := 4000000) (disch := omega) only [go_sem, w64, AndB_of, IfB_of, IfB_no, pickE_of, pickE_no, ite_of, ite_no, tdivE, tmodE, takeAll]
    refine CallB.law (h1 (p := p + 1 + 1) 3 cols (by omega) (by repeat (first | exact upd_same _ _ _ | rw [upd_ne _ _ (by omega)])) (fun i hi => by repeat (first | exact hd i (by omega) | rw [upd_ne _ _ (by omega)])) (by omega) (by omega) hb hc) ?_
    rintro _ _ _ ⟨l, q, hq1, hq2, hl1, hl2, hPl, rfl, rfl, rfl⟩
    simp (maxSteps := 4000000) (disch := omega) only [go_sem, w64, AndB_of, IfB_of, IfB_no, pickE_of, pickE_no, ite_of, ite_no, tdivE, tmodE, takeAll, GPt.snocE, GPt.appE, GPt.takeE, GPt.takeF, List.length_append, List.length_cons, List.length_nil]
    refine ⟨_, _, nx, 1, _, (by repeat (first | exact OldR.base hH | refine OldR.set ?_ | refine OldR.new (by omega) ?_ | exact OldW.refl | refine OldW.new (by omega) ?_ | refine OldW.rd ?_)), (by simp [pureL, pureA, bytesCells_pure]), Nat.le_refl _, (by rw [if_pos rfl]), ?_⟩
    simp (maxSteps := 4000000) (disch := omega) only [go_sem, w64, AndB_of, IfB_of, IfB_no, pickE_of, pickE_no, ite_of, ite_no, tdivE, tmodE, takeAll, GPt.snocE, GPt.appE, GPt.takeE, GPt.takeF, List.length_append, List.length_cons, List.length_nil]
    exact ⟨l ++ [⟨7, 0, zV⟩], q, by omega, by omega, by simp [List.length_append] <;> omega, by simp only [List.length_append, List.length_cons, List.length_nil]; omega, mm _ _ hPl (m1 _ (cp _ _)), by simp only [List.length_append, List.length_cons, List.length_nil], rfl⟩
  simp (maxSteps := 4000000) (disch := omega) only [go_sem, w64, AndB_of, IfB_of, IfB_no, pickE_of, pickE_no, ite_of, ite_no, tdivE, tmodE, takeAll]
  refine IfB.dec (fun c5 => ?_) (fun c5 => ?_)
  · simp (maxSteps := 4000000) (disch := omega) only [go_sem, w64, AndB_of, IfB_of, IfB_no, pickE_of, pickE_no, ite_of, ite_no, tdivE, tmodE, takeAll]
    refine CallB.law (d_pick (p := p + 1 + 1) (by repeat (first | exact upd_same _ _ _ | rw [upd_ne _ _ (by omega)])) (by omega) (by omega) hb (by omega) (by omega)) ?_
    rintro _ _ nx ⟨z, hz0, hz1, rfl, rfl, rfl⟩
    simp (maxSteps := 4000000) (disch := omega) only [go_sem, w64, AndB_of, IfB_of, IfB_no, pickE_of, pickE_no, ite_of, ite_no, tdivE, tmodE, takeAll, GPt.snocE, GPt.appE, GPt.takeE, GPt.takeF, List.length_append, List.length_cons, List.length_nil]
    refine CallB.law (h1 (p := p + 1 + 1 + 1) (1 + z) cols (by omega) (by repeat (first | exact upd_same _ _ _ | rw [upd_ne _ _ (by omega)])) (fun i hi => by repeat (first | exact hd i (by omega) | rw [upd_ne _ _ (by omega)])) (by omega) (by omega) hb hc) ?_
    rintro _ _ _ ⟨l, q, hq1, hq2, hl1, hl2, hPl, rfl, rfl, rfl⟩
    simp (maxSteps := 4000000) (disch := omega) only [go_sem, w64, AndB_of, IfB_of, IfB_no, pickE_of, pickE_no, ite_of, ite_no, tdivE, tmodE, takeAll, GPt.snocE, GPt.appE, GPt.takeE, GPt.takeF, List.length_append, List.length_cons, List.length_nil]
    refine ⟨_, _, nx, 1, _, (by repeat (first | exact OldR.base hH | refine OldR.set ?_ | refine OldR.new (by omega) ?_ | exact OldW.refl | refine OldW.new (by omega) ?_ | refine OldW.rd ?_)), (by simp [pureL, pureA, bytesCells_pure]), Nat.le_refl _, (by rw [if_pos rfl]), ?_⟩
    simp (maxSteps := 4000000) (disch := omega) only [go_sem, w64, AndB_of, IfB_of, IfB_no, pickE_of, pickE_no, ite_of, ite_no, tdivE, tmodE, takeAll, GPt.snocE, GPt.appE, GPt.takeE, GPt.takeF, List.length_append, List.length_cons, List.length_nil]
    exact ⟨l ++ [⟨8, 0, zV⟩], q, by omega, by omega, by simp [List.length_append] <;> omega, by simp only [List.length_append, List.length_cons, List.length_nil]; omega, mm _ _ hPl (m1 _ (cp _ _)), by simp only [List.length_append, List.length_cons, List.length_nil], rfl⟩
  simp (maxSteps := 4000000) (disch := omega) only [go_sem, w64, AndB_of, IfB_of, IfB_no, pickE_of, pickE_no, ite_of, ite_no, tdivE, tmodE, takeAll]
  refine CallB.law (d_pick (p := p + 1 + 1) (by repeat (first | exact upd_same _ _ _ | rw [upd_ne _ _ (by omega)])) (by omega) (by omega) hb (by omega) (by omega)) ?_
  rintro _ _ nx ⟨z, hz0, hz1, rfl, rfl, rfl⟩
  simp (maxSteps := 4000000) (disch := omega) only [go_sem, w64, AndB_of, IfB_of, IfB_no, pickE_of, pickE_no, ite_of, ite_no, tdivE, tmodE, takeAll, GPt.snocE, GPt.appE, GPt.takeE, GPt.takeF, List.length_append, List.length_cons, List.length_nil]
  refine CallB.law (h1 (p := p + 1 + 1 + 1) (1 + z) cols (by omega) (by repeat (first | exact upd_same _ _ _ | rw [upd_ne _ _ (by omega)])) (fun i hi => by repeat (first | exact hd i (by omega) | rw [upd_ne _ _ (by omega)])) (by omega) (by omega) hb hc) ?_
  rintro _ _ _ ⟨l, q, hq1, hq2, hl1, hl2, hPl, rfl, rfl, rfl⟩
  simp (maxSteps := 4000000) (disch := omega) only [go_sem, w64, AndB_of, IfB_of, IfB_no, pickE_of, pickE_no, ite_of, ite_no, tdivE, tmodE, takeAll, GPt.snocE, GPt.appE, GPt.takeE, GPt.takeF, List.length_append, List.length_cons, List.length_nil]
  refine CallB.law (d_leaf (p := q) (1 + z) cols (by omega) (by repeat (first | exact upd_same _ _ _ | rw [upd_ne _ _ (by omega)])) (fun i hi => by repeat (first | exact hd i (by omega) | rw [upd_ne _ _ (by omega)])) (by omega) (by omega) hb hc) ?_
  rintro _ _ _ ⟨x, q2, hq21, hq22, hPx, rfl, rfl, rfl⟩
  simp only [GPt.c]
  simp (maxSteps := 4000000) (disch := omega) only [go_sem, w64, AndB_of, IfB_of, IfB_no, pickE_of, pickE_no, ite_of, ite_no, tdivE, tmodE, takeAll, GPt.snocE, GPt.appE, GPt.takeE, GPt.takeF, List.length_append, List.length_cons, List.length_nil]
  refine CallB.law (d_pick (p := q2) (by repeat (first | exact upd_same _ _ _ | rw [upd_ne _ _ (by omega)])) (by omega) (by omega) hb (by omega) (by omega)) ?_
  rintro _ _ _ ⟨w, hw0, hw1, rfl, rfl, rfl⟩
  simp (maxSteps := 4000000) (disch := omega) only [go_sem, w64, AndB_of, IfB_of, IfB_no, pickE_of, pickE_no, ite_of, ite_no, tdivE, tmodE, takeAll, GPt.snocE, GPt.appE, GPt.takeE, GPt.takeF, List.length_append, List.length_cons, List.length_nil]
  refine ⟨_, _, nx, 2, _, (by repeat (first | exact OldR.base hH | refine OldR.set ?_ | refine OldR.new (by omega) ?_ | exact OldW.refl | refine OldW.new (by omega) ?_ | refine OldW.rd ?_)), (by simp [pureL, pureA, bytesCells_pure]), Nat.le_refl _, (by rw [if_pos rfl]), ?_⟩
  simp (maxSteps := 4000000) (disch := omega) only [go_sem, w64, AndB_of, IfB_of, IfB_no, pickE_of, pickE_no, ite_of, ite_no, tdivE, tmodE, takeAll, GPt.snocE, GPt.appE, GPt.takeE, GPt.takeF, List.length_append, List.length_cons, List.length_nil]
  exact ⟨l ++ [x] ++ [⟨4, 1 + w, zV⟩], q2 + 1, by omega, by omega, by simp [List.length_append] <;> omega, by simp only [List.length_append, List.length_cons, List.length_nil]; omega, mm _ _ (mm _ _ hPl (m1 _ hPx)) (m1 _ (cp _ _)), by simp only [List.length_append, List.length_cons, List.length_nil], rfl⟩
theorem ExprD.mono {deep : Int} {M M' : Nat} {B B' : Int} (h : ExprD deep M B) (h1 : M ≤ M') (h2 : B ≤ B') : ExprD deep M' B' := by
  intro H nx rid bs p kind cols hr hH hd hp0 hp hb hc
  refine (h kind cols hr hH hd hp0 (by omega) hb hc).mono ?_
  rintro r H' nx' ⟨l, q, q1, q2, l1, l2, hP, e1, e2, e3⟩
  exact ⟨l, q, q1, by omega, l1, by omega, hP, e1, e2, e3⟩
theorem d_expr3 : ExprD 3 22 860 := by
  have e0 : ExprD 0 1 20 := d_expr0 0 (by omega)
  have e1 : ExprD 1 4 140 := d_exprS 1 1 20 (by omega) (by omega) (by omega) (by omega) (by omega) (by omega) e0 (d_expr0 (-1) (by omega))
  have e2 : ExprD 2 10 380 := d_exprS 2 4 140 (by omega) (by omega) (by omega) (by omega) (by omega) (by omega) e1 (e0.mono (by omega) (by omega))
  have e3 : ExprD 3 22 860 := d_exprS 3 10 380 (by omega) (by omega) (by omega) (by omega) (by omega) (by omega) e2 (e1.mono (by omega) (by omega))
  exact @e3
theorem d_wild {H : AH} {nx rid : Nat} {bs : ByteArray} {p n : Int} (cols : List GCol) (hr : rid < nx) (hH : H rid = .live 0 [.sl bs.size false (bytesCells bs), .int .i64 (p)]) (hd : ∀ i, nx ≤ i → H i = .dead) (hp0 : 0 ≤ p) (hp : p ≤ 600000000) (hb : bs.size ≤ 2000) (hc : cols.length ≤ 10) (hn0 : -1000000000 ≤ n) (hn : n ≤ 1000000000) :
    ACallD Try.prog 157 [.ptr rid 0 0, colsA cols, .int .i64 n] H nx (fun r H' nx' => ∃ (l : List GPt) (q : Int), p ≤ q ∧ q ≤ p + 1000 ∧ l.length ≤ 23 ∧ (∀ x ∈ l, PP x) ∧ r = partsA l ∧ H' = upd H rid (.live 0 [.sl bs.size false (bytesCells bs), .int .i64 (q)]) ∧ nx' = nx) := by
  refine ACallD.finR 1 rid hr ?_
  refine dcall_body mixed Try.func157 _ (by unfold Try.f157; rfl) Try.ntmps157 Try.results157 (by decide) (by simp) ?_
  simp (maxSteps := 4000000) (disch := omega) only [go_sem, w64, AndB_of, IfB_of, IfB_no, pickE_of, pickE_no, ite_of, ite_no, tdivE, tmodE, takeAll]
  refine CallB.law (d_pick (p := p) (by repeat (first | exact hH | exact upd_same _ _ _ | rw [upd_ne _ _ (by omega)])) (by omega) (by omega) hb (by omega) (by omega)) ?_
  rintro _ _ _ ⟨x, hx0, hx1, rfl, rfl, rfl⟩
  obtain ⟨m, hm, he⟩ := getD_ints [3, 3, 1, 2] x.toNat (by simp; omega)
  simp only [List.map_cons, List.map_nil] at he
  simp (maxSteps := 4000000) (disch := omega) only [go_sem, w64, AndB_of, IfB_of, IfB_no, pickE_of, pickE_no, ite_of, ite_no, tdivE, tmodE, takeAll, he]
  refine CallB.law (d_expr3 (p := p + 1) m cols (by omega) (by repeat (first | exact hH | exact upd_same _ _ _ | rw [upd_ne _ _ (by omega)])) (fun i hi => by repeat (first | exact hd i (by omega) | rw [upd_ne _ _ (by omega)])) (by omega) (by omega) hb hc) ?_
  rintro _ _ _ ⟨l, q, hq1, hq2, hl1, hl2, hP, rfl, rfl, rfl⟩
  simp (maxSteps := 4000000) (disch := omega) only [go_sem, w64, AndB_of, IfB_of, IfB_no, pickE_of, pickE_no, ite_of, ite_no, tdivE, tmodE, takeAll, GPt.snocE, GPt.appE, GPt.takeE, GPt.takeF, List.length_append, List.length_cons, List.length_nil]
  refine CallB.law (d_odd (p := q) (by repeat (first | exact hH | exact upd_same _ _ _ | rw [upd_ne _ _ (by omega)])) (by omega) (by omega) hb (by omega) (by omega)) ?_
  rintro _ _ _ ⟨b, q2, hb1, hb2, rfl, rfl, rfl⟩
  simp (maxSteps := 4000000) (disch := omega) only [go_sem, w64, AndB_of, IfB_of, IfB_no, pickE_of, pickE_no, ite_of, ite_no, tdivE, tmodE, takeAll, GPt.snocE, GPt.appE, GPt.takeE, GPt.takeF, List.length_append, List.length_cons, List.length_nil]
  cases b
  · simp (maxSteps := 4000000) (disch := omega) only [go_sem, w64, AndB_of, IfB_of, IfB_no, pickE_of, pickE_no, ite_of, ite_no, tdivE, tmodE, takeAll]
    refine ⟨_, _, (by repeat (first | exact OldR.base hH | refine OldR.set ?_ | refine OldR.new (by omega) ?_ | exact OldW.refl | refine OldW.new (by omega) ?_ | refine OldW.rd ?_)), (by simp [pureL, pureA, bytesCells_pure]), ?_⟩
    exact ⟨l, q2, by omega, by omega, by omega, hP, rfl, rfl⟩
  simp (maxSteps := 4000000) (disch := omega) only [go_sem, w64, AndB_of, IfB_of, IfB_no, pickE_of, pickE_no, ite_of, ite_no, tdivE, tmodE, takeAll]
  refine CallB.law (d_pick (p := q2) (by repeat (first | exact hH | exact upd_same _ _ _ | rw [upd_ne _ _ (by omega)])) (by omega) (by omega) hb (by omega) (by omega)) ?_
  rintro _ _ _ ⟨y, hy0, hy1, rfl, rfl, rfl⟩
  simp (maxSteps := 4000000) (disch := omega) only [go_sem, w64, AndB_of, IfB_of, IfB_no, pickE_of, pickE_no, ite_of, ite_no, tdivE, tmodE, takeAll]
  refine IfB.dec (fun c1 => ?_) (fun c1 => ?_)
  · simp (maxSteps := 4000000) (disch := omega) only [go_sem, w64, AndB_of, IfB_of, IfB_no, pickE_of, pickE_no, ite_of, ite_no, tdivE, tmodE, takeAll]
    refine CallB.law (d_pick (p := q2 + 1) (by repeat (first | exact hH | exact upd_same _ _ _ | rw [upd_ne _ _ (by omega)])) (by omega) (by omega) hb (by omega) (by omega)) ?_
    rintro _ _ _ ⟨z, hz0, hz1, rfl, rfl, rfl⟩
    simp (maxSteps := 4000000) (disch := omega) only [go_sem, w64, AndB_of, IfB_of, IfB_no, pickE_of, pickE_no, ite_of, ite_no, tdivE, tmodE, takeAll]
    refine ⟨_, _, (by repeat (first | exact OldR.base hH | refine OldR.set ?_ | refine OldR.new (by omega) ?_ | exact OldW.refl | refine OldW.new (by omega) ?_ | refine OldW.rd ?_)), (by simp [pureL, pureA, bytesCells_pure]), ?_⟩
    have hz : z.toNat ≤ l.length := by omega
    rw [show (z - 0).toNat = z.toNat by omega, flat_take GPt.len, map_keep (flat_pure GPt.pure _)]
    refine ⟨l.take z.toNat, _, ?_, ?_, ?_, fun x hx => hP x (List.mem_of_mem_take hx), ?_, rfl⟩
    · omega
    · omega
    · rw [List.length_take]; omega
    · unfold partsA; rw [List.length_take, Nat.min_eq_left hz]
  simp (maxSteps := 4000000) (disch := omega) only [go_sem, w64, AndB_of, IfB_of, IfB_no, pickE_of, pickE_no, ite_of, ite_no, tdivE, tmodE, takeAll]
  refine IfB.dec (fun c2 => ?_) (fun c2 => ?_)
  · simp (maxSteps := 4000000) (disch := omega) only [go_sem, w64, AndB_of, IfB_of, IfB_no, pickE_of, pickE_no, ite_of, ite_no, tdivE, tmodE, takeAll]
    refine CallB.law (d_pick (p := q2 + 1) (by repeat (first | exact hH | exact upd_same _ _ _ | rw [upd_ne _ _ (by omega)])) (by omega) (by omega) hb (by omega) (by omega)) ?_
    rintro _ _ _ ⟨z, hz0, hz1, rfl, rfl, rfl⟩
    simp (maxSteps := 4000000) (disch := omega) only [go_sem, w64, AndB_of, IfB_of, IfB_no, pickE_of, pickE_no, ite_of, ite_no, tdivE, tmodE, takeAll]
    refine CallB.law (d_pick (p := q2 + 1 + 1) (by repeat (first | exact hH | exact upd_same _ _ _ | rw [upd_ne _ _ (by omega)])) (by omega) (by omega) hb (by omega) (by omega)) ?_
    rintro _ _ _ ⟨u, hu0, hu1, rfl, rfl, rfl⟩
    simp (maxSteps := 4000000) (disch := omega) only [go_sem, w64, AndB_of, IfB_of, IfB_no, pickE_of, pickE_no, ite_of, ite_no, tdivE, tmodE, takeAll]
    refine CallB.law (d_pick (p := q2 + 1 + 1 + 1) (by repeat (first | exact hH | exact upd_same _ _ _ | rw [upd_ne _ _ (by omega)])) (by omega) (by omega) hb (by omega) (by omega)) ?_
    rintro _ _ _ ⟨w, hw0, hw1, rfl, rfl, rfl⟩
    simp (maxSteps := 4000000) (disch := omega) only [go_sem, w64, AndB_of, IfB_of, IfB_no, pickE_of, pickE_no, ite_of, ite_no, tdivE, tmodE, takeAll]
    refine ⟨_, _, (by repeat (first | exact OldR.base hH | refine OldR.set ?_ | refine OldR.new (by omega) ?_ | exact OldW.refl | refine OldW.new (by omega) ?_ | refine OldW.rd ?_)), (by simp [pureL, pureA, bytesCells_pure]), ?_⟩
    have hz : z.toNat < l.length := by omega
    obtain ⟨l', g1, g2, hP'⟩ := Flat.put (sz := 5) GPt.len (c := GPt.c) (P := PP) ⟨l, rfl, rfl, hP⟩ hz ⟨u, w, zV⟩ (by unfold PP; show (⟨#[]⟩ : ByteArray).size ≤ 20; decide)
    have g1' : List.take (z.toNat * 5) (flat GPt.c l) ++ [AV.int .i64 u, AV.int .i64 w, AV.int .i64 0, AV.int .i64 0, AV.str ⟨#[]⟩] ++ List.drop (z.toNat * 5 + 5) (flat GPt.c l) = flat GPt.c l' := g1
    rw [g1', List.take_of_length_le (by rw [flat_len GPt.len]; omega), map_keep (flat_pure GPt.pure _)]
    refine ⟨l', _, ?_, ?_, ?_, hP', ?_, rfl⟩
    · omega
    · omega
    · omega
    · unfold partsA; rw [g2]
  · simp (maxSteps := 4000000) (disch := omega) only [go_sem, w64, AndB_of, IfB_of, IfB_no, pickE_of, pickE_no, ite_of, ite_no, tdivE, tmodE, takeAll]
    refine CallB.law (d_value (p := q2 + 1) (n := 2) (by omega) (by repeat (first | exact hH | exact upd_same _ _ _ | rw [upd_ne _ _ (by omega)])) (fun i hi => by repeat (first | exact hd i (by omega) | rw [upd_ne _ _ (by omega)])) (by omega) (by omega) hb (by omega) (by omega)) ?_
    rintro _ _ _ ⟨v, q3, hv1, hv2, hv3, hv4, rfl, rfl, rfl⟩
    simp (maxSteps := 4000000) (disch := omega) only [go_sem, w64, AndB_of, IfB_of, IfB_no, pickE_of, pickE_no, ite_of, ite_no, tdivE, tmodE, takeAll, GPt.snocE, GPt.appE, GPt.takeE, GPt.takeF, List.length_append, List.length_cons, List.length_nil]
    refine ⟨_, _, (by repeat (first | exact OldR.base hH | refine OldR.set ?_ | refine OldR.new (by omega) ?_ | exact OldW.refl | refine OldW.new (by omega) ?_ | refine OldW.rd ?_)), (by simp [pureL, pureA, bytesCells_pure]), ?_⟩
    refine ⟨l ++ [⟨1, 0, v⟩], q3, by omega, by omega, by rw [List.length_append]; simp; omega, fun x hx => ?_, by unfold partsA; rw [List.length_append]; rfl, rfl⟩
    rcases List.mem_append.1 hx with h | h
    · exact hP x h
    · simp at h; subst h; exact hv3
theorem d_asked {H : AH} {nx rid : Nat} {bs : ByteArray} {p n : Int} (hr : rid < nx) (hH : H rid = .live 0 [.sl bs.size false (bytesCells bs), .int .i64 (p)]) (hd : ∀ i, nx ≤ i → H i = .dead) (hp0 : 0 ≤ p) (hp : p ≤ 500000000) (hb : bs.size ≤ 2000) (hn0 : -100000000 ≤ n) (hn : n ≤ 100000000) :
    ACallD Try.prog 111 [.ptr rid 0 0, .int .i64 n] H nx (fun r H' nx' => ∃ (cols : List GCol) (row : GRow) (l : List GPt) (q : Int), p ≤ q ∧ q ≤ p + 2000 ∧ cols.length ≤ 6 ∧ l.length ≤ 23 ∧ (∀ x ∈ l, PP x) ∧ r = .tup [colsA cols, rowA row, partsA l] ∧ H' = upd H rid (.live 0 [.sl bs.size false (bytesCells bs), .int .i64 (q)]) ∧ nx' = nx) := by
  refine ACallD.finR 1 rid hr ?_
  refine dcall_body mixed Try.func111 _ (by unfold Try.f111; rfl) Try.ntmps111 Try.results111 (by decide) (by simp) ?_
  simp (maxSteps := 4000000) (disch := omega) only [go_sem, w64, AndB_of, IfB_of, IfB_no, pickE_of, pickE_no, ite_of, ite_no, tdivE, tmodE, takeAll]
  refine CallB.law (d_columns (p := p) (n := 3 * n) hr hH hd (by omega) (by omega) hb (by omega) (by omega)) ?_
  rintro _ _ nx ⟨cols, q, q1, q2, c1, c2, cP, rfl, rfl, rfl⟩
  simp (maxSteps := 4000000) (disch := omega) only [go_sem, w64, AndB_of, IfB_of, IfB_no, pickE_of, pickE_no, ite_of, ite_no, tdivE, tmodE, takeAll]
  refine CallB.law (d_fit (p := q) (n := 3 * n) cols hr (by repeat (first | exact hH | exact upd_same _ _ _ | rw [upd_ne _ _ (by omega)])) (fun i hi => by repeat (first | exact hd i (by omega) | rw [upd_ne _ _ (by omega)])) (by omega) (by omega) hb (by omega) (by omega) (by omega)) ?_
  rintro _ _ nx ⟨row, q3, q4, q5, r1, r2, rfl, rfl, rfl⟩
  simp (maxSteps := 4000000) (disch := omega) only [go_sem, w64, AndB_of, IfB_of, IfB_no, pickE_of, pickE_no, ite_of, ite_no, tdivE, tmodE, takeAll]
  refine CallB.law (d_wild (p := q3) (n := n) cols hr (by repeat (first | exact hH | exact upd_same _ _ _ | rw [upd_ne _ _ (by omega)])) (fun i hi => by repeat (first | exact hd i (by omega) | rw [upd_ne _ _ (by omega)])) (by omega) (by omega) hb (by omega) (by omega) (by omega)) ?_
  rintro _ _ nx ⟨l, q6, q7, q8, l1, hP, rfl, rfl, rfl⟩
  simp (maxSteps := 4000000) (disch := omega) only [go_sem, w64, AndB_of, IfB_of, IfB_no, pickE_of, pickE_no, ite_of, ite_no, tdivE, tmodE, takeAll]
  refine ⟨_, _, (by repeat (first | exact OldR.base hH | refine OldR.set ?_ | refine OldR.new (by omega) ?_ | exact OldW.refl | refine OldW.new (by omega) ?_ | refine OldW.rd ?_)), (by simp [pureL, pureA, bytesCells_pure]), ?_⟩
  exact ⟨cols, row, l, q6, by omega, by omega, by omega, l1, hP, rfl, rfl⟩
theorem x_DrawExprKind (s : ByteArray) : ∃ R, (∃ (cols : List GCol) (l : List GPt), cols.length ≤ 6 ∧ l.length ≤ 23 ∧ (∀ x ∈ l, PP x) ∧ R = .tup [colsA cols, partsA l]) ∧ QCall Try.prog 46 [.sl s.size false (bytesCells s)] R := by
  refine qex_of (by simp [pureL, pureA, bytesCells_pure]) 2 ?_
  refine dcall_body mixed Try.func46 _ (by unfold Try.f46; rfl) Try.ntmps46 Try.results46 (by decide) (by simp) ?_
  simp (maxSteps := 4000000) (disch := omega) only [go_sem, w64, AndB_of, IfB_of, IfB_no, pickE_of, pickE_no, ite_of, ite_no, tdivE, tmodE, takeAll]
  apply CallB.law; (focus (apply d_open; (repeat (first | exact hH | exact upd_same _ _ _ | rw [upd_ne _ _ (by omega)])); all_goals omega)); rintro _ _ _ ⟨bs, hbs, rfl, rfl, rfl⟩
  simp (maxSteps := 4000000) (disch := omega) only [go_sem, w64, AndB_of, IfB_of, IfB_no, pickE_of, pickE_no, ite_of, ite_no, tdivE, tmodE, takeAll]
  refine CallB.law (d_asked (by omega) (upd_same ..) (fun i hi => by rw [upd_ne _ _ (by omega)]; rfl) (by omega) (by omega) (by omega) (by omega) (by omega)) ?_
  rintro _ _ _ ⟨cols, row, l, q, q1, q2, c1, l1, hP, rfl, rfl, rfl⟩
  simp (maxSteps := 4000000) (disch := omega) only [go_sem, w64, AndB_of, IfB_of, IfB_no, pickE_of, pickE_no, ite_of, ite_no, tdivE, tmodE, takeAll]
  exact ⟨cols, l, c1, l1, hP, rfl⟩
end Go.TH
