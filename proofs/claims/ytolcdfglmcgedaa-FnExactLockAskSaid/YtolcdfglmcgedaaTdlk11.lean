/- TH: locks, 11: freeing, of the program: the walks. Made by gen.py. -/
import Derived.Test.YtolcdfglmcgedaaTf3
import Derived.Test.YtolcdfglmcgedaaTddel
import Derived.Test.YtolcdfglmcgedaaTdlk10
import Derived.Test.YtolcdfglmcgedaaTdlk8
namespace Go.TH
open Go Go.Proofs
set_option linter.unusedSimpArgs false
set_option linter.unusedVariables false
set_option maxHeartbeats 20000000
set_option maxRecDepth 100000
theorem FCallB.lawM {P : Program} {a : Nat} {z : List AV} {g : FuncId} {args : List AV} {s : ASt} {K : AV → AH → Nat → Prop} {w : Box K} {r : AV} {H' : AH} (m : Nat) (h1 : H' a = .dead) (hn : a < m) (h : ∀ b, ACallD P g args (upd s.H a (zB z b)) s.nx fun r1 H1 n1 => r1 = r ∧ H1 = upd H' a (zB z b) ∧ m ≤ n1) (k : ∀ n, m ≤ n → K r H' n) : FCallB P a z (.fn g []) args s K w := by
  obtain ⟨r1, H1, n1, c1, rfl, rfl, l1⟩ := h true
  obtain ⟨r2, H2, n2, c2, rfl, rfl, l2⟩ := h false
  refine FCallB.of (H' := H') (nx' := max n1 n2) h1 (by omega) (fun b => ?_) (k _ (by omega))
  cases b
  · exact c2.upto (by omega)
  · exact c1.upto (by omega)
theorem Pict.agg {H : AH} {aa ps : List AV} (h : Pict H aa ps) : Pict H [.agg aa] [.agg ps] := by
  intro base nx κ hi F' M' hF hL vs hr
  obtain ⟨v, vs', rfl, r1, r2⟩ := hr.uncons
  rw [r2.unnil]
  refine Reps.cons ?_ (Reps.nil _)
  cases r1 with
  | agg ws cells hl h1 hr' =>
    have k := h base nx κ hi F' M' hF hL ws ⟨hl, hr'⟩
    exact .agg ws _ k.1 h1 k.2
structure RelI (tgt : GLk) (N : Nat) (h : AH) (x k : Nat) (xv yv : AV) : Prop where
  ex : ∃ H Q, LksR false h (fun i => 4 ≤ i ∧ i < x) ⟨H, Q⟩ xv yv ∧ mlenOf yv = Q.length ∧ k ≤ Q.length ∧ H.length + Q.length ≤ N ∧ uniq H ∧ settle H Q k = tgt
theorem q_release1 (b : GAk) (w : Int) : QCall Try.prog 151 [.agg (GAk.c b), .ro [.int .i64 w]] (.bool (decide (b.who = w))) := by
  unfold GAk.c
  refine qcall_body mixed Try.func151 _ (by unfold Try.f151; rfl) Try.ntmps151 Try.results151 (by decide) 0 (by simp) (by simp [pureL, pureA]) ?_
  simp (maxSteps := 4000000) (disch := omega) only [go_sem, w64, AndB_of, IfB_of, IfB_no, pickE_of, pickE_no, ite_of, ite_no, tdivE, tmodE, takeAll]
theorem o_release (l : GLk) (hu : uniq l.held) (hn : l.held.length + l.queue.length ≤ 1000000) (w : Int) : ACallD Try.prog 104 [.agg (GLk.c l), .int .i64 w] noH 0 (fun r H' n' => OwnR H' 0 n' (.agg (GLk.c (settle (l.held.filter (noW w)) (l.queue.filter (noW w)) 0))) r ∧ slOk 3 r = true) := by
  obtain ⟨tgt, htgt⟩ : ∃ t, t = settle (l.held.filter (noW w)) (l.queue.filter (noW w)) 0 := ⟨_, rfl⟩
  rw [← htgt]
  refine wcall_body mixed Try.func104 _ (by unfold Try.f104; rfl) Try.ntmps104 Try.results104 (by decide) (by simp) ?_
  simp (maxSteps := 4000000) (disch := omega) only [go_sem, w64, AndB_of, IfB_of, IfB_no, pickE_of, pickE_no, ite_of, ite_no, tdivE, tmodE, takeAll, GLk.c]
  refine AW.step ?_
  simp (maxSteps := 4000000) (disch := omega) only [go_sem, w64, AndB_of, IfB_of, IfB_no, pickE_of, pickE_no, ite_of, ite_no, tdivE, tmodE, takeAll]
  refine AW.step ?_
  simp (maxSteps := 4000000) (disch := omega) only [go_sem, w64, AndB_of, IfB_of, IfB_no, pickE_of, pickE_no, ite_of, ite_no, tdivE, tmodE, takeAll]
  refine AW.cut (fun zs => (heapOf zs, nxOf zs)) (fun zz => [(4, none), (1, some (.ptr 3 1 0))]) (fun zz => zz.1) (fun zz => zz.2) (fun zz => zz.1 2 = .live 0 [.sl 0 true [], .sl 0 true []] ∧ 4 ≤ zz.2 ∧ ∃ xv yv, zz.1 3 = .live 1 [xv, yv] ∧ RelI tgt 1000000 zz.1 zz.2 0 xv yv) ?zcut0 ?_
  case' zcut0 => simp (maxSteps := 4000000) (disch := omega) only [go_sem, w64, AndB_of, IfB_of, IfB_no, pickE_of, pickE_no, ite_of, ite_no, tdivE, tmodE, takeAll]
  · refine DrawB.float [2, 4, 7, 9, 10, 12] 12 11 [.sl 0 true [], .sl 0 true []] (inN 3 4) (by kernel_rfl) (by simp [inN]) ?_
    have hcap : ∀ H' : AH, pureL ([AV.ptr 1 0 0].map (snapA 1 H')) = true := fun H' => by simp only [List.map, pureL, snapA_pure, Bool.and_self]
    have hsn : ∀ H' : AH, H' 1 = .live 0 [.int .i64 w] → snapA 1 H' (.ptr 1 0 0) = .ro [.int .i64 w] := fun H' e => by rw [snapA_ptr, e, snapP_live, if_pos rfl]; rfl
    have hkept : ∀ l : List GAk, keptL (fun a => decide (a.who = w)) l = l.filter (noW w) := fun l => by
      unfold keptL noW; congr 1; funext a; simp
    unfold asksA
    simp (maxSteps := 4000000) (disch := omega) only [go_sem, w64, AndB_of, IfB_of, IfB_no, pickE_of, pickE_no, ite_of, ite_no, tdivE, tmodE, takeAll]
    obtain ⟨h0, eh0⟩ : ∃ h0 : AH, h0 = upd (upd (upd noH 0 (.live 0 [.sl l.held.length false (flat GAk.c l.held), .sl l.queue.length false (flat GAk.c l.queue)])) 1 (.live 0 [.int .i64 w])) 2 (.live 0 [.sl 0 true [], .sl 0 true []]) := ⟨_, rfl⟩
    have d0 : ∀ i, 3 ≤ i → h0 i = .dead := fun i hi => by rw [eh0, upd_ne _ _ (by omega), upd_ne _ _ (by omega), upd_ne _ _ (by omega)]; rfl
    have f0 : h0 0 = .live 0 [.sl l.held.length false (flat GAk.c l.held), .sl l.queue.length false (flat GAk.c l.queue)] := by rw [eh0]; rfl
    have f1 : h0 1 = .live 0 [.int .i64 w] := by rw [eh0]; rfl
    have f2 : h0 2 = .live 0 [.sl 0 true [], .sl 0 true []] := by rw [eh0]; rfl
    rw [← eh0]
    clear eh0
    refine FCallB.lawM (r := .msl 4 1 3 0 l.held.length) (H' := upd h0 4 (.live 1 (flat GAk.c l.held))) 5 (by rw [upd_ne _ _ (by omega)]; exact d0 3 (by omega)) (by omega) (fun b => ⟨_, _, _, c_CloneAk l.held false (by omega), rfl, upd_comm h0 (i := 3) (j := 4) _ _ (by decide), Nat.le_refl _⟩) fun n2 hn2 => ?_
    simp (maxSteps := 4000000) (disch := omega) only [go_sem, w64, AndB_of, IfB_of, IfB_no, pickE_of, pickE_no, ite_of, ite_no, tdivE, tmodE, takeAll]
    have hk1 := keptL_le (p := fun a : GAk => decide (a.who = w)) (l := l.held)
    have hk2 := keptL_le (p := fun a : GAk => decide (a.who = w)) (l := l.queue)
    refine FCallB.lawM (r := .msl 4 1 3 0 (keptL (fun a : GAk => decide (a.who = w)) l.held).length) (H' := upd h0 4 (.live 1 (flat GAk.c (keptL (fun a => decide (a.who = w)) l.held) ++ (List.replicate (l.held.length - (keptL (fun a : GAk => decide (a.who = w)) l.held).length) zAk).flatten))) n2 (by rw [upd_ne _ _ (by omega)]; exact d0 3 (by omega)) (by omega) (fun b => ?_) fun n3 hn3 => ?_
    · obtain ⟨r1, H1, n1, k1, e1, e2, e3⟩ := d_DeleteFuncAk (H := upd (upd h0 4 (.live 1 (flat GAk.c l.held))) 3 (zB [.sl 0 true [], .sl 0 true []] b)) (nx := n2) (id := 4) (ver := 1) l.held 151 [.ptr 1 0 0] (fun a => decide (a.who = w)) (by omega) (by omega)
        (fun i hi => by rw [upd_ne _ _ (by omega), upd_ne _ _ (by omega)]; exact d0 i (by omega)) (by rw [upd_ne _ _ (by omega), upd_same]) hcap (fun H' e v hv => by
          simp only [List.map]
          rw [hsn H' (by rw [e 1 (by omega) (by omega), upd_ne _ _ (by omega), upd_ne _ _ (by omega)]; exact f1)]
          exact q_release1 v w)
      exact ⟨r1, H1, n1, k1, e1, by rw [e2, upd_comm _ _ _ (by omega), upd_upd], e3⟩
    simp (maxSteps := 4000000) (disch := omega) only [go_sem, w64, AndB_of, IfB_of, IfB_no, pickE_of, pickE_no, ite_of, ite_no, tdivE, tmodE, takeAll, f0]
    obtain ⟨L1, hL1⟩ : ∃ L1, L1 = flat GAk.c (keptL (fun a : GAk => decide (a.who = w)) l.held) ++ (List.replicate (l.held.length - (keptL (fun a : GAk => decide (a.who = w)) l.held).length) zAk).flatten := ⟨_, rfl⟩
    rw [← hL1]
    obtain ⟨h4, eh4⟩ : ∃ h4 : AH, h4 = upd h0 4 (.live 1 L1) := ⟨_, rfl⟩
    rw [← eh4]
    have d4 : ∀ i, 5 ≤ i → h4 i = .dead := fun i hi => by rw [eh4, upd_ne _ _ (by omega)]; exact d0 i (by omega)
    have g1 : h4 1 = .live 0 [.int .i64 w] := by rw [eh4, upd_ne _ _ (by omega)]; exact f1
    have g2 : h4 2 = .live 0 [.sl 0 true [], .sl 0 true []] := by rw [eh4, upd_ne _ _ (by omega)]; exact f2
    have g3 : h4 3 = .dead := by rw [eh4, upd_ne _ _ (by omega)]; exact d0 3 (by omega)
    have g4 : h4 4 = .live 1 L1 := by rw [eh4, upd_same]
    refine FCallB.lawM (r := .msl n3 1 3 0 l.queue.length) (H' := upd h4 n3 (.live 1 (flat GAk.c l.queue))) (n3 + 1) (by rw [upd_ne _ _ (by omega)]; exact g3) (by omega) (fun b => ⟨_, _, _, c_CloneAk l.queue false (by omega), rfl, upd_comm h4 (i := 3) (j := n3) _ _ (by omega), Nat.le_refl _⟩) fun n4 hn4 => ?_
    simp (maxSteps := 4000000) (disch := omega) only [go_sem, w64, AndB_of, IfB_of, IfB_no, pickE_of, pickE_no, ite_of, ite_no, tdivE, tmodE, takeAll]
    refine FCallB.lawM (r := .msl n3 1 3 0 (keptL (fun a : GAk => decide (a.who = w)) l.queue).length) (H' := upd h4 n3 (.live 1 (flat GAk.c (keptL (fun a => decide (a.who = w)) l.queue) ++ (List.replicate (l.queue.length - (keptL (fun a : GAk => decide (a.who = w)) l.queue).length) zAk).flatten))) n4 ((upd_ne _ _ (show (3 : Nat) ≠ n3 by omega)).trans g3) (by omega) (fun b => ?_) fun n5 hn5 => ?_
    · obtain ⟨r1, H1, n1, k1, e1, e2, e3⟩ := d_DeleteFuncAk (H := upd (upd h4 n3 (.live 1 (flat GAk.c l.queue))) 3 (zB [.sl 0 true [], .sl 0 true []] b)) (nx := n4) (id := n3) (ver := 1) l.queue 151 [.ptr 1 0 0] (fun a => decide (a.who = w)) (by omega) (by omega)
        (fun i hi => by rw [upd_ne _ _ (by omega), upd_ne _ _ (by omega)]; exact d4 i (by omega)) (by rw [upd_ne _ _ (by omega), upd_same]) hcap (fun H' e v hv => by
          simp only [List.map]
          rw [hsn H' (by rw [e 1 (by omega) (by omega), upd_ne _ _ (by omega), upd_ne _ _ (by omega)]; exact g1)]
          exact q_release1 v w)
      exact ⟨r1, H1, n1, k1, e1, by rw [e2, upd_comm _ (i := 3) (j := n3) _ _ (by omega), upd_upd], e3⟩
    simp (maxSteps := 4000000) (disch := omega) only [go_sem, w64, AndB_of, IfB_of, IfB_no, pickE_of, pickE_no, ite_of, ite_no, tdivE, tmodE, takeAll, g4]
    have hQ5 : RelI tgt 1000000 (upd (upd h4 n3 (.live 1 (flat GAk.c (keptL (fun a => decide (a.who = w)) l.queue) ++ (List.replicate (l.queue.length - (keptL (fun a : GAk => decide (a.who = w)) l.queue).length) zAk).flatten))) 3 (.live 1 [.msl 4 1 3 0 (keptL (fun a : GAk => decide (a.who = w)) l.held).length, .msl n3 1 3 0 (keptL (fun a : GAk => decide (a.who = w)) l.queue).length])) n5 0
        (.msl 4 1 3 0 (keptL (fun a : GAk => decide (a.who = w)) l.held).length) (.msl n3 1 3 0 (keptL (fun a : GAk => decide (a.who = w)) l.queue).length) := by
      refine ⟨keptL (fun a : GAk => decide (a.who = w)) l.held, keptL (fun a : GAk => decide (a.who = w)) l.queue, ⟨[4], [n3], .msl (rest := (List.replicate (l.held.length - (keptL (fun a : GAk => decide (a.who = w)) l.held).length) zAk).flatten) (by rw [upd_ne _ _ (by omega), upd_ne _ _ (by omega), g4, hL1]) (fun h => by cases h), .msl (rest := (List.replicate (l.queue.length - (keptL (fun a : GAk => decide (a.who = w)) l.queue).length) zAk).flatten) (by rw [upd_ne _ _ (by omega), upd_same]) (fun h => by cases h), by simp; omega, by simp; omega, by simp; omega⟩, rfl, Nat.zero_le _, by omega, by rw [hkept]; exact hu.filter _, ?_⟩
      rw [hkept, hkept]
      exact htgt.symm
    refine ⟨⟨g2, by omega, _, _, rfl, hQ5⟩, ?_⟩
    ((repeat' apply And.intro) <;> first | (exact Weak.go (by (first | (simp [wkL]; done) | (simp [wkL]; omega))) (fun zi => by first | exact .inl rfl | exact .inr rfl | (simp only [upd]; repeat' split) <;> first | exact .inl rfl | exact .inr rfl | (exfalso; omega) | exact .inr (hd _ (by omega)) | (left; subst_vars; exact hH.symm) | (left; subst_vars; rfl) | (left; simp; done) | (left; simp; omega)) (by omega)) | omega | rfl | assumption | exact Flat.nil | exact ⟨_, rfl, rfl, by assumption⟩ | (simp; done) | (simp; omega))
  intro zz zh
  obtain ⟨h, x⟩ := zz
  dsimp only at zh
  obtain ⟨h1, hx, xv, yv, hH, hL⟩ := zh
  simp (maxSteps := 4000000) (disch := omega) only [go_sem, w64, AndB_of, IfB_of, IfB_no, pickE_of, pickE_no, ite_of, ite_no, tdivE, tmodE, takeAll]
  refine AW.of ?_
  simp (maxSteps := 4000000) (disch := omega) only [go_sem, w64, AndB_of, IfB_of, IfB_no, pickE_of, pickE_no, ite_of, ite_no, tdivE, tmodE, takeAll, h1, hH]
  refine LoopB.auto (fun zs => (heapOf zs, nxOf zs, (intOf (slotOf zs 7)).toNat, nthA (cellsOf (blkOf zs (3))) 0, nthA (cellsOf (blkOf zs (3))) 1)) (fun zz => [(4, none), (1, none), (0, some (.int .i64 (zz.2.2.1 : Int)))]) (fun zz => zz.1) (fun zz => zz.2.1) (fun zz => mlenOf zz.2.2.2.2 * (mlenOf zz.2.2.2.2 + 1) + (mlenOf zz.2.2.2.2 - zz.2.2.1)) (fun zz => zz.1 2 = .live 0 [.sl 0 true [], .sl 0 true []] ∧ 4 ≤ zz.2.1 ∧ zz.1 3 = .live 1 [zz.2.2.2.1, zz.2.2.2.2] ∧ RelI tgt 1000000 zz.1 zz.2.1 zz.2.2.1 zz.2.2.2.1 zz.2.2.2.2) (by (first | simp (maxSteps := 4000000) (disch := omega) only [go_sem, w64, AndB_of, IfB_of, IfB_no, pickE_of, pickE_no, ite_of, ite_no, tdivE, tmodE, takeAll, hH] | simp (maxSteps := 4000000) (disch := omega) only [go_sem, w64, AndB_of, IfB_of, IfB_no, pickE_of, pickE_no, ite_of, ite_no, tdivE, tmodE, takeAll]); ((repeat' apply And.intro) <;> first | exact hL | exact hH | exact h1 | (exact Weak.go (by (first | (simp [wkL]; done) | (simp [wkL]; omega))) (fun zi => by first | exact .inl rfl | exact .inr rfl | (simp only [upd]; repeat' split) <;> first | exact hL | exact hH | exact h1 | exact .inl rfl | exact .inr rfl | (exfalso; omega) | exact .inr (hd _ (by omega)) | (left; subst_vars; exact hH.symm) | (left; subst_vars; rfl) | (left; simp; done) | (left; simp; omega)) (by omega)) | omega | rfl | assumption | exact Flat.nil | exact ⟨_, rfl, rfl, by assumption⟩ | (simp; done) | (simp; omega))) ?_
  intro zz zh
  obtain ⟨h, x, k, xv, yv⟩ := zz
  dsimp only at zh
  obtain ⟨h1, hx, hH, hL⟩ := zh
  simp (maxSteps := 4000000) (disch := omega) only [go_sem, w64, AndB_of, IfB_of, IfB_no, pickE_of, pickE_no, ite_of, ite_no, tdivE, tmodE, takeAll]
  obtain ⟨H, Q, hK, hm, hkq, hN, hun, hset⟩ := hL.ex
  have hcx := hK.cells.1
  have hcy := hK.cells.2
  have hK0 := hK
  obtain ⟨S1, S2, k1, k2, k3, k4, k5⟩ := hK0.ex
  have hfin : settle H Q k = ⟨H, Q⟩ → ∀ r H2 n2, OwnR H2 x n2 (.agg [asksA H, asksA Q]) r → slOk 3 r = true → OwnR H2 0 n2 (.agg [asksA tgt.held, asksA tgt.queue]) r ∧ slOk 3 r = true := fun e r H2 n2 h1 h2 => by
    rw [e] at hset
    subst hset
    exact ⟨h1.mono (by omega) (Nat.le_refl _), h2⟩
  have hPic : ∀ h' : AH, (∀ i, 4 ≤ i → i < x → h' i = h i) → Pict h' [.agg [xv, yv]] [.agg [asksA H, asksA Q]] := fun h' e => by
    have := hK.congr (h' := h') fun i hi => e i hi.1 hi.2
    exact Pict.agg (Pict.cons this.pict1 this.pict2)
  have e7 := o_copyI ⟨H, Q⟩ (by simp only; omega) (by simp only; omega)
  simp only [GLk.c] at e7
  cases k2 with
  | nil eq =>
    change Q = [] at eq
    have hk0 : k = 0 := by rw [eq] at hkq; simpa using hkq
    subst hk0
    simp (maxSteps := 4000000) (disch := omega) only [go_sem, w64, AndB_of, IfB_of, IfB_no, pickE_of, pickE_no, ite_of, ite_no, tdivE, tmodE, takeAll, hH]
    refine CallB.freshS (hPic h fun _ _ _ => rfl) e7 fun r H2 n2 hO hs hn2 hH2 => ?_
    obtain ⟨xv2, yv2, rfl, hL2⟩ := Lks.of (L := ⟨H, Q⟩) hO hs
    have j2 : H2 2 = .live 0 [.sl 0 true [], .sl 0 true []] := by rw [hH2 2 (by omega)]; exact h1
    simp (maxSteps := 4000000) (disch := omega) only [go_sem, w64, AndB_of, IfB_of, IfB_no, pickE_of, pickE_no, ite_of, ite_no, tdivE, tmodE, takeAll, j2, hL2.cells.1, hL2.cells.2]
    exact hfin (settle_end (by rw [eq]; simp)) _ _ _ (hO.congr fun i a b => upd_ne _ _ (by omega)) hs
  | @msl i v rest ei hr =>
    change h i = .live v (flat GAk.c Q ++ rest) at ei
    have ki := k4 i (by simp)
    have hil := flat_takeR GAk.len Q rest
    simp (maxSteps := 4000000) (disch := omega) only [go_sem, w64, AndB_of, IfB_of, IfB_no, pickE_of, pickE_no, ite_of, ite_no, tdivE, tmodE, takeAll, hH, ei]
    refine IfB.dec (fun c1 => ?_) (fun c1 => ?_)
    case refine_2 =>
      simp (maxSteps := 4000000) (disch := omega) only [go_sem, w64, AndB_of, IfB_of, IfB_no, pickE_of, pickE_no, ite_of, ite_no, tdivE, tmodE, takeAll, h1, hH]
      refine CallB.freshS (hPic h fun _ _ _ => rfl) e7 fun r H2 n2 hO hs hn2 hH2 => ?_
      obtain ⟨xv2, yv2, rfl, hL2⟩ := Lks.of (L := ⟨H, Q⟩) hO hs
      have j2 : H2 2 = .live 0 [.sl 0 true [], .sl 0 true []] := by rw [hH2 2 (by omega)]; exact h1
      simp (maxSteps := 4000000) (disch := omega) only [go_sem, w64, AndB_of, IfB_of, IfB_no, pickE_of, pickE_no, ite_of, ite_no, tdivE, tmodE, takeAll, j2, hL2.cells.1, hL2.cells.2]
      exact hfin (settle_end (by omega)) _ _ _ (hO.congr fun i a b => upd_ne _ _ (by omega)) hs
    have hk' : k < Q.length := by omega
    have hlenQ : (flat GAk.c Q ++ rest).length = Q.length * 3 + rest.length := by rw [List.length_append, flat_len GAk.len]
    have fdk : (flat GAk.c Q ++ rest).drop (k * 3) = .int .i64 Q[k].who :: .int .i64 Q[k].key :: .int .i64 Q[k].kind :: (flat GAk.c (Q.drop (k + 1)) ++ rest) := by
      rw [List.drop_append_of_le_length (by rw [flat_len GAk.len]; omega), flat_at GAk.len hk']; rfl
    have e3 := q_free ⟨H, Q⟩ (by simp only; omega) Q[k] (Q.take k) (by simp; omega)
    simp only [GLk.c, GAk.c] at e3
    have hPic2 := hPic (upd h x (.live 0 [.int .i64 Q[k].who, .int .i64 Q[k].key, .int .i64 Q[k].kind])) fun i a b => upd_ne _ _ (by omega)
    have hP2 : Pict (upd h x (.live 0 [.int .i64 Q[k].who, .int .i64 Q[k].key, .int .i64 Q[k].kind])) [.msl i v 3 0 k] [asksA (Q.take k)] := by
      have := Pict.msl (l := Q.take k) (rest := flat GAk.c (Q.drop k) ++ rest) (H := upd h x (.live 0 [.int .i64 Q[k].who, .int .i64 Q[k].key, .int .i64 Q[k].kind])) (id := i) (ver := v) GAk.len GAk.pure (by rw [upd_ne _ _ (by omega), ei, ← List.append_assoc, ← flat_append, List.take_append_drop])
      unfold asksA
      rw [len_take hkq] at this ⊢
      exact this
    simp (maxSteps := 4000000) (disch := omega) only [go_sem, w64, AndB_of, IfB_of, IfB_no, pickE_of, pickE_no, ite_of, ite_no, tdivE, tmodE, takeAll, hH, ei, hlenQ, fdk]
    refine DrawB.quiet (by kernel_rfl) ?_
    simp (maxSteps := 4000000) (disch := omega) only [go_sem, w64, AndB_of, IfB_of, IfB_no, pickE_of, pickE_no, ite_of, ite_no, tdivE, tmodE, takeAll, hH, ei, hlenQ, fdk]
    refine DCallB.pic (ps := [.agg [asksA H, asksA Q], .agg [.int .i64 Q[k].who, .int .i64 Q[k].key, .int .i64 Q[k].kind], asksA (Q.take k)]) ?_ e3 rfl ?_
    · rw [maskH_noS]
      exact Pict.cons hPic2 (Pict.cons (Pict.pure rfl) (Pict.cons hP2 Pict.nil))
    simp (maxSteps := 4000000) (disch := omega) only [go_sem, w64, AndB_of, IfB_of, IfB_no, pickE_of, pickE_no, ite_of, ite_no, tdivE, tmodE, takeAll]
    refine IfB.dec (fun c2 => ?_) (fun c2 => ?_)
    case refine_2 =>
      simp (maxSteps := 4000000) (disch := omega) only [go_sem, w64, AndB_of, IfB_of, IfB_no, pickE_of, pickE_no, ite_of, ite_no, tdivE, tmodE, takeAll, hH]
      have hK' := hK.congr (h' := upd h x (.live 0 [.int .i64 Q[k].who, .int .i64 Q[k].key, .int .i64 Q[k].kind])) fun j q1 => upd_ne _ _ (by omega)
      have hSI : RelI tgt 1000000 (upd h x (.live 0 [.int .i64 Q[k].who, .int .i64 Q[k].key, .int .i64 Q[k].kind])) (x + 1) (k + 1) xv (.msl i v 3 0 Q.length) := ⟨H, Q, hK'.mono fun i hi => by omega, rfl, by omega, hN, hun, (settle_no hk' c2).symm.trans hset⟩
      ((repeat' apply And.intro) <;> first | exact hSI | exact hH | exact h1 | (exact Weak.go (by (first | (simp [wkL]; done) | (simp [wkL]; omega))) (fun zi => by first | exact .inl rfl | exact .inr rfl | (simp only [upd]; repeat' split) <;> first | exact hSI | exact hH | exact h1 | exact .inl rfl | exact .inr rfl | (exfalso; omega) | exact .inr (hd _ (by omega)) | (left; subst_vars; exact hH.symm) | (left; subst_vars; rfl) | (left; simp; done) | (left; simp; omega)) (by omega)) | omega | rfl | assumption | exact Flat.nil | exact ⟨_, rfl, rfl, by assumption⟩ | (simp; done) | (simp; omega))
    simp (maxSteps := 4000000) (disch := omega) only [go_sem, w64, AndB_of, IfB_of, IfB_no, pickE_of, pickE_no, ite_of, ite_no, tdivE, tmodE, takeAll, hH, ei]
    have hK' := hK.congr (h' := upd h x (.live 0 [.int .i64 Q[k].who, .int .i64 Q[k].key, .int .i64 Q[k].kind])) fun j q1 => upd_ne _ _ (by omega)
    refine CallB.law (d_grant (H := upd h x (.live 0 [.int .i64 Q[k].who, .int .i64 Q[k].key, .int .i64 Q[k].kind])) (nx := x + 1) (oid := 3) (ov := 1) ⟨H, Q⟩ xv (.msl i v 3 0 Q.length) Q[k] hK' (fun j hj => by omega) (by rw [upd_ne _ _ (by omega)]; exact hH) (by omega) hun (by simp only; omega)) ?_
    rintro _ H3 n3 ⟨x', u1, u2, u3, u4⟩
    obtain ⟨T1, T2, m1, m2, m3, m4, m5⟩ := u2.ex
    have j2 : H3 2 = .live 0 [.sl 0 true [], .sl 0 true []] := by rw [u3 2 (by omega) (by omega) (by omega), upd_ne _ _ (by omega)]; exact h1
    have hcx' := m1.cells
    have hqe : (Q.eraseIdx k).length = Q.length - 1 := by rw [List.length_eraseIdx_of_lt hk']
    have gl := grantL_len (l := H) (a := Q[k])
    have hme := set_meas (n := Q.length) (m := (Q.eraseIdx k).length) (k := k) (by omega)
    cases m2 with
    | @msl _ _ rest2 ei2 hr2 =>
      change H3 i = .live v (flat GAk.c Q ++ rest2) at ei2
      simp (maxSteps := 4000000) (disch := omega) only [go_sem, w64, AndB_of, IfB_of, IfB_no, pickE_of, pickE_no, ite_of, ite_no, tdivE, tmodE, takeAll, u1, ei2]
      refine CallB.of (c_DeleteAk Q rest2 k hk' ei2) ?_
      rw [← hqe]
      have m1' : HasR false (upd (upd H3 i (.live v (flat GAk.c (Q.eraseIdx k) ++ ([.int .i64 0, .int .i64 0, .int .i64 0] ++ rest2)))) 3 (.live 1 [x', .msl i v 3 0 (Q.eraseIdx k).length])) (grantL H Q[k]) x' T1 := m1.congr fun j hj => by
        have : j ≠ i := fun e => m5 j hj (by simp [e])
        have := m3 j hj
        rw [upd_ne _ _ (by omega), upd_ne _ _ (by assumption)]
      simp (maxSteps := 4000000) (disch := omega) only [go_sem, w64, AndB_of, IfB_of, IfB_no, pickE_of, pickE_no, ite_of, ite_no, tdivE, tmodE, takeAll, u1, upd_same]
      have hSI : RelI tgt 1000000 (upd (upd H3 i (.live v (flat GAk.c (Q.eraseIdx k) ++ ([.int .i64 0, .int .i64 0, .int .i64 0] ++ rest2)))) 3 (.live 1 [x', .msl i v 3 0 (Q.eraseIdx k).length])) n3 0 x' (.msl i v 3 0 (Q.eraseIdx k).length) :=
        ⟨grantL H Q[k], Q.eraseIdx k, ⟨T1, [i], m1', .msl (rest := [.int .i64 0, .int .i64 0, .int .i64 0] ++ rest2) (by rw [upd_ne _ _ (by omega), upd_same]) (fun h => by cases h), fun j hj => by have := m3 j hj; omega, fun j hj => by simp at hj; subst hj; omega, m5⟩, rfl, Nat.zero_le _, by omega, grantL_uniq hun, (settle_go hk' c2).symm.trans hset⟩
      ((repeat' apply And.intro) <;> first | exact hSI | exact hme | exact j2 | (exact Weak.go (by (first | (simp [wkL]; done) | (simp [wkL]; omega))) (fun zi => by first | exact .inl rfl | exact .inr rfl | (simp only [upd]; repeat' split) <;> first | exact hSI | exact hme | exact j2 | exact .inl rfl | exact .inr rfl | (exfalso; omega) | exact .inr (hd _ (by omega)) | (left; subst_vars; exact hH.symm) | (left; subst_vars; rfl) | (left; simp; done) | (left; simp; omega)) (by omega)) | omega | rfl | assumption | exact Flat.nil | exact ⟨_, rfl, rfl, by assumption⟩ | (simp; done) | (simp; omega))
theorem o_LockFreeI (l : GLk) (hn : l.held.length + l.queue.length ≤ 1000000) (w : Int) : ACallD Try.prog 45 [.agg (GLk.c l), .int .i64 w] noH 0 (fun r H' n' => OwnR H' 0 n' (.agg (GLk.c (lockFree l w))) r ∧ slOk 3 r = true) := by
  have e1 := q_LocksOkI l (by omega) (by omega)
  have e2 := q_between w 0 3
  simp only [GLk.c] at e1
  have bad : ∀ h' : AH, (¬ locksOk l ∨ ¬ inR w 0 3) → OwnR h' 0 2 (.agg [asksA (lockFree l w).held, asksA (lockFree l w).queue]) (.agg [.sl 0 true [], .sl 0 true []]) ∧ slOk 3 (.agg [.sl 0 true [], .sl 0 true []]) = true := fun h' hb => by
    rw [lockFree_bad hb]
    exact (Lks.nil (h := h') (lo := 0) (hi := 2)).own
  refine dcall_body mixed Try.func45 _ (by unfold Try.f45; rfl) Try.ntmps45 Try.results45 (by decide) (by simp) ?_
  simp (maxSteps := 4000000) (disch := omega) only [go_sem, w64, AndB_of, IfB_of, IfB_no, pickE_of, pickE_no, ite_of, ite_no, tdivE, tmodE, takeAll, GLk.c]
  apply CallB.q e1
  simp (maxSteps := 4000000) (disch := omega) only [go_sem, w64, AndB_of, IfB_of, IfB_no, pickE_of, pickE_no, ite_of, ite_no, tdivE, tmodE, takeAll]
  refine IfB.dec (fun c1 => ?_) (fun c1 => ?_)
  case refine_2 =>
    simp (maxSteps := 4000000) (disch := omega) only [go_sem, w64, AndB_of, IfB_of, IfB_no, pickE_of, pickE_no, ite_of, ite_no, tdivE, tmodE, takeAll]
    exact bad _ (.inl c1)
  simp (maxSteps := 4000000) (disch := omega) only [go_sem, w64, AndB_of, IfB_of, IfB_no, pickE_of, pickE_no, ite_of, ite_no, tdivE, tmodE, takeAll]
  apply CallB.q e2
  simp (maxSteps := 4000000) (disch := omega) only [go_sem, w64, AndB_of, IfB_of, IfB_no, pickE_of, pickE_no, ite_of, ite_no, tdivE, tmodE, takeAll]
  refine IfB.dec (fun c2 => ?_) (fun c2 => ?_)
  case refine_2 =>
    simp (maxSteps := 4000000) (disch := omega) only [go_sem, w64, AndB_of, IfB_of, IfB_no, pickE_of, pickE_no, ite_of, ite_no, tdivE, tmodE, takeAll]
    exact bad _ (.inr c2)
  have e3 := o_release l c1.1.uniq hn w
  simp only [GLk.c] at e3
  have hlf : lockFree l w = settle (l.held.filter (noW w)) (l.queue.filter (noW w)) 0 := by
    unfold lockFree
    rw [if_neg (by intro e; rcases e with e | e; exact e c1; exact e c2)]
    rfl
  rw [← hlf] at e3
  simp (maxSteps := 4000000) (disch := omega) only [go_sem, w64, AndB_of, IfB_of, IfB_no, pickE_of, pickE_no, ite_of, ite_no, tdivE, tmodE, takeAll]
  refine CallB.freshS (Pict.cons (Pict.pure (by simp [pureL, pureA])) (Pict.cons (Pict.pure rfl) Pict.nil)) e3 fun r H2 n2 hO hs hn2 hH2 => ?_
  obtain ⟨xv, yv, rfl, hL2⟩ := Lks.of (L := lockFree l w) hO hs
  have j1 : H2 1 = .live 0 [.sl 0 true [], .sl 0 true []] := by rw [hH2 1 (by omega)]; rfl
  simp (maxSteps := 4000000) (disch := omega) only [go_sem, w64, AndB_of, IfB_of, IfB_no, pickE_of, pickE_no, ite_of, ite_no, tdivE, tmodE, takeAll, j1, hL2.cells.1, hL2.cells.2]
  exact ⟨(hO.congr fun i a b => upd_ne _ _ (by omega)).mono (by omega) (Nat.le_refl _), hs⟩
end Go.TH
