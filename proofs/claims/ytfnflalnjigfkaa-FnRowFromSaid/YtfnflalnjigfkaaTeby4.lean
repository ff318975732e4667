/- TH: bytes of one's own, the draw of bytes. Made by gen.py. -/
import Derived.Test.YtfnflalnjigfkaaTf3
import Derived.Test.YtfnflalnjigfkaaTeby3
import Derived.Test.YtfnflalnjigfkaaTed5
import Derived.Test.YtfnflalnjigfkaaTen
import Derived.Test.YtfnflalnjigfkaaTf4
namespace Go.TH
open Go Go.Proofs
set_option linter.unusedSimpArgs false
set_option linter.unusedVariables false
set_option maxHeartbeats 20000000
set_option maxRecDepth 100000
theorem OwnR.bys {H : AH} {lo hi : Nat} {b : List UInt8} {R : AV} (h : OwnR H lo hi (bysA b) R) (hs : slOk 1 R = true) : (∃ id v, R = .msl id v 1 0 b.length ∧ H id = .live v (bts b) ∧ lo ≤ id ∧ id < hi) ∨ (R = .sl 0 true [] ∧ b = []) := by
  obtain ⟨S, hO, hN, hr⟩ := h
  unfold bysA at hO
  rw [bts_flat] at hO
  rcases OwnL.flatS (c := cB) (fun _ => rfl) (fun a p hp => by simp [cB] at hp; subst hp; rfl) hO hs with ⟨id, ver, rfl, e, rfl⟩ | ⟨rfl, e, rfl⟩ | e
  · exact .inl ⟨id, ver, rfl, by rw [bts_flat]; exact e, (hr id (by simp)).1, (hr id (by simp)).2⟩
  · exact .inr ⟨rfl, e⟩
  · cases e
theorem o_RowBytesS (r : GRow) (hl : r.length ≤ 1048576) (hs : ∀ v ∈ r, v.s.size ≤ 140737488355328) : ACallD Try.prog 23 [rowA r] noH 0 (fun R H' n' => OwnR H' 0 n' (bysA (rowB r)) R ∧ slOk 1 R = true) := by
  refine dcall_body mixed Try.func23 _ (by unfold Try.f23; rfl) Try.ntmps23 Try.results23 (by decide) (by simp) ?_
  simp (maxSteps := 4000000) (disch := omega) only [go_sem, w64, AndB_of, IfB_of, IfB_no, pickE_of, pickE_no, ite_of, ite_no, tdivE, tmodE, takeAll]
  apply CallB.q (q_RowOkS r hl (fun v hv => by have := hs v hv; omega))
  simp (maxSteps := 4000000) (disch := omega) only [go_sem, w64, AndB_of, IfB_of, IfB_no, pickE_of, pickE_no, ite_of, ite_no, tdivE, tmodE, takeAll]
  refine IfB.dec (fun c => ?_) (fun c => ?_)
  case refine_2 =>
    simp (maxSteps := 4000000) (disch := omega) only [go_sem, w64, AndB_of, IfB_of, IfB_no, pickE_of, pickE_no, ite_of, ite_no, tdivE, tmodE, takeAll]
    rw [show rowB r = [] from if_neg c]
    exact ⟨⟨[0], .sl (upd_same ..) rfl (OwnL.ofPlain fun a ha => by rw [bts_nil] at ha; cases ha) .nil (by simp), by simp, fun i hi => by simp at hi; omega⟩, rfl⟩
  rw [show rowB r = u8i r.length :: rowBy r from if_pos c]
  have h4 := c.1
  unfold rowA
  simp (maxSteps := 4000000) (disch := omega) only [go_sem, w64, AndB_of, IfB_of, IfB_no, pickE_of, pickE_no, ite_of, ite_no, tdivE, tmodE, takeAll, u8i_cell]
  refine LoopB.auto (fun zs => (nxOf zs, (intOf (slotOf zs 4)).toNat, verOf (blkOf zs (0)), cellsOf (blkOf zs (0)), mlenOf (slotOf zs 3))) (fun zz => [(0, none), (2, some (.msl 0 zz.2.2.1 1 0 zz.2.2.2.2)), (0, some (.int .i64 (zz.2.1 : Int)))]) (fun zz => upd noH 0 (.live zz.2.2.1 zz.2.2.2.1)) (fun zz => zz.1) (fun zz => r.length - zz.2.1) (fun zz => zz.2.1 ≤ r.length ∧ 0 < zz.1 ∧ zz.2.2.2.1 = bts (u8i r.length :: rowBy (r.take zz.2.1)) ∧ zz.2.2.2.2 = (u8i r.length :: rowBy (r.take zz.2.1)).length) (by (first | simp (maxSteps := 4000000) (disch := omega) only [go_sem, w64, AndB_of, IfB_of, IfB_no, pickE_of, pickE_no, ite_of, ite_no, tdivE, tmodE, takeAll, hH] | simp (maxSteps := 4000000) (disch := omega) only [go_sem, w64, AndB_of, IfB_of, IfB_no, pickE_of, pickE_no, ite_of, ite_no, tdivE, tmodE, takeAll]); ((repeat' apply And.intro) <;> first | exact rfl | (exact Weak.go (by (first | (simp [wkL]; done) | (simp [wkL]; omega))) (fun zi => by first | exact .inl rfl | exact .inr rfl | (simp only [upd]; repeat' split) <;> first | exact rfl | exact .inl rfl | exact .inr rfl | (exfalso; omega) | exact .inr (hd _ (by omega)) | (left; subst_vars; exact hH.symm) | (left; subst_vars; rfl) | (left; simp; done) | (left; simp; omega)) (by omega)) | omega | rfl | assumption | exact Flat.nil | exact ⟨_, rfl, rfl, by assumption⟩ | (simp; done) | (simp; omega))) ?_
  intro zz zh
  obtain ⟨x, k, v, cells, m⟩ := zz
  dsimp only at zh
  obtain ⟨hk, hx, hc, hm⟩ := zh
  simp (maxSteps := 4000000) (disch := omega) only [go_sem, w64, AndB_of, IfB_of, IfB_no, pickE_of, pickE_no, ite_of, ite_no, tdivE, tmodE, takeAll]
  have hlen : cells.length = m := by rw [hc, bts_len, hm]
  have hm2 : m ≤ 1 + 8 * k := by
    have := rowBy_len (r.take k)
    rw [len_take hk] at this
    rw [hm, List.length_cons]
    omega
  refine IfB.dec (fun h1 => ?_) (fun h1 => ?_)
  · have h1' : k < List.length r := by omega
    have hst := rowBy_step h1'
    have hvl := vB_len (v := r[k])
    have hcs : bts (u8i r.length :: rowBy (r.take (k + 1))) = cells ++ bts (vB r[k]) := by rw [hst, hc, ← bts_app]; rfl
    have hms : (u8i r.length :: rowBy (r.take (k + 1))).length = m + (vB r[k]).length := by rw [hst, hm]; simp; omega
    simp (maxSteps := 4000000) (disch := omega) only [go_sem, w64, AndB_of, IfB_of, IfB_no, pickE_of, pickE_no, ite_of, ite_no, tdivE, tmodE, takeAll]
    apply CallB.q (q_ValueBytesS r[k] (hs _ (List.getElem_mem h1')))
    unfold bysA
    simp (maxSteps := 4000000) (disch := omega) only [go_sem, w64, AndB_of, IfB_of, IfB_no, pickE_of, pickE_no, ite_of, ite_no, tdivE, tmodE, takeAll]
    ((repeat' apply And.intro) <;> first | exact hcs.symm | exact hms.symm | (exact Weak.go (by (first | (simp [wkL]; done) | (simp [wkL]; omega))) (fun zi => by first | exact .inl rfl | exact .inr rfl | (simp only [upd]; repeat' split) <;> first | exact hcs.symm | exact hms.symm | exact .inl rfl | exact .inr rfl | (exfalso; omega) | exact .inr (hd _ (by omega)) | (left; subst_vars; exact hH.symm) | (left; subst_vars; rfl) | (left; simp; done) | (left; simp; omega)) (by omega)) | omega | rfl | assumption | exact Flat.nil | exact ⟨_, rfl, rfl, by assumption⟩ | (simp; done) | (simp; omega))
  · obtain rfl : k = List.length r := by omega
    rw [List.take_length] at hc hm
    simp (maxSteps := 4000000) (disch := omega) only [go_sem, w64, AndB_of, IfB_of, IfB_no, pickE_of, pickE_no, ite_of, ite_no, tdivE, tmodE, takeAll]
    subst hc hm
    exact ⟨⟨[0], .sl (upd_same ..) (by rw [bts_len]; simp) (OwnL.ofPlain fun a ha => by obtain ⟨b, _, rfl⟩ := List.mem_map.1 ha; rfl) .nil (by simp), by simp, fun i hi => by simp at hi; omega⟩, rfl⟩
theorem bts_set (l : List UInt8) {i : Nat} (n : Int) : (bts l).set i (.int .u8 (IntKind.u8.wrap n)) = bts (l.set i (u8i n)) := by
  rw [u8i_cell]; simp [bts, List.map_set]
theorem fin_bys {H : AH} {l : List UInt8} {x : UInt8} {n : Nat} (hn : n = l.length + 1) : AV.sl n false (((bts l ++ [AV.int .u8 x.toNat]).take n).map (snapA 0 H)) = bysA (l ++ [x]) := by
  have e : bts l ++ [AV.int .u8 x.toNat] = bts (l ++ [x]) := by rw [bts_app]; rfl
  have e2 : (l ++ [x]).length = n := by simp [hn]
  rw [e, takeAll (by rw [bts_len, e2]; exact Nat.le_refl _), bts_snap]
  unfold bysA
  rw [e2]
theorem x_DrawRowFrom (s : ByteArray) : ∃ R, (∃ l : List UInt8, l.length ≤ 42 ∧ R = bysA l) ∧ QCall Try.prog 44 [.sl s.size false (bytesCells s)] R := by
  refine qex_of (by simp [pureL, pureA, bytesCells_pure]) 1 ?_
  refine dcall_body mixed Try.func44 _ (by unfold Try.f44; rfl) Try.ntmps44 Try.results44 (by decide) (by simp) ?_
  simp (maxSteps := 4000000) (disch := omega) only [go_sem, w64, AndB_of, IfB_of, IfB_no, pickE_of, pickE_no, ite_of, ite_no, tdivE, tmodE, takeAll]
  apply CallB.law; (focus (apply d_open; (repeat (first | exact hH | exact upd_same _ _ _ | rw [upd_ne _ _ (by omega)])); all_goals omega)); rintro _ _ _ ⟨bs, hbs, rfl, rfl, rfl⟩
  simp (maxSteps := 4000000) (disch := omega) only [go_sem, w64, AndB_of, IfB_of, IfB_no, pickE_of, pickE_no, ite_of, ite_no, tdivE, tmodE, takeAll]
  apply CallB.law; (focus (apply d_any; omega; (repeat (first | exact hH | exact upd_same _ _ _ | rw [upd_ne _ _ (by omega)])); (first | exact fun i hi => hd i (by omega) | (intro i hi; repeat (first | exact hd i (by omega) | exact rfl | rw [upd_ne _ _ (by omega)]))); all_goals omega)); rintro _ _ _ ⟨row, q, hq0, hq1, hr1, hr2, rfl, rfl, rfl⟩
  simp (maxSteps := 4000000) (disch := omega) only [go_sem, w64, AndB_of, IfB_of, IfB_no, pickE_of, pickE_no, ite_of, ite_no, tdivE, tmodE, takeAll]
  refine CallB.freshS (z := 1) (Pict.pure (by simp)) (o_RowBytesS row (by omega) (fun v h => by have := (hr2 v h).1; omega)) fun R H2 n2 hO hs hn hH => ?_
  have b0 : H2 0 = .live 0 [.sl bs.size false (bytesCells bs), .int .i64 (q)] := by rw [hH 0 (by omega)]; exact upd_same ..
  have hbl := rowB_len row
  obtain ⟨b, hb⟩ : ∃ b, b = rowB row := ⟨_, rfl⟩
  rw [← hb] at hO hbl
  rcases hO.bys hs with ⟨id, v, rfl, e, hlo, hhi⟩ | ⟨rfl, rfl⟩
  · simp (maxSteps := 4000000) (disch := omega) only [go_sem, w64, AndB_of, IfB_of, IfB_no, pickE_of, pickE_no, ite_of, ite_no, tdivE, tmodE, takeAll, b0, e]
    refine IfB.dec (fun h1 => ?_) (fun h1 => ?_)
    · simp (maxSteps := 4000000) (disch := omega) only [go_sem, w64, AndB_of, IfB_of, IfB_no, pickE_of, pickE_no, ite_of, ite_no, tdivE, tmodE, takeAll]
      refine CallB.law (d_pick (p := q) b0 (by omega) (by omega) hbs (by omega) (by omega)) ?_
      rintro _ _ mx ⟨x, hx0, hx1, rfl, rfl, rfl⟩
      simp (maxSteps := 4000000) (disch := omega) only [go_sem, w64, AndB_of, IfB_of, IfB_no, pickE_of, pickE_no, ite_of, ite_no, tdivE, tmodE, takeAll, e]
      obtain ⟨H3, hH3⟩ : ∃ H3, H3 = upd H2 0 (.live 0 [.sl bs.size false (bytesCells bs), .int .i64 (q+1)]) := ⟨_, rfl⟩
      rw [← hH3]
      have c0 : H3 0 = .live 0 [.sl bs.size false (bytesCells bs), .int .i64 (q+1)] := by rw [hH3, upd_same]
      have ce : H3 id = .live v (bts b) := by rw [hH3, upd_ne _ _ (by omega), e]
      clear hH3
      refine IfB.dec (fun h2 => ?_) (fun h2 => ?_)
      · simp (maxSteps := 4000000) (disch := omega) only [go_sem, w64, AndB_of, IfB_of, IfB_no, pickE_of, pickE_no, ite_of, ite_no, tdivE, tmodE, takeAll, ce]
        refine CallB.law (d_pick (p := q + 1) c0 (by omega) (by omega) hbs (by omega) (by omega)) ?_
        rintro _ _ my ⟨y, hy0, hy1, rfl, rfl, rfl⟩
        have hy2 := hy1 (by omega)
        simp (maxSteps := 4000000) (disch := omega) only [go_sem, w64, AndB_of, IfB_of, IfB_no, pickE_of, pickE_no, ite_of, ite_no, tdivE, tmodE, takeAll]
        refine CallB.law (d_pick (p := q + 1 + 1) (upd_same ..) (by omega) (by omega) hbs (by omega) (by omega)) ?_
        rintro _ _ mz ⟨z, hz0, hz1, rfl, rfl, rfl⟩
        obtain ⟨b3, hb3⟩ : ∃ b3, b3 = b.take y.toNat ++ [u8i z] ++ b.drop (y.toNat + 1) := ⟨_, rfl⟩
        have hl3 : b3.length = b.length := by rw [hb3]; simp; omega
        have hc3 : bts (b.take y.toNat) ++ [AV.int .u8 (IntKind.u8.wrap z)] ++ bts (b.drop (y.toNat + 1)) = bts b3 := by rw [hb3, bts_app, bts_app, u8i_cell]; rfl
        simp (maxSteps := 4000000) (disch := omega) only [go_sem, w64, AndB_of, IfB_of, IfB_no, pickE_of, pickE_no, ite_of, ite_no, tdivE, tmodE, takeAll, ce, hc3]
        obtain ⟨H4, hH4⟩ : ∃ H4, H4 = upd (upd H3 0 (.live 0 [.sl bs.size false (bytesCells bs), .int .i64 (q+1+1+1)])) id (.live v (bts b3)) := ⟨_, rfl⟩
        rw [← hH4]
        have d0 : H4 0 = .live 0 [.sl bs.size false (bytesCells bs), .int .i64 (q+1+1+1)] := by rw [hH4, upd_ne _ _ (by omega), upd_same]
        have de : H4 id = .live v (bts b3) := by rw [hH4, upd_same]
        clear hH4
        refine CallB.law (d_pick (p := q + 1 + 1 + 1) d0 (by omega) (by omega) hbs (by omega) (by omega)) ?_
        rintro _ _ mw ⟨w, hw0, hw1, rfl, rfl, rfl⟩
        simp (maxSteps := 4000000) (disch := omega) only [go_sem, w64, AndB_of, IfB_of, IfB_no, pickE_of, pickE_no, ite_of, ite_no, tdivE, tmodE, takeAll, de]
        refine IfB.dec (fun h3 => ?_) (fun h3 => ?_)
        · simp (maxSteps := 4000000) (disch := omega) only [go_sem, w64, AndB_of, IfB_of, IfB_no, pickE_of, pickE_no, ite_of, ite_no, tdivE, tmodE, takeAll, de]
          refine CallB.law (d_pick (p := q + 1 + 1 + 1 + 1) (upd_same ..) (by omega) (by omega) hbs (by omega) (by omega)) ?_
          rintro _ _ mt ⟨t, ht0, ht1, rfl, rfl, rfl⟩
          have ht2 := ht1 (by omega)
          have htl : (List.take (t - 0).toNat b3).length = (t - 0).toNat := by rw [List.length_take]; omega
          simp (maxSteps := 4000000) (disch := omega) only [go_sem, w64, AndB_of, IfB_of, IfB_no, pickE_of, pickE_no, ite_of, ite_no, tdivE, tmodE, takeAll, de, htl]
          refine CallB.law (d_pick (p := q + 1 + 1 + 1 + 1 + 1) (by rw [upd_ne _ _ (by omega), upd_same]) (by omega) (by omega) hbs (by omega) (by omega)) ?_
          rintro _ _ mu ⟨u, hu0, hu1, rfl, rfl, rfl⟩
          simp (maxSteps := 4000000) (disch := omega) only [go_sem, w64, AndB_of, IfB_of, IfB_no, pickE_of, pickE_no, ite_of, ite_no, tdivE, tmodE, takeAll, de, u8i_cell]
          exact ⟨b3.take (t - 0).toNat ++ [u8i u], by simp; omega, fin_bys (by rw [htl])⟩
        · simp (maxSteps := 4000000) (disch := omega) only [go_sem, w64, AndB_of, IfB_of, IfB_no, pickE_of, pickE_no, ite_of, ite_no, tdivE, tmodE, takeAll, de]
          refine CallB.law (d_pick (p := q + 1 + 1 + 1 + 1) (by rw [upd_ne _ _ (by omega), upd_same]) (by omega) (by omega) hbs (by omega) (by omega)) ?_
          rintro _ _ mu ⟨u, hu0, hu1, rfl, rfl, rfl⟩
          simp (maxSteps := 4000000) (disch := omega) only [go_sem, w64, AndB_of, IfB_of, IfB_no, pickE_of, pickE_no, ite_of, ite_no, tdivE, tmodE, takeAll, de, u8i_cell]
          exact ⟨b3 ++ [u8i u], by simp; omega, fin_bys (by omega)⟩
      · simp (maxSteps := 4000000) (disch := omega) only [go_sem, w64, AndB_of, IfB_of, IfB_no, pickE_of, pickE_no, ite_of, ite_no, tdivE, tmodE, takeAll, ce]
        refine CallB.law (d_pick (p := q + 1) c0 (by omega) (by omega) hbs (by omega) (by omega)) ?_
        rintro _ _ mw ⟨w, hw0, hw1, rfl, rfl, rfl⟩
        simp (maxSteps := 4000000) (disch := omega) only [go_sem, w64, AndB_of, IfB_of, IfB_no, pickE_of, pickE_no, ite_of, ite_no, tdivE, tmodE, takeAll, ce]
        refine IfB.dec (fun h3 => ?_) (fun h3 => ?_)
        · simp (maxSteps := 4000000) (disch := omega) only [go_sem, w64, AndB_of, IfB_of, IfB_no, pickE_of, pickE_no, ite_of, ite_no, tdivE, tmodE, takeAll, ce]
          refine CallB.law (d_pick (p := q + 1 + 1) (upd_same ..) (by omega) (by omega) hbs (by omega) (by omega)) ?_
          rintro _ _ mt ⟨t, ht0, ht1, rfl, rfl, rfl⟩
          have ht2 := ht1 (by omega)
          have htl : (List.take (t - 0).toNat b).length = (t - 0).toNat := by rw [List.length_take]; omega
          simp (maxSteps := 4000000) (disch := omega) only [go_sem, w64, AndB_of, IfB_of, IfB_no, pickE_of, pickE_no, ite_of, ite_no, tdivE, tmodE, takeAll, ce, htl]
          refine CallB.law (d_pick (p := q + 1 + 1 + 1) (by rw [upd_ne _ _ (by omega), upd_same]) (by omega) (by omega) hbs (by omega) (by omega)) ?_
          rintro _ _ mu ⟨u, hu0, hu1, rfl, rfl, rfl⟩
          simp (maxSteps := 4000000) (disch := omega) only [go_sem, w64, AndB_of, IfB_of, IfB_no, pickE_of, pickE_no, ite_of, ite_no, tdivE, tmodE, takeAll, ce, u8i_cell]
          exact ⟨b.take (t - 0).toNat ++ [u8i u], by simp; omega, fin_bys (by rw [htl])⟩
        · simp (maxSteps := 4000000) (disch := omega) only [go_sem, w64, AndB_of, IfB_of, IfB_no, pickE_of, pickE_no, ite_of, ite_no, tdivE, tmodE, takeAll, ce]
          refine CallB.law (d_pick (p := q + 1 + 1) (by rw [upd_ne _ _ (by omega), upd_same]) (by omega) (by omega) hbs (by omega) (by omega)) ?_
          rintro _ _ mu ⟨u, hu0, hu1, rfl, rfl, rfl⟩
          simp (maxSteps := 4000000) (disch := omega) only [go_sem, w64, AndB_of, IfB_of, IfB_no, pickE_of, pickE_no, ite_of, ite_no, tdivE, tmodE, takeAll, ce, u8i_cell]
          exact ⟨b ++ [u8i u], by simp; omega, fin_bys (by omega)⟩
    · simp (maxSteps := 4000000) (disch := omega) only [go_sem, w64, AndB_of, IfB_of, IfB_no, pickE_of, pickE_no, ite_of, ite_no, tdivE, tmodE, takeAll, e]
      refine CallB.law (d_pick (p := q) (by rw [upd_ne _ _ (by omega), b0]) (by omega) (by omega) hbs (by omega) (by omega)) ?_
      rintro _ _ mu ⟨u, hu0, hu1, rfl, rfl, rfl⟩
      simp (maxSteps := 4000000) (disch := omega) only [go_sem, w64, AndB_of, IfB_of, IfB_no, pickE_of, pickE_no, ite_of, ite_no, tdivE, tmodE, takeAll, e, u8i_cell]
      exact ⟨b ++ [u8i u], by simp; omega, fin_bys (by omega)⟩
  · simp (maxSteps := 4000000) (disch := omega) only [go_sem, w64, AndB_of, IfB_of, IfB_no, pickE_of, pickE_no, ite_of, ite_no, tdivE, tmodE, takeAll, b0]
    refine CallB.law (d_pick (p := q) (by rw [upd_ne _ _ (by omega), b0]) (by omega) (by omega) hbs (by omega) (by omega)) ?_
    rintro _ _ mu ⟨u, hu0, hu1, rfl, rfl, rfl⟩
    simp (maxSteps := 4000000) (disch := omega) only [go_sem, w64, AndB_of, IfB_of, IfB_no, pickE_of, pickE_no, ite_of, ite_no, tdivE, tmodE, takeAll, u8i_cell]
    exact ⟨[u8i u], by simp, rfl⟩
end Go.TH
