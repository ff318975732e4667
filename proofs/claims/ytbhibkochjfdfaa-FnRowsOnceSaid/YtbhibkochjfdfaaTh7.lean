/-
  TH, part 7: the other quiet operations; all of them together.
-/
import Derived.Test.YtbhibkochjfdfaaTh6
set_option linter.unusedVariables false
set_option linter.unusedSimpArgs false
namespace Go.TH
open Go
section
variable {P : Program} {o : Oper} {E : Operand → AV} {H : AH} {p : Prop} {r : AV}

theorem q_fieldAddr {t : TypeId} {x : Operand} {j : Nat} (ho : o.op = .fieldAddr t x j) (h : qstep P E H o.op = some (p, r)) : QOk P o E H p r := by
  rw [ho] at h
  simp only [qstep] at h
  intro base nx κ ρ hp hi hρ
  rw [ho] at hρ
  have hx := hρ x (by simp [Op.operands])
  split at h
  · rename_i off n g hf
    split at h
    · rename_i cells e1
      rw [e1] at hx
      cases h
      obtain ⟨ad, vs, vx, hF, hc, hr⟩ := hx.ro_inv
      refine ⟨_, ?_, Rep.ro_mk (ad := ad.add off) (by rw [add_block]; exact hF) (hc.drop off) (hr.drop off)⟩
      simp only [execOp, ho]
      exact run_v (by rw [vx]; exact run_fieldPlace hf ad κ.W)
    · rename_i id ver of e1
      rw [e1] at hx
      split at h
      · rename_i v cells hl
        cases h
        subst hp
        obtain ⟨b, vx, hm⟩ := hi.ptr_inv hl hx
        refine ⟨_, ?_, .ptr id v (of + off) b hm⟩
        simp only [execOp, ho]
        exact run_v (by rw [vx, run_fieldPlace hf _ κ.W, add_lit])
      · cases h
    · cases h
  · cases h
theorem run_part_load {t : TypeId} {g : Bool} {n : Nat} (ht : tyAS P t = some (g, n)) {κ : Cx} {us : List Value} {cells : List AV} (h1 : ∀ u ∈ us, u.oneCell' = true) (hr : Reps κ us cells) {off : Nat} (hp : (loadA cells off (g, n)).1) :
    ∃ v, (part t us.toArray off).run P κ.W = .ok v κ.W ∧ Rep κ.W κ.M κ.F v (loadA cells off (g, n)).2 := by
  obtain ⟨d, i, hd, hi, hg, hn⟩ := tyAS_spec ht
  unfold part
  cases g with
  | true =>
    simp only [loadA] at hp ⊢
    refine ⟨.agg ((us.drop off).take n).toArray, ?_, .agg _ _ ((hr.drop off).take n).1 (fun u hu => h1 u (List.mem_of_mem_drop (List.mem_of_mem_take hu))) ((hr.drop off).take n).2⟩
    simp only [Sem.run_bind, run_isAgg hd, hg, Result.andThen_ok, if_true, run_sizeOf hi, Sem.run_pure, hn]
    congr 2
    apply Array.ext'
    simp
  | false =>
    simp only [loadA] at hp ⊢
    have h0 : cells[off]? = some (cells.getD off .junk) := by simp [List.getD, List.getElem?_eq_getElem hp]
    obtain ⟨v, hv, hrv⟩ := hr.at h0
    refine ⟨v, ?_, hrv⟩
    simp only [Sem.run_bind, run_isAgg hd, hg, Result.andThen_ok, Bool.false_eq_true, if_false, List.getElem?_toArray, hv, Sem.run_pure]
theorem q_field {t : TypeId} {x : Operand} {j : Nat} (ho : o.op = .field t x j) (h : qstep P E H o.op = some (p, r)) : QOk P o E H p r := by
  rw [ho] at h
  simp only [qstep] at h
  intro base nx κ ρ hp hi hρ
  rw [ho] at hρ
  have hx := hρ x (by simp [Op.operands])
  split at h
  · rename_i off n g hf
    split at h
    · rename_i cells e1
      rw [e1] at hx
      rw [Option.some.injEq] at h
      obtain ⟨us, vx, h1, hr⟩ := hx.agg_inv
      obtain ⟨fs, f, hu, hfj, hoff, hn, hty⟩ := tyFld_spec hf
      obtain ⟨v, hrun, hrep⟩ := run_part_load hty h1 hr (off := off) (by rw [h]; exact hp)
      rw [h] at hrep
      refine ⟨v, ?_, hrep⟩
      simp only [execOp, ho]
      exact run_v (by rw [vx]; simp [Instr.field, run_underlying hu, hfj, asAgg, hoff, hrun])
    · cases h
  · cases h
theorem q_indexAddr {t : TypeId} {x i : Operand} (ho : o.op = .indexAddr t x i) (h : qstep P E H o.op = some (p, r)) : QOk P o E H p r := by
  rw [ho] at h
  simp only [qstep] at h
  intro base nx κ ρ hp hi hρ
  rw [ho] at hρ
  have hx := hρ x (by simp [Op.operands])
  have hidx := hρ i (by simp [Op.operands])
  split at h
  · rename_i e sz by' k kk hsl e2
    rw [e2] at hidx
    have vi := hidx.int_inv
    obtain ⟨hu, inf, hinf, hsz, _⟩ := tySl_spec hsl
    have key : ∀ (ad : Addr) (len c : Nat), 0 ≤ kk → kk < len → (Instr.indexAt t (.slice (some ad) len c) (.int k kk)).run P κ.W = .ok (.pointer (some (ad.add (kk.toNat * sz)))) κ.W := by
      intro ad len c h0 h1
      simp [Instr.indexAt, asIntOf, run_underlying hu, h0, h1, run_sizeOf hinf, hsz]
    split at h
    · rename_i n t' cells e1
      rw [e1] at hx
      cases h
      obtain ⟨A, c, vx, hn, _, hc⟩ := hx.sl_inv
      obtain ⟨h0, h1, h2⟩ := hp
      rcases hc with rfl | ⟨ad, vs, rfl, hF, hca, hr⟩
      · simp at h2
      · refine ⟨_, ?_, Rep.ro_mk (ad := ad.add (kk.toNat * sz)) (by rw [add_block]; exact hF) (hca.drop _) (hr.drop _)⟩
        simp only [execOp, ho]
        exact run_v (by rw [vx, vi]; exact key ad n c h0 h1)
    · rename_i id ver sz' off n e1
      rw [e1] at hx
      split at h
      · rename_i v cells hl
        cases h
        obtain ⟨rfl, rfl, h0, h1⟩ := hp
        rcases hi.msl_inv hl hx with ⟨b, c, cs, T, fz, vx, hm, hn, hb, _⟩ | ⟨A, b, vx, hm, hn⟩
        · refine ⟨_, ?_, .ptr id v (off + kk.toNat * sz') b hm⟩
          simp only [execOp, ho]
          exact run_v (by rw [vx, vi, key _ n c h0 h1, add_lit])
        · subst hn
          exact absurd h1 (by omega)
      · cases h
    · cases h
  · cases h
theorem q_index {t : TypeId} {x i : Operand} (ho : o.op = .index t x i) (h : qstep P E H o.op = some (p, r)) : QOk P o E H p r := by
  rw [ho] at h
  simp only [qstep] at h
  intro base nx κ ρ hp hi hρ
  rw [ho] at hρ
  have hx := hρ x (by simp [Op.operands])
  have hidx := hρ i (by simp [Op.operands])
  split at h
  · rename_i s k kk e1 e2
    rw [e1] at hx
    rw [e2] at hidx
    have vx := hx.str_inv
    have vi := hidx.int_inv
    split at h
    · rename_i ht
      cases h
      obtain ⟨h0, h1⟩ := hp
      have hlt : kk.toNat < s.size := by omega
      have hget : s[kk.toNat]? = some (s.data.toList.getD kk.toNat 0) := by
        have hl : kk.toNat < s.data.toList.length := by simpa using hlt
        rw [getElem?_pos s kk.toNat hlt]
        simp only [List.getD, List.getElem?_eq_getElem hl, Option.getD_some, Option.some.injEq]
        rfl
      refine ⟨_, ?_, .int _ _⟩
      simp only [execOp, ho]
      exact run_v (by rw [vx, vi]; simp [Instr.index, asIntOf, run_underlying (tyStr_spec ht), h0, hget])
    · cases h
  · cases h
theorem q_extract {x : Operand} {j : Nat} (ho : o.op = .extract x j) (h : qstep P E H o.op = some (p, r)) : QOk P o E H p r := by
  rw [ho] at h
  simp only [qstep] at h
  intro base nx κ ρ hp hi hρ
  rw [ho] at hρ
  have hx := hρ x (by simp [Op.operands])
  split at h
  · rename_i as e1
    rw [e1] at hx
    cases h
    obtain ⟨vs, vx, hr⟩ := hx.tup_inv
    have h0 : as[j]? = some (as.getD j .junk) := by simp [List.getD, List.getElem?_eq_getElem hp]
    obtain ⟨v, hv, hrv⟩ := hr.at h0
    refine ⟨v, ?_, hrv⟩
    simp only [execOp, ho]
    exact run_v (by rw [vx]; simp [Instr.extract, hv])
  · cases h

/-! ### Slices of slices and of texts -/
theorem optInt_spec {κ : Cx} {E : Operand → AV} {ρ : Operand → Value} {x : Option Operand} {r : Option Int} (h : optInt (x.map E) = some r) (hρ : ∀ y, x = some y → Rep κ.W κ.M κ.F (ρ y) (E y)) :
    (x = none ∧ r = none) ∨ ∃ y k n, x = some y ∧ r = some n ∧ ρ y = .int k n := by
  cases x with
  | none => cases h; exact .inl ⟨rfl, rfl⟩
  | some y =>
    right
    have := hρ y rfl
    simp only [Option.map_some] at h
    cases hE : E y with
    | int k n =>
      rw [hE] at h this
      cases h
      exact ⟨y, k, n, rfl, rfl, this.int_inv⟩
    | _ => rw [hE] at h; cases h
theorem run_sliceBound (k : IntKind) (i : Int) (y : Nat) (code : BoundsCode) (W : World) (h0 : 0 ≤ i) (h1 : i ≤ y) : (Instr.sliceBound (.int k i) y code).run P W = .ok i.toNat W := by
  simp [Instr.sliceBound, asIntOf, h0, h1]
/-- The bounds, worked out. 'len', 'cap': the slice's own. -/
theorem run_sliceBounds {E : Operand → AV} {ρ : Operand → Value} (sl : Bool) (len cap : Nat) (hlc : len ≤ cap) {lo hi mx : Option Operand} {l h m : Option Int} (W : World)
    (hl : (lo = none ∧ l = none) ∨ ∃ y k n, lo = some y ∧ l = some n ∧ ρ y = .int k n) (hh : (hi = none ∧ h = none) ∨ ∃ y k n, hi = some y ∧ h = some n ∧ ρ y = .int k n)
    (hm : (mx = none ∧ m = none) ∨ ∃ y k n, mx = some y ∧ m = some n ∧ ρ y = .int k n) (h1 : 0 ≤ l.getD 0) (h2 : l.getD 0 ≤ h.getD len) (h3 : h.getD len ≤ m.getD len) (h4 : m.getD len ≤ len) (h5 : m ≠ none → h ≠ none) :
    (Instr.sliceBounds sl len cap (lo.map ρ) (hi.map ρ) (mx.map ρ)).run P W = .ok ((l.getD 0).toNat, (h.getD len).toNat, (m.getD cap).toNat) W := by
  rcases hm with ⟨rfl, rfl⟩ | ⟨ym, km, nm, rfl, rfl, vm⟩
  · rcases hh with ⟨rfl, rfl⟩ | ⟨yh, kh, nh, rfl, rfl, vh⟩
    · rcases hl with ⟨rfl, rfl⟩ | ⟨yl, kl, nl, rfl, rfl, vl⟩
      · simp [Instr.sliceBounds]
      · simp only [Option.getD_some, Option.getD_none] at *
        simp [Instr.sliceBounds, vl, run_sliceBound, h1, h2]
    · rcases hl with ⟨rfl, rfl⟩ | ⟨yl, kl, nl, rfl, rfl, vl⟩
      · simp only [Option.getD_some, Option.getD_none] at *
        have : nh ≤ cap := by omega
        simp [Instr.sliceBounds, vh, run_sliceBound, h2, this]
      · simp only [Option.getD_some, Option.getD_none] at *
        have : nh ≤ cap := by omega
        have : 0 ≤ nh := by omega
        have : nl ≤ (nh.toNat : Int) := by omega
        simp only [Instr.sliceBounds, Option.map_none, Option.map_some, vh, vl, Sem.run_bind, Sem.run_pure, Result.andThen_ok]
        rw [run_sliceBound kh nh cap _ W (by omega) (by omega)]
        simp only [Result.andThen_ok]
        rw [run_sliceBound kl nl nh.toNat _ W (by omega) (by omega)]
        simp
  · rcases hh with ⟨rfl, rfl⟩ | ⟨yh, kh, nh, rfl, rfl, vh⟩
    · exact absurd rfl (h5 (by simp))
    · simp only [Option.getD_some] at *
      rcases hl with ⟨rfl, rfl⟩ | ⟨yl, kl, nl, rfl, rfl, vl⟩
      · simp only [Option.getD_some, Option.getD_none] at *
        simp only [Instr.sliceBounds, Option.map_none, Option.map_some, vh, vm, Sem.run_bind, Sem.run_pure, Result.andThen_ok]
        rw [run_sliceBound km nm cap _ W (by omega) (by omega)]
        simp only [Result.andThen_ok]
        rw [run_sliceBound kh nh nm.toNat _ W (by omega) (by omega)]
        simp
      · simp only [Option.getD_some] at *
        simp only [Instr.sliceBounds, Option.map_some, vh, vm, vl, Sem.run_bind, Sem.run_pure, Result.andThen_ok]
        rw [run_sliceBound km nm cap _ W (by omega) (by omega)]
        simp only [Result.andThen_ok]
        rw [run_sliceBound kh nh nm.toNat _ W (by omega) (by omega)]
        simp only [Result.andThen_ok]
        rw [run_sliceBound kl nl nh.toNat _ W (by omega) (by omega)]
        simp

theorem run_slice_sl {t e : TypeId} {inf : TypeInfo} (hu : P.underlying t = some (.slice e)) (hi : P.info? e = some inf) (A : Option Addr) (len cap : Nat) (lo hi' mx : Option Value) (W : World) {l h m : Nat}
    (hb : (Instr.sliceBounds true len cap lo hi' mx).run P W = .ok (l, h, m) W) :
    (Instr.sliceAt t (.slice A len cap) lo hi' mx).run P W = .ok (.slice (if m = l then A else A.map (·.add (l * inf.size))) (h - l) (m - l)) W := by
  simp [Instr.sliceAt, Instr.slice, run_underlying hu, hb, run_sizeOf hi]
theorem run_slice_str {t : TypeId} (hu : P.underlying t = some .string) (s : ByteArray) (lo hi' : Option Value) (W : World) {l h m : Nat}
    (hb : (Instr.sliceBounds false s.size s.size lo hi' none).run P W = .ok (l, h, m) W) :
    (Instr.sliceAt t (.string s) lo hi' none).run P W = .ok (.string (s.extract l h)) W := by
  simp [Instr.sliceAt, Instr.slice, run_underlying hu, hb]
theorem q_slice {t : TypeId} {x : Operand} {lo hi' mx : Option Operand} (ho : o.op = .slice t x lo hi' mx) (h : qstep P E H o.op = some (p, r)) : QOk P o E H p r := by
  rw [ho] at h
  simp only [qstep] at h
  intro base nx κ ρ hp hi hρ
  rw [ho] at hρ
  have hx := hρ x (by simp [Op.operands])
  split at h
  · rename_i l hh m e1 e2 e3
    have sl := optInt_spec (κ := κ) (ρ := ρ) e1 (fun y hy => hρ y (by subst hy; simp [Op.operands]))
    have sh := optInt_spec (κ := κ) (ρ := ρ) e2 (fun y hy => hρ y (by subst hy; simp [Op.operands]))
    have sm := optInt_spec (κ := κ) (ρ := ρ) e3 (fun y hy => hρ y (by subst hy; simp [Op.operands]))
    have fin : ∀ v, (Instr.sliceAt t (ρ x) (lo.map ρ) (hi'.map ρ) (mx.map ρ)).run P κ.W = .ok v κ.W → (execOp ρ o).run P κ.W = .ok (.value v) κ.W := by
      intro v hv
      simp only [execOp, ho]
      exact run_v hv
    split at h
    · rename_i s ex
      rw [ex] at hx
      have vx := hx.str_inv
      split at h
      · rename_i hc
        obtain ⟨ht, rfl⟩ := hc
        rcases sm with ⟨rfl, _⟩ | ⟨_, _, _, _, h', _⟩
        · cases h
          obtain ⟨h0, h1, h2⟩ := hp
          have hb := run_sliceBounds (P := P) (E := E) false s.size s.size (Nat.le_refl _) (mx := none) (m := none) κ.W sl sh (.inl ⟨rfl, rfl⟩) h0 h1 h2 (Int.le_refl _) (by simp)
          refine ⟨_, fin _ ?_, .str _⟩
          rw [vx]
          exact run_slice_str (tyStr_spec ht) s _ _ κ.W hb
        · cases h'
      · cases h
    · split at h
      · rename_i e sz by' hsl
        obtain ⟨hu, inf, hinf, hsz, _⟩ := tySl_spec hsl
        subst hsz
        unfold sliceA at h
        split at h
        · rename_i n t' cells ex
          rw [ex] at hx
          obtain ⟨A, c, vx, hn, htt, hcl⟩ := hx.sl_inv
          -- the cells
          have cellsOk : ∀ (L Hh M : Nat), L ≤ Hh → Hh ≤ M → ((cells.drop (L * inf.size)).take ((Hh - L) * inf.size) = [] ∨ ∃ ad vs, (if M = L then A else A.map (·.add (L * inf.size))) = some ad ∧ κ.F ad.block ∧ CellsAt κ ad vs ∧ Reps κ vs ((cells.drop (L * inf.size)).take ((Hh - L) * inf.size))) := by
            intro L Hh M h1 h2
            by_cases hML : M = L
            · left
              rw [show Hh - L = 0 by omega]
              simp
            · rcases hcl with rfl | ⟨ad, vs, rfl, hF, hca, hr⟩
              · left; simp
              · right
                rw [if_neg hML]
                exact ⟨_, _, rfl, by rw [add_block]; exact hF, (hca.drop _).take _, (hr.drop _).take _⟩
          split at h
          · cases h
            obtain ⟨h0, h1, h2⟩ := hp
            rcases sm with ⟨rfl, _⟩ | ⟨_, _, _, _, h', _⟩
            · have hb := run_sliceBounds (P := P) (E := E) true n c hn (mx := none) (m := none) κ.W sl sh (.inl ⟨rfl, rfl⟩) h0 h1 h2 (Int.le_refl _) (by simp)
              have hrun := run_slice_sl (P := P) hu hinf A n c _ _ _ κ.W hb
              simp only [Option.getD_none, Int.toNat_natCast] at hrun
              have hq := cellsOk (l.getD 0).toNat (hh.getD n).toNat c (by omega) (by omega)
              have hsub : (hh.getD (n : Int) - l.getD 0).toNat = (hh.getD (n : Int)).toNat - (l.getD 0).toNat := by omega
              refine ⟨_, fin _ (by rw [vx]; exact hrun), ?_⟩
              rw [hsub]
              refine Rep.sl_mk (by omega) (fun htr => ?_) hq
              simp only [Bool.and_eq_true, decide_eq_true_eq] at htr
              have := htt htr.1
              omega
            · cases h'
          · rename_i mm
            split at h
            · cases h
            · rename_i hv
              cases h
              obtain ⟨h0, h1, h2, h3⟩ := hp
              have hb := run_sliceBounds (P := P) (E := E) true n c hn κ.W sl sh sm h0 h1 h2 h3 (by simp)
              have hrun := run_slice_sl (P := P) hu hinf A n c _ _ _ κ.W hb
              simp only [Option.getD_some] at hrun
              have hq := cellsOk (l.getD 0).toNat hv.toNat mm.toNat (by omega) (by omega)
              have hsub : (hv - l.getD 0).toNat = hv.toNat - (l.getD 0).toNat := by omega
              refine ⟨_, fin _ (by rw [vx]; exact hrun), ?_⟩
              rw [hsub]
              refine Rep.sl_mk (by omega) (fun htr => ?_) hq
              simp only [decide_eq_true_eq] at htr
              omega
        · rename_i id ver sz' off n ex
          rw [ex] at hx
          split at h
          · cases h
          · rename_i v cells hl
            -- the result, of what the model answers
            have res : ∀ (L Hh M : Nat), v = ver → sz' = inf.size → L ≤ Hh → Hh ≤ n → Hh ≤ M → ∀ A c, ρ x = .slice A n c → M ≤ c → n ≤ c →
                Rep κ.W κ.M κ.F (.slice (if M = L then A else A.map (·.add (L * inf.size))) (Hh - L) (M - L)) (.msl id ver sz' (off + L * inf.size) (Hh - L)) := by
              intro L Hh M e1 e2 h1 h2 h3 A c ev h4 h5
              subst e1
              subst e2
              rcases hi.msl_inv hl hx with ⟨b, c', cs, T, fz, vx, hm, hn', hb, hcap⟩ | ⟨A', b, vx, hm, hn'⟩
              · rw [vx] at ev
                injection ev with ea en ec
                subst ea
                subst ec
                by_cases hML : M = L
                · have : Hh - L = 0 := by omega
                  rw [this, show M - L = 0 by omega]
                  exact .mslNil _ _ _ _ _ _ hm
                · rw [if_neg hML]
                  simp only [Option.map_some, add_lit]
                  refine .msl _ _ _ _ _ _ b cs T fz hm (by omega) hb ?_
                  have : (M - L) * inf.size + L * inf.size ≤ c' * inf.size := by
                    rw [← Nat.add_mul]
                    exact Nat.mul_le_mul_right _ (by omega)
                  omega
              · rw [vx] at ev
                injection ev with ea en ec
                subst en
                have : Hh - L = 0 := by omega
                rw [this, show M - L = 0 by omega]
                exact .mslNil _ _ _ _ _ _ hm
            have shape : v = ver → ∃ A c, ρ x = .slice A n c ∧ n ≤ c := by
              intro e1
              subst e1
              rcases hi.msl_inv hl hx with ⟨b, c', cs, T, fz, vx, hm, hn', hb, hcap⟩ | ⟨A', b, vx, hm, hn'⟩
              · exact ⟨_, c', vx, hn'⟩
              · exact ⟨A', 0, by rw [vx, hn'], by omega⟩
            split at h
            · cases h
              obtain ⟨e1, e2, h0, h1, h2⟩ := hp
              obtain ⟨A, c, vx, hn⟩ := shape e1
              rcases sm with ⟨rfl, _⟩ | ⟨_, _, _, _, h', _⟩
              · have hb := run_sliceBounds (P := P) (E := E) true n c hn (mx := none) (m := none) κ.W sl sh (.inl ⟨rfl, rfl⟩) h0 h1 h2 (Int.le_refl _) (by simp)
                have hrun := run_slice_sl (P := P) hu hinf A n c _ _ _ κ.W hb
                simp only [Option.getD_none, Int.toNat_natCast] at hrun
                have hsub : (hh.getD (n : Int) - l.getD 0).toNat = (hh.getD (n : Int)).toNat - (l.getD 0).toNat := by omega
                refine ⟨_, fin _ (by rw [vx]; exact hrun), ?_⟩
                rw [hsub, e2]
                have := res (l.getD 0).toNat (hh.getD (n : Int)).toNat c e1 e2 (by omega) (by omega) (by omega) A c vx (by omega) hn
                rwa [e2] at this
              · cases h'
            · rename_i mm
              split at h
              · cases h
              · rename_i hv
                cases h
                obtain ⟨e1, e2, h0, h1, h2, h3⟩ := hp
                obtain ⟨A, c, vx, hn⟩ := shape e1
                have hb := run_sliceBounds (P := P) (E := E) true n c hn κ.W sl sh sm h0 h1 h2 h3 (by simp)
                have hrun := run_slice_sl (P := P) hu hinf A n c _ _ _ κ.W hb
                simp only [Option.getD_some] at hrun
                have hsub : (hv - l.getD 0).toNat = hv.toNat - (l.getD 0).toNat := by omega
                refine ⟨_, fin _ (by rw [vx]; exact hrun), ?_⟩
                rw [hsub, e2]
                have := res (l.getD 0).toNat hv.toNat mm.toNat e1 e2 (by omega) (by omega) (by omega) A c vx (by omega) hn
                rwa [e2] at this
        · cases h
      · cases h
  · cases h
end
end Go.TH
