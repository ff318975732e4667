/-
  TH, part 11: append and copy as operations; all operations together.
-/
import Derived.Test.YtbhibkochjfdfaaTh10
set_option linter.unusedVariables false
set_option linter.unusedSimpArgs false
namespace Go.TH
open Go
section
variable {P : Program} {o : Oper} {E : Operand → AV} {H : AH} {nx : Nat} {p : Prop} {r : AV} {H' : AH} {nx' : Nat}

theorem app_tight {t tx e : TypeId} {i : TypeInfo} {z : Value} (ht : P.underlying t = some (.slice e)) (hinf : P.info? e = some i) (hz : i.zero = some z) (hzs : z.cells.size = i.size) (hsz : i.size ≠ 0) (ty : TypeId)
    {base : Nat} {κ : Cx} (hi : Inv base κ H nx) {n m : Nat} {cells xs : List AV} {v x : Value} (hv : Rep κ.W κ.M κ.F v (.sl n true cells)) {news : List Value}
    (hs : Src P i.size tx x m news κ.W) (hxs : Reps κ news xs) (hm : m ≠ 0) (h1 : (n + m) * i.bytes ≤ 140737488355328) (h2 : n + m ≤ 9223372036854775807) (h3 : n * i.size ≤ cells.length) :
    ∃ κ' w, (Builtin.append_ #[t, tx] ty #[v, x]).run P κ.W = .ok w κ'.W ∧ Rep κ'.W κ'.M κ'.F w (.msl nx 0 i.size 0 (n + m)) ∧ Ext base κ κ' ∧ Inv base κ' (upd H nx (.live 0 (cells.take (n * i.size) ++ xs))) (nx + 1) := by
  obtain ⟨A, c, rfl, hn, htt, hcl⟩ := hv.sl_inv
  have hc : c = n := htt rfl
  subst hc
  have old : ∃ olds : List Value, olds.length = c * i.size ∧ (∀ u ∈ olds, u.oneCell' = true) ∧ Reps κ olds (cells.take (c * i.size)) ∧
      (Builtin.firstCells i.size c (.slice A c c)).run P κ.W.drew = .ok olds.toArray κ.W.drew := by
    rcases hcl with rfl | ⟨ad, vs, rfl, _, hca, hr⟩
    · have hc0 : c = 0 := by
        simp at h3
        rcases Nat.mul_eq_zero.1 (show c * i.size = 0 by omega) with h | h
        · exact h
        · exact absurd h hsz
      subst hc0
      refine ⟨[], by simp, (fun _ h => by cases h), by simpa using Reps.nil κ, ?_⟩
      cases A with
      | none => exact run_firstCells_none _ _ _ _ _
      | some ad => exact run_firstCells_some (P := P) κ.W.drew i.size 0 ad 0 0 [] (by simp) (fun j v h => by simp at h)
    · have hl : (vs.take (c * i.size)).length = c * i.size := by rw [List.length_take, hr.1]; omega
      refine ⟨vs.take (c * i.size), hl, (hca.take _).one, hr.take _, ?_⟩
      exact run_firstCells_some (P := P) κ.W.drew i.size c ad c c _ hl (fun j v hv => ((hca.take _).2 j v hv).1)
  obtain ⟨olds, ho, ho1, hor, hfo⟩ := old
  obtain ⟨rest, cap, hc1, hc2, hrun⟩ := run_append_new ht hinf hz hzs ty κ.W A c c olds ho hfo hs (by omega) h1 h2
  have hid := hi.drew
  have hone : ∀ u ∈ olds ++ news, u.oneCell' = true := by
    intro u hu
    rcases List.mem_append.1 hu with hu | hu
    · exact ho1 u hu
    · exact hs.one u hu
  have hinv := hid.alloc (olds ++ news) rest e _ hone ((hor.append hxs).ev (.drew κ))
  refine ⟨κ.drew.alloc nx (.cells (olds ++ news ++ rest).toArray e), _, hrun, ?_, (Ext.drew base κ).trans (κ.drew.alloc_ext hid _), hinv⟩
  refine .msl _ _ _ _ _ _ κ.W.heap.size (olds ++ news ++ rest).toArray e (0, 0) (by simp [Cx.alloc, Cx.drew]) hc1 (heap_alloc_at κ.drew.W _) ?_
  simp only [List.size_toArray]
  omega

theorem h_append {c : Call} {t tx : TypeId} {s x : AV} (ho : o.op = .call c) (hb : c.callee = .builtin .append) (hty : c.argTypes.toList = [t, tx]) (hargs : c.args.toList.map E = [s, x])
    (h : appA P H nx t tx s x = some (p, r, H', nx')) : HOk P o E H nx p r H' nx' := by
  intro base κ ρ hp hi hρ
  rw [ho] at hρ
  have hall : ∀ y ∈ c.args.toList, Rep κ.W κ.M κ.F (ρ y) (E y) := fun y hy => hρ y (by simp [Op.operands, Call.operands, hb, hy])
  obtain ⟨so, xo, hxo, hse, hxe⟩ : ∃ so xo, c.args.toList = [so, xo] ∧ E so = s ∧ E xo = x := by
    match hq : c.args.toList with
    | [] => rw [hq] at hargs; simp at hargs
    | [_] => rw [hq] at hargs; simp at hargs
    | [so, xo] => rw [hq] at hargs; simp at hargs; exact ⟨so, xo, rfl, hargs.1, hargs.2⟩
    | _ :: _ :: _ :: _ => rw [hq] at hargs; simp at hargs
  have hargs' : c.args = #[so, xo] := by rw [← Array.toArray_toList (xs := c.args), hxo]
  have hty' : c.argTypes = #[t, tx] := by rw [← Array.toArray_toList (xs := c.argTypes), hty]
  have hvs := hall so (by rw [hxo]; simp)
  have hvx := hall xo (by rw [hxo]; simp)
  rw [hse] at hvs
  rw [hxe] at hvx
  have fin : ∀ {v : Value} {W' : World}, (Builtin.append_ #[t, tx] o.type #[ρ so, ρ xo]).run P κ.W = .ok v W' → (execOp ρ o).run P κ.W = .ok (.value v) W' := by
    intro v W' hv
    simp only [execOp, ho, resolve, hb, Sem.run_bind, Sem.run_pure, Result.andThen_ok, invoke, builtin]
    have : (#[so, xo].map ρ) = #[ρ so, ρ xo] := by simp
    rw [hargs', hty', this, hv]
    rfl
  unfold appA at h
  split at h
  · cases h
  · rename_i e sz by' hsl
    split at h
    · rename_i z m xs hz hsrc
      split at h
      · rename_i hzl
        obtain ⟨hu, inf, hinf, hsz, hby⟩ := tySl_spec hsl
        obtain ⟨i, zv, hinf', hzero, hzs, hz1, rfl⟩ := tyZ_spec hz
        rw [hinf] at hinf'
        cases hinf'
        subst hsz
        subst hby
        split at h
        · rename_i id ver sz' off n
          split at h
          · rename_i v cells hl
            cases h
            obtain ⟨rfl, rfl, rfl, h1, h2, h3, h4⟩ := hp
            obtain ⟨news, hsr, hnr⟩ := srcA_spec hi hsrc hzl.2 h3 hvx
            obtain ⟨κ', w, hrun, hrep, hext, hinv⟩ := app_own hu hinf hzero hzs hzl.2 o.type hi hl hvs hsr hnr h1 h2 h4
            exact ⟨κ', _, w, fin hrun, .inl rfl, hrep, hext, hinv⟩
          · cases h
        · rename_i n cells
          split at h
          · rename_i hm
            cases h
            subst hm
            obtain ⟨news, hsr, hnr⟩ := srcA_spec hi hsrc hzl.2 hp hvx
            have hn0 : news = [] := by
              apply List.eq_nil_of_length_eq_zero
              rw [hsr.newsLen]
              simp
            subst hn0
            obtain ⟨A, c', vs', hn, _⟩ := hvs.sl_inv
            refine ⟨κ, _, ρ so, fin ?_, .inl rfl, hvs, .refl _ _, hi⟩
            rw [vs']
            exact run_append_none κ.W t tx o.type e inf hu hinf A n c' (ρ xo) hsr hn
          · rename_i hm
            cases h
            obtain ⟨h1, h2, h3, h4⟩ := hp
            obtain ⟨news, hsr, hnr⟩ := srcA_spec hi hsrc hzl.2 h3 hvx
            obtain ⟨κ', w, hrun, hrep, hext, hinv⟩ := app_tight hu hinf hzero hzs hzl.2 o.type hi hvs hsr hnr hm h1 h2 h4
            exact ⟨κ', _, w, fin hrun, .inl rfl, hrep, hext, hinv⟩
        · cases h
      · cases h
    · cases h

theorem h_copy {c : Call} {t tx : TypeId} {d x : AV} (ho : o.op = .call c) (hb : c.callee = .builtin .copy) (hty : c.argTypes.toList = [t, tx]) (hargs : c.args.toList.map E = [d, x])
    (h : copA P H nx t tx d x = some (p, r, H', nx')) : HOk P o E H nx p r H' nx' := by
  intro base κ ρ hp hi hρ
  rw [ho] at hρ
  have hall : ∀ y ∈ c.args.toList, Rep κ.W κ.M κ.F (ρ y) (E y) := fun y hy => hρ y (by simp [Op.operands, Call.operands, hb, hy])
  obtain ⟨so, xo, hxo, hse, hxe⟩ : ∃ so xo, c.args.toList = [so, xo] ∧ E so = d ∧ E xo = x := by
    match hq : c.args.toList with
    | [] => rw [hq] at hargs; simp at hargs
    | [_] => rw [hq] at hargs; simp at hargs
    | [so, xo] => rw [hq] at hargs; simp at hargs; exact ⟨so, xo, rfl, hargs.1, hargs.2⟩
    | _ :: _ :: _ :: _ => rw [hq] at hargs; simp at hargs
  have hargs' : c.args = #[so, xo] := by rw [← Array.toArray_toList (xs := c.args), hxo]
  have hty' : c.argTypes = #[t, tx] := by rw [← Array.toArray_toList (xs := c.argTypes), hty]
  have hvs := hall so (by rw [hxo]; simp)
  have hvx := hall xo (by rw [hxo]; simp)
  rw [hse] at hvs
  rw [hxe] at hvx
  have fin : ∀ {v : Value} {W' : World}, (Builtin.copy_ #[t, tx] o.type #[ρ so, ρ xo]).run P κ.W = .ok v W' → (execOp ρ o).run P κ.W = .ok (.value v) W' := by
    intro v W' hv
    simp only [execOp, ho, resolve, hb, Sem.run_bind, Sem.run_pure, Result.andThen_ok, invoke, builtin]
    have : (#[so, xo].map ρ) = #[ρ so, ρ xo] := by simp
    rw [hargs', hty', this, hv]
    rfl
  unfold copA at h
  split at h
  · cases h
  · rename_i e sz by' hsl
    split at h
    · rename_i m xs id ver sz' off n hsrc
      split at h
      · rename_i v cells hl
        cases h
        obtain ⟨rfl, rfl, h3, h4⟩ := hp
        obtain ⟨hu, inf, hinf, hsz, hby⟩ := tySl_spec hsl
        subst hsz
        -- what is copied
        have hsrc2 : ∃ ws : List Value, (Builtin.lenOf (ρ xo)).run P κ.W = .ok m κ.W ∧ (Builtin.firstCells inf.size (min m n) (ρ xo)).run P κ.W = .ok ws.toArray κ.W ∧ ws.length = min m n * inf.size ∧ (∀ u ∈ ws, u.oneCell' = true) ∧ Reps κ ws (xs.take (min m n * inf.size)) := by
          have hmn : min m n * inf.size ≤ m * inf.size := Nat.mul_le_mul_right _ (Nat.min_le_left _ _)
          unfold srcA at hsrc
          split at hsrc
          · split at hsrc
            · rename_i s hc
              cases hsrc
              obtain ⟨hts, h1z⟩ := hc
              have vx := hvx.str_inv
              have hr := (byteCells_reps κ s).take (min s.size n * inf.size)
              refine ⟨(byteCells s).take (min s.size n * inf.size), by rw [vx]; rfl, ?_, ?_, ?_, hr⟩
              · rw [vx]
                simp only [Builtin.firstCells, Sem.run_pure]
                congr 1
                apply Array.ext'
                simp only [byteCells, h1z, Nat.mul_one, Array.toList_map, List.map_take]
                congr 1
                simp [ByteArray.extract, ByteArray.copySlice]
              · rw [List.length_take, byteCells_length, h1z]; omega
              · intro u hu
                have := List.mem_of_mem_take hu
                unfold byteCells at this
                obtain ⟨_, _, rfl⟩ := List.mem_map.1 this
                rfl
            · cases hsrc
          · split at hsrc
            · obtain ⟨A, c', vx, hn, hcl⟩ := rdSl_spec hi hsrc hvx
              rcases hcl with rfl | ⟨ad, vs, rfl, hca, hrs⟩
              · have h0 : min m n * inf.size = 0 := by simp at h3; omega
                refine ⟨[], by rw [vx]; rfl, ?_, by simp [h0], (fun _ h => by cases h), by simpa using Reps.nil κ⟩
                rw [vx]
                cases A with
                | none => exact run_firstCells_none _ _ _ _ _
                | some ad => exact run_firstCells_some (P := P) κ.W inf.size (min m n) ad m c' [] (by simp [h0]) (fun j v h => by simp at h)
              · have hl' : (vs.take (min m n * inf.size)).length = min m n * inf.size := by rw [List.length_take, hrs.1]; omega
                refine ⟨vs.take (min m n * inf.size), by rw [vx]; rfl, ?_, hl', (hca.take _).one, hrs.take _⟩
                rw [vx]
                exact run_firstCells_some (P := P) κ.W inf.size (min m n) ad m c' _ hl' (fun j v hv => ((hca.take _).2 j v hv).1)
            · cases hsrc
        obtain ⟨ws, hlen, hfirst, hwl, hw1, hwr⟩ := hsrc2
        rcases hi.msl_inv hl hvs with ⟨b, c', cs, T, fz, vd, hm, hn, hb0, hcap⟩ | ⟨A, b0, vd, hm, hn⟩
        · obtain ⟨hbb, hF, vs, rest, T', hb', hv1, hvr⟩ := hi.place hl hm
          have hmn : min m n * inf.size ≤ n * inf.size := Nat.mul_le_mul_right _ (Nat.min_le_right _ _)
          have hst := run_storeCells_at P b off T' ws 0 (vs ++ rest).toArray κ.W hb' (by have := hvr.1; simp; omega) hw1
          simp only [Nat.add_zero] at hst
          have hsplit : (vs ++ rest).toArray.toList.take off ++ ws ++ (vs ++ rest).toArray.toList.drop (off + ws.length) = (vs.take off ++ ws ++ vs.drop (off + min m n * inf.size)) ++ rest := by
            have := hvr.1
            simp only [List.append_assoc]
            rw [List.take_append_of_le_length (by omega), List.drop_append_of_le_length (by omega), hwl]
          rw [hsplit] at hst
          have hnew : Reps κ (vs.take off ++ ws ++ vs.drop (off + min m n * inf.size)) (cells.take off ++ xs.take (min m n * inf.size) ++ cells.drop (off + min m n * inf.size)) := ((hvr.take off).append hwr).append (hvr.drop _)
          have hll : ((vs.take off ++ ws ++ vs.drop (off + min m n * inf.size)) ++ rest).length = (vs ++ rest).toArray.size := by
            have := hvr.1
            simp
            omega
          have hinv := hi.setRow hl hm hb' hF (vs.take off ++ ws ++ vs.drop (off + min m n * inf.size)) rest hll (fun u hu => by
            simp only [List.mem_append] at hu
            rcases hu with (hu | hu) | hu
            · exact hv1 u (List.mem_of_mem_take hu)
            · exact hw1 u hu
            · exact hv1 u (List.mem_of_mem_drop hu)) hnew
          refine ⟨κ.setRow b _, _, .int .i64 (min m n : Nat), fin ?_, .inl rfl, .int _ _, setRow_ext hb' hF (by simpa using hll) hbb, hinv⟩
          rw [vd]
          have hmin : Nat.min m n = min m n := rfl
          simp [Builtin.copy_, run_underlying hu, hlen, run_sizeOf hinf, hmin, hfirst, hst, goInt, Cx.setRow]
        · subst hn
          have h0 : min m 0 = 0 := by omega
          rw [h0] at hfirst hwl hwr ⊢
          have hws : ws = [] := List.eq_nil_of_length_eq_zero (by simpa using hwl)
          subst hws
          refine ⟨κ, _, .int .i64 (0 : Nat), fin ?_, .inl rfl, .int _ _, .refl _ _, ?_⟩
          · rw [vd]
            have hmin : Nat.min m 0 = 0 := by simp
            cases A <;> simp [Builtin.copy_, run_underlying hu, hlen, run_sizeOf hinf, hmin, hfirst, goInt, storeCells]
          · have : upd H id (.live v (cells.take off ++ xs.take (0 * inf.size) ++ cells.drop (off + 0 * inf.size))) = H := by
              funext j
              by_cases hj : j = id
              · subst hj; rw [upd_same, hl]; simp
              · rw [upd_ne _ _ hj]
            rw [this]
            exact hi
      · cases h
    · cases h
theorem hstep_sound (h : hstep P E H nx o.op = some (p, r, H', nx')) : HOk P o E H nx p r H' nx' := by
  cases ho : o.op with
  | alloc t => exact h_alloc ho h
  | box t x => exact h_box ho h
  | buildSlice t len parts => exact h_buildSlice ho h
  | store t x y => exact h_store ho h
  | makeSlice t l c => exact h_makeSlice ho h
  | convert src dst x => exact h_convert ho h
  | call c =>
    rw [ho] at h
    simp only [hstep] at h
    split at h
    · rename_i t tx s x hb hty hargs
      exact h_append ho hb hty hargs h
    · rename_i t tx d x hb hty hargs
      exact h_copy ho hb hty hargs h
    · cases h
  | _ => rw [ho] at h; simp [hstep] at h
end
end Go.TH
