/-
  TH, part 6: the quiet operations are what the model does.
-/
import Derived.Test.YtbhibkochjfdfaaTh5
set_option linter.unusedVariables false
set_option linter.unusedSimpArgs false
namespace Go.TH
open Go

/-- An operation that leaves the world alone answers this. -/
def QOk (P : Program) (o : Oper) (E : Operand → AV) (H : AH) (p : Prop) (r : AV) : Prop :=
  ∀ {base nx : Nat} {κ : Cx} {ρ : Operand → Value}, p → Inv base κ H nx → (∀ x ∈ o.op.operands.toList, Rep κ.W κ.M κ.F (ρ x) (E x)) →
    ∃ v, (execOp ρ o).run P κ.W = .ok (.value v) κ.W ∧ Rep κ.W κ.M κ.F v r

section
variable {P : Program} {o : Oper} {E : Operand → AV} {H : AH} {p : Prop} {r : AV}

theorem run_v {s : Sem Value} {W W' : World} {v : Value} (h : s.run P W = .ok v W') : (do pure (Next.value (← s)) : Sem Next).run P W = .ok (.value v) W' := by
  simp [Sem.run_bind, h]

theorem q_move {x : Operand} (ho : o.op = .move x) (h : qstep P E H o.op = some (p, r)) : QOk P o E H p r := by
  rw [ho] at h
  cases h
  intro base nx κ ρ hp hi hρ
  rw [ho] at hρ
  exact ⟨ρ x, by simp [execOp, ho], hρ x (by simp [Op.operands])⟩
theorem q_assign {x : Operand} (ho : o.op = .assign x) (h : qstep P E H o.op = some (p, r)) : QOk P o E H p r := by
  rw [ho] at h
  cases h
  intro base nx κ ρ hp hi hρ
  rw [ho] at hρ
  exact ⟨ρ x, by simp [execOp, ho], hρ x (by simp [Op.operands])⟩
theorem q_pick {c a b : Operand} (ho : o.op = .pick c a b) (h : qstep P E H o.op = some (p, r)) : QOk P o E H p r := by
  rw [ho] at h
  simp only [qstep] at h
  split at h
  · rename_i q hq
    cases h
    intro base nx κ ρ hp hi hρ
    rw [ho] at hρ
    have hc := hρ c (by simp [Op.operands])
    rw [hq] at hc
    have hc := hc.bool_inv
    refine ⟨if q then ρ a else ρ b, ?_, ?_⟩
    · cases q <;> simp [execOp, ho, hc, asBool, Sem.run_bind]
    · cases q
      · exact hρ b (by simp [Op.operands])
      · exact hρ a (by simp [Op.operands])
  · cases h
theorem q_build {t : TypeId} {parts : Array (Nat × Operand)} (ho : o.op = .build t parts) (h : qstep P E H o.op = some (p, r)) : QOk P o E H p r := by
  rw [ho] at h
  simp only [qstep] at h
  split at h
  · rename_i z places hz hpl
    cases hf : fillA H places z (parts.toList.map fun x => (x.1, E x.2)) with
    | none => rw [hf] at h; cases h
    | some cs =>
      rw [hf] at h
      cases h
      intro base nx κ ρ hp hi hρ
      rw [ho] at hρ
      unfold tyZ at hz
      split at hz
      · rename_i i hinfo
        split at hz
        · rename_i zv hzero
          split at hz
          · rename_i hall
            cases hz
            simp only [Bool.and_eq_true, beq_iff_eq] at hall
            unfold tyFs at hpl
            split at hpl
            · rename_i fields hu
              obtain ⟨ws, hw, hw1, hw2⟩ := fill_spec hi places (parts.toList.map fun x => (x.1, E x.2)) (parts.toList.map fun x => (x.1, ρ x.2)) _ cs zv.cells.toList (by simp)
                (fun j p q hp1 hq1 => by
                  rw [List.getElem?_map] at hp1 hq1
                  cases hj : parts.toList[j]? with
                  | none => rw [hj] at hp1; cases hp1
                  | some x =>
                    rw [hj] at hp1 hq1
                    cases hp1
                    cases hq1
                    exact ⟨rfl, hρ x.2 (by simp only [Op.operands, List.mem_map]; exact ⟨x, List.mem_of_getElem? hj, rfl⟩)⟩)
                (fun u hu => (Array.all_eq_true_iff_forall_mem.1 hall.1) u (by simpa using hu)) (cst_reps κ _) hf
              refine ⟨.agg ws.toArray, ?_, .agg _ _ hw2.1 hw1 hw2.2⟩
              have hb : P.built t (parts.map fun x => (x.1, ρ x.2)).toList = some ws.toArray := by
                unfold Program.built
                simp only [hinfo, hu, hzero, hpl]
                rw [← hw]
                simp
              have := run_build (P := P) κ.W t _ _ hb
              simp only [execOp, ho]
              exact run_v this
            · cases hpl
          · cases hz
        · cases hz
      · cases hz
  · cases h
theorem q_load {t : TypeId} {x : Operand} (ho : o.op = .load t x) (h : qstep P E H o.op = some (p, r)) : QOk P o E H p r := by
  rw [ho] at h
  simp only [qstep] at h
  split at h
  · rename_i s hs
    obtain ⟨g, n⟩ := s
    split at h
    · rename_i cells hx
      rw [Option.some.injEq] at h
      intro base nx κ ρ hp hi hρ
      rw [ho] at hρ
      have hx' := hρ x (by simp [Op.operands])
      rw [hx] at hx'
      obtain ⟨ad, vs, hv, _, hc, hr⟩ := hx'.ro_inv
      have h1 : (loadA cells 0 (g, n)).1 := by rw [h]; exact hp
      obtain ⟨v, hrun, hrep⟩ := run_load_cells hs hc hr h1
      rw [h] at hrep
      refine ⟨v, ?_, hrep⟩
      simp only [execOp, ho]
      exact run_v (by simp [Instr.loadAt, hv, Instr.sureAddr, Sem.run_bind, hrun])
    · rename_i id ver off hx
      split at h
      · rename_i ver' cells hl
        cases h
        intro base nx κ ρ hp hi hρ
        rw [ho] at hρ
        obtain ⟨rfl, hp⟩ := hp
        have hx' := hρ x (by simp [Op.operands])
        rw [hx] at hx'
        obtain ⟨b, vs, hv, hc, hr⟩ := hi.ptr_cells hl hx'
        have hd := loadA_drop cells off (g, n) hp
        obtain ⟨v, hrun, hrep⟩ := run_load_cells hs hc (hr.drop off) hd.1
        rw [hd.2] at hrep
        refine ⟨v, ?_, hrep⟩
        simp only [execOp, ho]
        exact run_v (by simp [Instr.loadAt, hv, Instr.sureAddr, Sem.run_bind, hrun])
      · cases h
    · cases h
  · cases h
theorem q_nilCheck {x : Operand} (ho : o.op = .nilCheck x) (h : qstep P E H o.op = some (p, r)) : QOk P o E H p r := by
  rw [ho] at h
  simp only [qstep] at h
  split at h
  · rename_i cells hx
    cases h
    intro base nx κ ρ hp hi hρ
    rw [ho] at hρ
    have hx' := hρ x (by simp [Op.operands])
    rw [hx] at hx'
    obtain ⟨ad, vs, hv, _, _, _⟩ := hx'.ro_inv
    exact ⟨ρ x, by simp [execOp, ho, hv], hx'⟩
  · rename_i id ver off hx
    split at h
    · rename_i ver' cells hl
      cases h
      intro base nx κ ρ hp hi hρ
      rw [ho] at hρ
      subst hp
      have hx' := hρ x (by simp [Op.operands])
      rw [hx] at hx'
      obtain ⟨b, hv, _⟩ := hi.ptr_inv hl hx'
      exact ⟨ρ x, by simp [execOp, ho, hv], hx'⟩
    · cases h
  · cases h
theorem run_eqGuard_int (op : BinOp) (t : TypeId) (x y : Operand) (k : IntKind) (a : Int) (v : Value) (W : World) : (eqGuard op t x y (.int k a) v).run P W = .ok () W := by cases op <;> simp [eqGuard]
theorem run_eqGuard_bool (op : BinOp) (t : TypeId) (x y : Operand) (a : Bool) (v : Value) (W : World) : (eqGuard op t x y (.bool a) v).run P W = .ok () W := by cases op <;> simp [eqGuard]
theorem run_eqGuard_str (op : BinOp) (t : TypeId) (x y : Operand) (a : ByteArray) (v : Value) (W : World) : (eqGuard op t x y (.string a) v).run P W = .ok () W := by cases op <;> simp [eqGuard]
def vOf : AV → Value
  | .int k n => .int k n
  | .bool b => .bool b
  | .str s => .string s
  | _ => undef
theorem run_shift {op : BinOp} {k yk : IntKind} {a b : Int} (h : shiftA op k a b = some (p, r)) (hp : p) (W : World) (t : TypeId) : ∃ v, (binOp op t (.int k a) (.int yk b)).run P W = .ok v W ∧ ∀ {M F}, Rep W M F v r := by
  unfold shiftA at h
  split at h
  · cases h
    exact ⟨vOf (.int k _), by simp [binOp, Op.shift, show ¬ (b < 0) from by omega, vOf], .int _ _⟩
  · cases h
    exact ⟨vOf (.int k _), by simp [binOp, Op.shift, show ¬ (b < 0) from by omega, vOf], .int _ _⟩
  · cases h
theorem run_intBin {op : BinOp} {k : IntKind} {a b : Int} (hs : isShift op = false) (h : intBin op k a b = some (p, r)) (hp : p) (W : World) (t : TypeId) : ∃ v, (binOp op t (.int k a) (.int k b)).run P W = .ok v W ∧ ∀ {M F}, Rep W M F v r := by
  refine ⟨vOf r, ?_, ?_⟩
  · cases op <;> simp only [intBin, isShift, Bool.true_eq_false, reduceCtorEq] at h hs <;> cases h <;>
      first
      | (simp [binOp, Op.intArith, Op.intDiv, Op.intBits, Op.intCmp, hp, vOf]; done)
      | (simp [binOp, Op.intArith, Op.intDiv, Op.intBits, Op.intCmp, vOf]; done)
  · intro M F
    cases op <;> simp only [intBin, isShift, Bool.true_eq_false, reduceCtorEq] at h hs <;> cases h <;> first | exact .int _ _ | exact .bool _
theorem run_strBin {op : BinOp} {a b : ByteArray} (h : strBin op a b = some (p, r)) (hp : p) (W : World) (t : TypeId) : ∃ v, (binOp op t (.string a) (.string b)).run P W = .ok v W ∧ ∀ {M F}, Rep W M F v r := by
  refine ⟨vOf r, ?_, ?_⟩
  · cases op <;> simp only [strBin, reduceCtorEq] at h <;> cases h <;>
      first
      | (have hm : IntKind.i64.max = 9223372036854775807 := by decide
         have hc : ¬ (((a.size + b.size : Nat) : Int) > IntKind.i64.max) := by rw [hm]; omega
         simp only [binOp, Op.stringOp, hc, if_false, vOf]
         rfl)
      | (simp only [binOp, Op.stringOp, beq_list_eq, vOf]
         (try simp only [ByteArray.toList_eq])
         rfl)
  · intro M F
    cases op <;> simp only [strBin, reduceCtorEq] at h <;> cases h <;> first | exact .str _ | exact .bool _
theorem q_binOp {op : BinOp} {t : TypeId} {x y : Operand} {yt : TypeId} (ho : o.op = .binOp op t x y yt) (h : qstep P E H o.op = some (p, r)) : QOk P o E H p r := by
  rw [ho] at h
  simp only [qstep] at h
  intro base nx κ ρ hp hi hρ
  rw [ho] at hρ
  have hx := hρ x (by simp [Op.operands])
  have hy := hρ y (by simp [Op.operands])
  have fin : ∀ v, (eqGuard op t x y (ρ x) (ρ y)).run P κ.W = .ok () κ.W → (binOp op t (ρ x) (ρ y)).run P κ.W = .ok v κ.W → (execOp ρ o).run P κ.W = .ok (.value v) κ.W := by
    intro v h1 h2
    simp only [execOp, ho]
    exact run_v (by simp [Sem.run_bind, h1, h2])
  unfold binA at h
  split at h
  · rename_i k a k' b e1 e2
    rw [e1] at hx
    rw [e2] at hy
    have vx := hx.int_inv
    have vy := hy.int_inv
    have hg : (eqGuard op t x y (ρ x) (ρ y)).run P κ.W = .ok () κ.W := by rw [vx]; exact run_eqGuard_int _ _ _ _ _ _ _ _
    split at h
    · obtain ⟨v, hv, hrep⟩ := run_shift (P := P) (yk := k') h hp κ.W t
      exact ⟨v, fin v hg (by rw [vx, vy]; exact hv), hrep⟩
    · rename_i hs
      split at h
      · rename_i hk
        subst hk
        obtain ⟨v, hv, hrep⟩ := run_intBin (P := P) (by simpa using hs) h hp κ.W t
        exact ⟨v, fin v hg (by rw [vx, vy]; exact hv), hrep⟩
      · cases h
  · rename_i a b e1 e2
    rw [e1] at hx
    rw [e2] at hy
    have vx := hx.str_inv
    have vy := hy.str_inv
    obtain ⟨v, hv, hrep⟩ := run_strBin (P := P) h hp κ.W t
    exact ⟨v, fin v (by rw [vx]; exact run_eqGuard_str _ _ _ _ _ _ _) (by rw [vx, vy]; exact hv), hrep⟩
  · rename_i a b e1 e2
    rw [e1] at hx
    rw [e2] at hy
    have vx := hx.bool_inv
    have vy := hy.bool_inv
    have hg : (eqGuard op t x y (ρ x) (ρ y)).run P κ.W = .ok () κ.W := by rw [vx]; exact run_eqGuard_bool _ _ _ _ _ _ _
    split at h
    · rename_i ht
      have hu := tyBool_spec ht
      split at h
      · cases h
        refine ⟨_, fin (.bool (a == b)) hg ?_, .bool _⟩
        rw [vx, vy]
        have := run_equalIn_bool' (P := P) κ.W 9999 t a b hu
        simp [binOp, Op.equal, Op.maxDepth, this]
      · cases h
        refine ⟨_, fin (.bool (!(a == b))) hg ?_, .bool _⟩
        rw [vx, vy]
        have := run_equalIn_bool' (P := P) κ.W 9999 t a b hu
        simp [binOp, Op.equal, Op.maxDepth, this]
      · cases h
    · cases h
  · rename_i xs ys e1 e2
    rw [e1] at hx
    rw [e2] at hy
    obtain ⟨us, vx, _, hru⟩ := hx.agg_inv
    obtain ⟨vs, vy, _, hrv⟩ := hy.agg_inv
    split at h
    · rename_i ls hls
      split at h
      · rename_i q hq
        unfold tyEq at hls
        split at hls
        · rename_i fs hu
          split at hls
          · cases hls
          · rename_i hgd
            have hrun := eq_run 20 t ls hls 10000 (by omega) us vs xs ys q hru hrv hq
            have hpk : ∀ ws : List Value, pk P t ws = .agg ws.toArray := fun ws => by simp [pk, hu]
            rw [hpk, hpk] at hrun
            have hg : (eqGuard op t x y (ρ x) (ρ y)).run P κ.W = .ok () κ.W := by
              rw [vx, vy]
              exact run_eqGuard_agg (P := P) κ.W op t x y _ _ (by simpa using hgd)
            split at h
            · cases h
              refine ⟨_, fin (.bool q) hg ?_, .bool _⟩
              rw [vx, vy, run_eql_struct, hrun]
              rfl
            · cases h
              refine ⟨_, fin (.bool (!q)) hg ?_, .bool _⟩
              rw [vx, vy, run_neq_struct, hrun]
              rfl
            · cases h
        · cases hls
      · cases h
    · cases h
  · cases h
theorem q_unOp {op : UnOp} {t : TypeId} {x : Operand} (ho : o.op = .unOp op t x) (h : qstep P E H o.op = some (p, r)) : QOk P o E H p r := by
  rw [ho] at h
  simp only [qstep] at h
  intro base nx κ ρ hp hi hρ
  rw [ho] at hρ
  have hx := hρ x (by simp [Op.operands])
  unfold unA at h
  split at h
  · rename_i k n e1
    rw [e1] at hx
    have vx := hx.int_inv
    split at h
    · cases h
      refine ⟨_, ?_, .int _ _⟩
      simp [execOp, ho, vx, Op.unary, Op.intArith]
    · cases h
  · rename_i b e1
    rw [e1] at hx
    have vx := hx.bool_inv
    split at h
    · cases h
      refine ⟨_, ?_, .bool _⟩
      simp [execOp, ho, vx, Op.unary]
    · cases h
  · cases h

theorem run_u8 : ∀ (ws : List Value) (cs : List AV) {κ : Cx}, Reps κ ws cs → cs.all isU8 = true → ∃ ns : List Int, ws = ns.map (Value.int .u8) ∧ cs = ns.map (AV.int .u8)
  | [], [], κ, _, _ => ⟨[], rfl, rfl⟩
  | [], c :: cs, κ, h, _ => by simp [Reps] at h
  | w :: ws, [], κ, h, _ => by simp [Reps] at h
  | w :: ws, c :: cs, κ, h, hc => by
    simp only [List.all_cons, Bool.and_eq_true] at hc
    obtain ⟨v, vs', e, hr, hs⟩ := h.uncons
    cases e
    obtain ⟨ns, rfl, rfl⟩ := run_u8 ws cs hs hc.2
    cases c with
    | int k n =>
      have hk : k = .u8 := by cases k <;> simp [isU8] at hc <;> rfl
      subst hk
      obtain rfl := hr.int_inv
      exact ⟨n :: ns, rfl, rfl⟩
    | _ => simp [isU8] at hc
theorem fold_bytes (ns : List Int) : ∀ s : ByteArray, ns.foldl (fun r n => r.push (UInt8.ofNat n.toNat)) s = ⟨(s.data.toList ++ ns.map fun n => UInt8.ofNat n.toNat).toArray⟩ := by
  induction ns with
  | nil => intro s; simp
  | cons n ns ih => intro s; rw [List.foldl_cons, ih]; simp [ByteArray.push]
theorem bytesA_u8 (ns : List Int) : bytesA (ns.map (AV.int .u8)) = ns.foldl (fun r n => r.push (UInt8.ofNat n.toNat)) ByteArray.empty := by
  rw [fold_bytes]
  have h0 : ByteArray.empty.data.toList = [] := rfl
  rw [h0, List.nil_append]
  simp [bytesA, u8of, Function.comp_def]
theorem rdSl_spec {base nx : Nat} {κ : Cx} {H : AH} (hi : Inv base κ H nx) {a : AV} {n : Nat} {cells : List AV} (h : rdSl H a = some (n, cells)) {v : Value} (hr : Rep κ.W κ.M κ.F v a) :
    ∃ A c, v = .slice A n c ∧ n ≤ c ∧ (cells = [] ∨ ∃ ad vs, A = some ad ∧ CellsAt κ ad vs ∧ Reps κ vs cells) := by
  unfold rdSl at h
  split at h
  · cases h
    obtain ⟨A, c, rfl, hn, _, hc⟩ := hr.sl_inv
    refine ⟨A, c, rfl, hn, hc.imp id ?_⟩
    rintro ⟨ad, vs, h1, _, h3, h4⟩
    exact ⟨ad, vs, h1, h3, h4⟩
  · rename_i id ver sz off n'
    split at h
    · rename_i v' cells' hl
      split at h
      · rename_i hv
        cases h
        subst hv
        rcases hi.msl_inv hl hr with ⟨b, c, cs, T, fz, rfl, hm, hn, hb, _⟩ | ⟨A, b, rfl, hm, hn⟩
        · obtain ⟨_, _, vs, rest, T', hb', h1, hrs⟩ := hi.place hl hm
          refine ⟨_, c, rfl, hn, .inr ⟨_, (vs.drop off).take (n * sz), rfl, ?_, (hrs.drop off).take _⟩⟩
          have := ((cellsAt_block hb' h1).drop off).take (n * sz)
          rwa [add_lit, Nat.zero_add] at this
        · subst hn
          exact ⟨A, 0, rfl, Nat.le_refl _, .inl (by simp)⟩
      · cases h
    · cases h
  · cases h
theorem q_convert {src dst : TypeId} {x : Operand} (ho : o.op = .convert src dst x) (h : qstep P E H o.op = some (p, r)) : QOk P o E H p r := by
  rw [ho] at h
  simp only [qstep] at h
  intro base nx κ ρ hp hi hρ
  rw [ho] at hρ
  have hx := hρ x (by simp [Op.operands])
  split at h
  · rename_i k n e1
    rw [e1] at hx
    have vx := hx.int_inv
    split at h
    · rename_i k' hk
      split at h
      · rename_i hsrc
        cases h
        obtain ⟨d, hd⟩ := Option.isSome_iff_exists.1 hsrc
        refine ⟨_, ?_, .int _ _⟩
        simp only [execOp, ho]
        exact run_v (by rw [vx]; simp [convert, run_underlying hd, run_underlying (tyInt_spec hk), Conv.intToInt])
      · cases h
    · cases h
  · rename_i s e1
    rw [e1] at hx
    have vx := hx.str_inv
    split at h
    · rename_i hc
      cases h
      obtain ⟨d, hd⟩ := Option.isSome_iff_exists.1 hc.2
      refine ⟨_, ?_, .str _⟩
      simp only [execOp, ho]
      exact run_v (by rw [vx]; simp [convert, run_underlying hd, run_underlying (tyStr_spec hc.1)])
    · cases h
  · split at h
    · rename_i e n m he
      split at h
      · rename_i hc
        split at h
        · rename_i n' cells hrd
          cases h
          obtain ⟨hu, _⟩ := tySl_spec he
          obtain ⟨A, c, vx, hn, hcl⟩ := rdSl_spec hi hrd hx
          have hconv := run_convert_bytes_string (P := P) κ.W src dst e A n' c hu (tyInt_spec hc.1) (tyStr_spec hc.2)
          refine ⟨_, ?_, .str _⟩
          simp only [execOp, ho]
          refine run_v ?_
          rw [vx, hconv]
          rcases hcl with rfl | ⟨ad, vs, rfl, hca, hrs⟩
          · have hn0 : n' = 0 := by simpa using hp.1
            subst hn0
            cases A with
            | none => rfl
            | some ad =>
              have := run_bytesToString (P := P) κ.W ad 0 c [] (by simp [loadCells, loadCellsFrom])
              exact this
          · obtain ⟨ns, e1, e2⟩ := run_u8 (vs.take n') (cells.take n') (hrs.take n') hp.2
            have hl : (vs.take n').length = n' := by rw [List.length_take, hrs.1]; omega
            have hload := run_loadCells_list (P := P) κ.W ad (vs.take n') (fun j v hv => ((hca.take n').2 j v hv).1)
            rw [hl, e1] at hload
            have := run_bytesToString (P := P) κ.W ad n' c ns hload
            rw [this, e2, bytesA_u8]
        · cases h
      · cases h
    · cases h
theorem q_makeFunc {fn : Fn} {first captured : Array Operand} (ho : o.op = .makeFunc fn first captured) (h : qstep P E H o.op = some (p, r)) : QOk P o E H p r := by
  rw [ho] at h
  cases fn <;> simp only [qstep, reduceCtorEq] at h
  rename_i f
  split at h
  · rename_i hf
    cases h
    intro base nx κ ρ hp hi hρ
    rw [ho] at hρ
    have hf' : first = #[] := Array.eq_empty_of_size_eq_zero hf
    subst hf'
    have hr : Reps κ (captured.toList.map ρ) (captured.toList.map E) := by
      refine ⟨by simp, fun j v a h1 h2 => ?_⟩
      rw [List.getElem?_map] at h1 h2
      cases hj : captured.toList[j]? with
      | none => rw [hj] at h1; cases h1
      | some x =>
        rw [hj] at h1 h2
        cases h1
        cases h2
        exact hρ x (by simp only [Op.operands, Array.toList_append, List.mem_append]; right; exact List.mem_of_getElem? hj)
    refine ⟨_, ?_, .fn f (captured.toList.map ρ) _ hr.1 hr.2⟩
    simp only [execOp, ho]
    refine run_v ?_
    simp [Instr.makeFunc]
    apply Array.ext'
    simp
  · cases h
end
end Go.TH
