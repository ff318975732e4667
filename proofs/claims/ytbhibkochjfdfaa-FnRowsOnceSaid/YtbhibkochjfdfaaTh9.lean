/-
  TH, part 9: operations that make or write memory.
-/
import Derived.Test.YtbhibkochjfdfaaTh8
set_option linter.unusedVariables false
set_option linter.unusedSimpArgs false
namespace Go.TH
open Go

def bytesCells (s : ByteArray) : List AV := s.data.toList.map fun b => .int .u8 b.toNat

/-- What is appended or copied: how many elements, and their cells. -/
def srcA (P : Program) (H : AH) (tx : TypeId) (sz : Nat) : AV → Option (Nat × List AV)
  | .str s => if tyStr P tx ∧ sz = 1 then some (s.size, bytesCells s) else none
  | a => if (tySl P tx).isSome then rdSl H a else none

def fillB (H : AH) (sz : Nat) (cells : List AV) : List (Nat × AV) → Option (List AV)
  | [] => some cells
  | (i, a) :: rest =>
    match cellsA H a with
    | some cs => if cs.length = sz ∧ i * sz + sz ≤ cells.length then fillB H sz (cells.take (i * sz) ++ cs ++ cells.drop (i * sz + sz)) rest else none
    | none => none

def appA (P : Program) (H : AH) (nx : Nat) (t tx : TypeId) (s x : AV) : Option (Prop × AV × AH × Nat) :=
  match tySl P t with
  | none => none
  | some (e, sz, by') =>
    match tyZ P e, srcA P H tx sz x with
    | some z, some (m, xs) =>
      if z.length = sz ∧ sz ≠ 0 then
        match s with
        | .msl id ver sz' off n =>
          match H id with
          | .live v cells => some (v = ver ∧ sz' = sz ∧ off = 0 ∧ (n + m) * by' ≤ 140737488355328 ∧ n + m ≤ 9223372036854775807 ∧ xs.length = m * sz ∧ n * sz ≤ cells.length,
              .msl id (ver + 1) sz 0 (n + m), upd H id (.live (ver + 1) (cells.take (n * sz) ++ xs)), nx)
          | .dead => none
        | .sl n true cells =>
          if m = 0 then some (xs.length = m * sz, .sl n true cells, H, nx)
          else some ((n + m) * by' ≤ 140737488355328 ∧ n + m ≤ 9223372036854775807 ∧ xs.length = m * sz ∧ n * sz ≤ cells.length,
            .msl nx 0 sz 0 (n + m), upd H nx (.live 0 (cells.take (n * sz) ++ xs)), nx + 1)
        | _ => none
      else none
    | _, _ => none

def copA (P : Program) (H : AH) (nx : Nat) (t tx : TypeId) (d x : AV) : Option (Prop × AV × AH × Nat) :=
  match tySl P t with
  | none => none
  | some (e, sz, by') =>
    match srcA P H tx sz x, d with
    | some (m, xs), .msl id ver sz' off n =>
      match H id with
      | .live v cells => some (v = ver ∧ sz' = sz ∧ xs.length = m * sz ∧ off + n * sz ≤ cells.length,
          .int .i64 (min m n : Nat), upd H id (.live v (cells.take off ++ xs.take (min m n * sz) ++ cells.drop (off + min m n * sz))), nx)
      | .dead => none
    | _, _ => none

/-- OPERATIONS THAT MAKE OR WRITE MEMORY. -/
def hstep (P : Program) (E : Operand → AV) (H : AH) (nx : Nat) : Op → Option (Prop × AV × AH × Nat)
  | .alloc t => (match tyZ P t with
      | some z => some (True, .ptr nx 0 0, upd H nx (.live 0 z), nx + 1)
      | none => none)
  | .box t x => (match cellsA H (E x) with
      | some cs => some (True, .ptr nx 0 0, upd H nx (.live 0 cs), nx + 1)
      | none => none)
  | .buildSlice t len parts => (match tySl P t with
      | some (e, sz, _) => (match tyZ P e with
          | some z => if z.length = sz ∧ len * sz ≤ 16777216 then
              (fillB H sz (List.replicate len z).flatten (parts.toList.map fun x => (x.1, E x.2))).map fun cs => (True, .msl nx 0 sz 0 len, upd H nx (.live 0 cs), nx + 1)
            else none
          | none => none)
      | none => none)
  | .store t x y => (match tyAS P t, E x with
      | some (_, n), .ptr id ver off => (match H id, cellsA H (E y) with
          | .live v cells, some cs => some (v = ver ∧ cs.length = n ∧ off + n ≤ cells.length, .tup [], upd H id (.live v (cells.take off ++ cs ++ cells.drop (off + n))), nx)
          | _, _ => none)
      | _, _ => none)
  | .makeSlice t l c => (match tySl P t, E l, E c with
      | some (e, sz, by'), .int _ l, .int _ c => (match tyZ P e with
          | some z => if z.length = sz then
              some (0 ≤ l ∧ l ≤ c ∧ c.toNat * by' ≤ 140737488355328 ∧ c ≤ 140737488355328, .msl nx 0 sz 0 l.toNat, upd H nx (.live 0 (List.replicate l.toNat z).flatten), nx + 1)
            else none
          | none => none)
      | _, _, _ => none)
  | .convert src dst x => (match E x, tySl P dst with
      | .str s, some (e, _, _) => if tyInt P e = some .u8 ∧ (P.underlying src).isSome then some (s.size ≤ 140737488355328, .sl s.size false (bytesCells s), H, nx) else none
      | _, _ => none)
  | .call c => (match c.callee, c.argTypes.toList, c.args.toList.map E with
      | .builtin .append, [t, tx], [s, x] => appA P H nx t tx s x
      | .builtin .copy, [t, tx], [d, x] => copA P H nx t tx d x
      | _, _, _ => none)
  | _ => none

/-- An operation answers this, and leaves this. -/
def HOk (P : Program) (o : Oper) (E : Operand → AV) (H : AH) (nx : Nat) (p : Prop) (r : AV) (H' : AH) (nx' : Nat) : Prop :=
  ∀ {base : Nat} {κ : Cx} {ρ : Operand → Value}, p → Inv base κ H nx → (∀ x ∈ o.op.operands.toList, Rep κ.W κ.M κ.F (ρ x) (E x)) →
    ∃ κ' q v, (execOp ρ o).run P κ.W = .ok q κ'.W ∧ (q = .value v ∨ (q = .skip ∧ v = undef)) ∧ Rep κ'.W κ'.M κ'.F v r ∧ Ext base κ κ' ∧ Inv base κ' H' nx'

theorem HOk.of_quiet {P : Program} {o : Oper} {E : Operand → AV} {H : AH} {nx : Nat} {p : Prop} {r : AV} (h : QOk P o E H p r) : HOk P o E H nx p r H nx := by
  intro base κ ρ hp hi hρ
  obtain ⟨v, hrun, hrep⟩ := h hp hi hρ
  exact ⟨κ, _, v, hrun, .inl rfl, hrep, .refl _ _, hi⟩

theorem tyZ_spec {P : Program} {t : TypeId} {z : List AV} (h : tyZ P t = some z) : ∃ i zv, P.info? t = some i ∧ i.zero = some zv ∧ zv.cells.size = i.size ∧ (∀ u ∈ zv.cells.toList, u.oneCell' = true) ∧ z = zv.cells.toList.map cst1 := by
  unfold tyZ at h
  split at h
  · rename_i i hi
    split at h
    · rename_i zv hz
      split at h
      · rename_i hc
        cases h
        simp only [Bool.and_eq_true, beq_iff_eq] at hc
        exact ⟨i, zv, hi, hz, hc.2, fun u hu => (Array.all_eq_true_iff_forall_mem.1 hc.1) u (by simpa using hu), rfl⟩
      · cases h
    · cases h
  · cases h

section
variable {P : Program} {o : Oper} {E : Operand → AV} {H : AH} {nx : Nat} {p : Prop} {r : AV} {H' : AH} {nx' : Nat}

theorem h_alloc {t : TypeId} (ho : o.op = .alloc t) (h : hstep P E H nx o.op = some (p, r, H', nx')) : HOk P o E H nx p r H' nx' := by
  rw [ho] at h
  simp only [hstep] at h
  split at h
  · rename_i z hz
    cases h
    intro base κ ρ hp hi hρ
    obtain ⟨i, zv, hinf, hzero, hsz, h1, rfl⟩ := tyZ_spec hz
    have hinv := hi.alloc zv.cells.toList [] t _ h1 (cst_reps κ _)
    simp only [List.append_nil, Array.toArray_toList] at hinv
    refine ⟨κ.alloc nx (.cells zv.cells t), _, .pointer (some ⟨κ.W.heap.size, 0, none⟩), ?_, .inl rfl, .ptr _ _ _ _ (by simp [Cx.alloc]), κ.alloc_ext hi _, hinv⟩
    simp [execOp, ho, Instr.alloc, zeroValue, typeInfo, hinf, hzero, newVar, newRow, Cx.alloc]
  · cases h
theorem h_box {t : TypeId} {x : Operand} (ho : o.op = .box t x) (h : hstep P E H nx o.op = some (p, r, H', nx')) : HOk P o E H nx p r H' nx' := by
  rw [ho] at h
  simp only [hstep] at h
  split at h
  · rename_i cs hcs
    cases h
    intro base κ ρ hp hi hρ
    rw [ho] at hρ
    have hx := hρ x (by simp [Op.operands])
    obtain ⟨us, hus, h1, hr⟩ := cellsA_spec hi hcs hx
    have hinv := hi.alloc us [] t _ h1 hr
    simp only [List.append_nil] at hinv
    refine ⟨κ.alloc nx (.cells us.toArray t), _, .pointer (some ⟨κ.W.heap.size, 0, none⟩), ?_, .inl rfl, .ptr _ _ _ _ (by simp [Cx.alloc]), κ.alloc_ext hi _, hinv⟩
    simp [execOp, ho, Instr.box, newVar, newRow, hus, Cx.alloc]
  · cases h
theorem h_store {t : TypeId} {x y : Operand} (ho : o.op = .store t x y) (h : hstep P E H nx o.op = some (p, r, H', nx')) : HOk P o E H nx p r H' nx' := by
  rw [ho] at h
  simp only [hstep] at h
  split at h
  · rename_i g n id ver off hty ex
    split at h
    · rename_i v cells cs hl hcs
      cases h
      intro base κ ρ hp hi hρ
      rw [ho] at hρ
      obtain ⟨rfl, hn, hle⟩ := hp
      have hx := hρ x (by simp [Op.operands])
      rw [ex] at hx
      have hy := hρ y (by simp [Op.operands])
      obtain ⟨b, vx, hm⟩ := hi.ptr_inv hl hx
      obtain ⟨us, hus, h1, hr⟩ := cellsA_spec hi hcs hy
      obtain ⟨hbb, hF, vs, rest, T, hb, hv1, hvr⟩ := hi.place hl hm
      obtain ⟨d, inf, hd, hinf, _, hisz⟩ := tyAS_spec hty
      have hul : us.length = n := hr.1.trans hn
      have hvl := hvr.1
      have hst := run_storeCells_at P b off T us 0 (vs ++ rest).toArray κ.W hb (by simp; omega) h1
      simp only [Nat.add_zero] at hst
      have hsplit : (vs ++ rest).toArray.toList.take off ++ us ++ (vs ++ rest).toArray.toList.drop (off + us.length) = (vs.take off ++ us ++ vs.drop (off + n)) ++ rest := by
        simp only [List.append_assoc]
        rw [List.take_append_of_le_length (by omega), List.drop_append_of_le_length (by omega), hul]
      rw [hsplit] at hst
      have hnew : Reps κ (vs.take off ++ us ++ vs.drop (off + n)) (cells.take off ++ cs ++ cells.drop (off + n)) := ((hvr.take off).append hr).append (hvr.drop _)
      have hlen : ((vs.take off ++ us ++ vs.drop (off + n)) ++ rest).length = (vs ++ rest).toArray.size := by
        simp
        omega
      have hinv := hi.setRow hl hm hb hF (vs.take off ++ us ++ vs.drop (off + n)) rest hlen (fun u hu => by
        simp only [List.mem_append] at hu
        rcases hu with (hu | hu) | hu
        · exact hv1 u (List.mem_of_mem_take hu)
        · exact h1 u hu
        · exact hv1 u (List.mem_of_mem_drop hu)) hnew
      refine ⟨κ.setRow b _, .skip, undef, ?_, .inr ⟨rfl, rfl⟩, .tup [] [] rfl (fun j v a h => by simp at h), setRow_ext hb hF (by simpa using hlen) hbb, hinv⟩
      have hsz : us.length = inf.size := by omega
      simp [execOp, ho, Instr.storeAt, vx, Instr.sureAddr, storeVar, run_sizeOf hinf, hsz, hus, hst, Cx.setRow]
    · cases h
  · cases h

theorem zeros_eq (z : Array Value) (len : Nat) (hz : z.size ≠ 0 ∨ len = 0) : ((Array.range (len * z.size)).map (z[· % z.size]!)).toList = (List.replicate len z.toList).flatten := by
  apply List.ext_getElem?
  intro j
  have hlen : (List.replicate len z.toList).flatten.length = len * z.size := by simp
  by_cases hj : j < len * z.size
  · have hz0 : 0 < z.size := by
      rcases hz with h | h
      · omega
      · subst h; simp at hj
    have hm : j % z.size < z.size := Nat.mod_lt _ hz0
    have e1 : ((Array.range (len * z.size)).map (z[· % z.size]!)).toList[j]? = some z[j % z.size] := by
      simp [hj, hm]
    rw [e1]
    clear e1 hlen
    induction len generalizing j with
    | zero => simp at hj
    | succ len ih =>
      rw [List.replicate_succ, List.flatten_cons]
      by_cases hk : j < z.size
      · rw [List.getElem?_append_left (by simpa using hk)]
        simp [Nat.mod_eq_of_lt hk, hk]
      · rw [List.getElem?_append_right (by simpa using hk)]
        have := ih (.inl (by omega)) (j - z.size) (by rw [Nat.succ_mul] at hj; omega) (Nat.mod_lt _ hz0)
        rw [Array.length_toList, ← this]
        congr 1
        have : j % z.size = (j - z.size) % z.size := Nat.mod_eq_sub_mod (by omega)
        simp only [this]
  · rw [List.getElem?_eq_none (by simp; omega), List.getElem?_eq_none (by rw [hlen]; omega)]
theorem reps_replicate {κ : Cx} {vs : List Value} {as : List AV} (h : Reps κ vs as) : ∀ n : Nat, Reps κ (List.replicate n vs).flatten (List.replicate n as).flatten
  | 0 => Reps.nil κ
  | n + 1 => by
    rw [List.replicate_succ, List.replicate_succ, List.flatten_cons, List.flatten_cons]
    exact h.append (reps_replicate h n)
theorem one_replicate {vs : List Value} (h : ∀ v ∈ vs, v.oneCell' = true) (n : Nat) : ∀ v ∈ (List.replicate n vs).flatten, v.oneCell' = true := by
  intro v hv
  rw [List.mem_flatten] at hv
  obtain ⟨l, hl, hv⟩ := hv
  rw [(List.mem_replicate.1 hl).2] at hv
  exact h v hv
theorem fillB_spec {base nx : Nat} {κ : Cx} {H : AH} (hi : Inv base κ H nx) (sz : Nat) : ∀ (parts : List (Nat × AV)) (vparts : List (Nat × Value)) (cells r : List AV) (us : List Value),
    parts.length = vparts.length → (∀ (j : Nat) (p : Nat × AV) (q : Nat × Value), parts[j]? = some p → vparts[j]? = some q → p.1 = q.1 ∧ Rep κ.W κ.M κ.F q.2 p.2) → (∀ u ∈ us, u.oneCell' = true) → Reps κ us cells →
    fillB H sz cells parts = some r → ∃ ws : List Value, Instr.fill (fun i => some (i * sz, sz)) us.toArray vparts = some ws.toArray ∧ (∀ u ∈ ws, u.oneCell' = true) ∧ Reps κ ws r
  | [], vparts, cells, r, us, hl, hp, h1, hr, h => by
    cases vparts with
    | cons _ _ => simp at hl
    | nil => cases h; exact ⟨us, rfl, h1, hr⟩
  | (i, a) :: parts, vparts, cells, r, us, hl, hp, h1, hr, h => by
    cases vparts with
    | nil => simp at hl
    | cons q vparts =>
      obtain ⟨i', v⟩ := q
      obtain ⟨e1, hv⟩ := hp 0 (i, a) (i', v) rfl rfl
      simp only at e1 hv
      subst e1
      simp only [fillB] at h
      split at h
      · rename_i cs hca
        split at h
        · rename_i hsz
          obtain ⟨us', hus, hone, hrs⟩ := cellsA_spec hi hca hv
          have hlen : us'.length = sz := by rw [hrs.1]; exact hsz.1
          have hle : i * sz + us'.length ≤ us.length := by rw [hr.1, hlen]; exact hsz.2
          have hr' : Reps κ (us.take (i * sz) ++ us' ++ us.drop (i * sz + sz)) (cells.take (i * sz) ++ cs ++ cells.drop (i * sz + sz)) := ((hr.take _).append hrs).append (hr.drop _)
          obtain ⟨ws, hw, hw1, hw2⟩ := fillB_spec hi sz parts vparts _ r _ (by simpa using hl) (fun j p q hp1 hq1 => hp (j + 1) p q (by simpa using hp1) (by simpa using hq1))
            (fun u hu => by
              simp only [List.mem_append] at hu
              rcases hu with (hu | hu) | hu
              · exact h1 u (List.mem_of_mem_take hu)
              · exact hone u hu
              · exact h1 u (List.mem_of_mem_drop hu)) hr' h
          refine ⟨ws, ?_, hw1, hw2⟩
          rw [← hw]
          have hz := fold_zip (i * sz) us' 0 us.toArray (by simpa using hle)
          simp only [Nat.add_zero] at hz
          simp only [Instr.fill, hus, List.size_toArray, hlen]
          rw [if_neg (by simp; omega)]
          congr 1
          rw [← hlen] at *
          rw [← hz]
          simp [← Array.foldl_toList]
        · cases h
      · cases h
theorem buildSlice_run {t e len : Nat} {sz by' : Nat} {parts : Array (Nat × Operand)} {z cs : List AV} (ho : o.op = .buildSlice t len parts) (hsl : tySl P t = some (e, sz, by')) (hz : tyZ P e = some z)
    (hc : z.length = sz ∧ len * sz ≤ 16777216) (hf : fillB H sz (List.replicate len z).flatten (parts.toList.map fun x => (x.1, E x.2)) = some cs)
    {base : Nat} {κ : Cx} {ρ : Operand → Value} (hi : Inv base κ H nx) (hρ : ∀ x ∈ o.op.operands.toList, Rep κ.W κ.M κ.F (ρ x) (E x)) :
    ∃ ws : List Value, (execOp ρ o).run P κ.W = .ok (.value (.slice (some ⟨κ.W.heap.size, 0, none⟩) len len)) (κ.W.alloc (.cells ws.toArray e)) ∧ (∀ u ∈ ws, u.oneCell' = true) ∧ Reps κ ws cs ∧ ws.length = len * sz := by
  rw [ho] at hρ
  obtain ⟨hu, inf, hinf, hsz, _⟩ := tySl_spec hsl
  obtain ⟨i, zv, hinf', hzero, hzs, h1, rfl⟩ := tyZ_spec hz
  rw [hinf] at hinf'
  cases hinf'
  subst hsz
  have hzr := cst_reps κ zv.cells.toList
  obtain ⟨ws, hw, hw1, hw2⟩ := fillB_spec hi inf.size (parts.toList.map fun x => (x.1, E x.2)) (parts.toList.map fun x => (x.1, ρ x.2)) _ cs (List.replicate len zv.cells.toList).flatten (by simp)
    (fun j p q hp1 hq1 => by
      rw [List.getElem?_map] at hp1 hq1
      cases hj : parts.toList[j]? with
      | none => rw [hj] at hp1; cases hp1
      | some x =>
        rw [hj] at hp1 hq1
        cases hp1
        cases hq1
        exact ⟨rfl, hρ x.2 (by simp only [Op.operands, List.mem_map]; exact ⟨x, List.mem_of_getElem? hj, rfl⟩)⟩)
    (one_replicate h1 len) (reps_replicate hzr len) hf
  have hws : ws.length = len * inf.size := by
    have : ∀ (ps : List (Nat × Value)) (c r : Array Value), Instr.fill (fun i => some (i * inf.size, inf.size)) c ps = some r → r.size = c.size := by
      intro ps
      induction ps with
      | nil => intro c r h; cases h; rfl
      | cons q ps ih =>
        intro c r h
        obtain ⟨i, v⟩ := q
        simp only [Instr.fill] at h
        split at h
        · cases h
        · have := ih _ _ h
          rw [this, ← Array.foldl_toList]
          generalize v.cells.zipIdx.toList = l
          rename_i hcond
          clear h this hcond
          induction l generalizing c with
          | nil => rfl
          | cons x l ih2 => rw [List.foldl_cons, ih2]; simp
    have := this _ _ _ hw
    simpa [hzs] using this
  refine ⟨ws, ?_, hw1, hw2, hws⟩
  · simp only [execOp, ho]
    refine run_v ?_
    have hpm : (parts.map fun x => (x.1, ρ x.2)).toList = parts.toList.map fun x => (x.1, ρ x.2) := by simp
    have hle : ¬ (len * inf.size > 2 ^ 24) := by omega
    by_cases h0 : len * inf.size = 0
    · have hflat : (List.replicate len zv.cells.toList).flatten = [] := by
        apply List.eq_nil_of_length_eq_zero
        simp [hzs, h0]
      rw [hflat] at hw
      have e0 : (Array.range (len * inf.size)).map ((#[] : Array Value)[· % (#[] : Array Value).size]!) = [].toArray := by rw [h0]; apply Array.ext'; simp
      have hle0 : ¬ (0 > 2 ^ 24) := by omega
      simp only [Instr.buildSlice, Sem.run_bind, run_underlying hu, Result.andThen_ok, run_sizeOf hinf, h0, hle0, if_false, if_true, pure_bind, hpm]
      have e1 : (Array.range 0).map ((#[] : Array Value)[· % (#[] : Array Value).size]!) = [].toArray := by apply Array.ext'; simp
      rw [e1, hw]
      simp [newRow]
    · have hz0 : zv.cells.size ≠ 0 ∨ len = 0 := by
        left; rw [hzs]; intro h; rw [h] at h0; simp at h0
      have hzq := zeros_eq zv.cells len hz0
      have hzq' : (Array.range (len * inf.size)).map (zv.cells[· % zv.cells.size]!) = (List.replicate len zv.cells.toList).flatten.toArray := by
        rw [← hzs]
        apply Array.ext'
        rw [hzq]
      simp only [Instr.buildSlice, Sem.run_bind, run_underlying hu, Result.andThen_ok, run_sizeOf hinf, hle, if_false, h0, zeroValue, typeInfo, run_program, hinf, Sem.run_pure, hzero, hzq', hpm, hw]
      simp [newRow]
theorem h_buildSlice {t : TypeId} {len : Nat} {parts : Array (Nat × Operand)} (ho : o.op = .buildSlice t len parts) (h : hstep P E H nx o.op = some (p, r, H', nx')) : HOk P o E H nx p r H' nx' := by
  rw [ho] at h
  simp only [hstep] at h
  split at h
  · rename_i e sz by' hsl
    split at h
    · rename_i z hz
      split at h
      · rename_i hc
        cases hf : fillB H sz (List.replicate len z).flatten (parts.toList.map fun x => (x.1, E x.2)) with
        | none => rw [hf] at h; cases h
        | some cs =>
          rw [hf] at h
          cases h
          intro base κ ρ hp hi hρ
          obtain ⟨ws, hrun, hw1, hw2, hws⟩ := buildSlice_run ho hsl hz hc hf hi hρ
          have hinv := hi.alloc ws [] e _ hw1 hw2
          simp only [List.append_nil] at hinv
          refine ⟨κ.alloc nx (.cells ws.toArray e), _, .slice (some ⟨κ.W.heap.size, 0, none⟩) len len, hrun, .inl rfl, ?_, κ.alloc_ext hi _, hinv⟩
          refine .msl _ _ _ _ _ _ κ.W.heap.size ws.toArray e (0, 0) (by simp [Cx.alloc]) (Nat.le_refl _) (heap_alloc_at _ _) ?_
          simp [hws]
      · cases h
    · cases h
  · cases h
end
end Go.TH
