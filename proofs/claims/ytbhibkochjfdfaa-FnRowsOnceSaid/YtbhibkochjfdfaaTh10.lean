/-
  TH, part 10: make, append, copy, bytes of texts; all operations together.
-/
import Derived.Test.YtbhibkochjfdfaaTh9
import Derived.Laws.MakeOwn
import Derived.Lib.ConvBytes
set_option linter.unusedVariables false
set_option linter.unusedSimpArgs false
namespace Go.TH
open Go
section
variable {P : Program} {o : Oper} {E : Operand → AV} {H : AH} {nx : Nat} {p : Prop} {r : AV} {H' : AH} {nx' : Nat}

theorem makeSlice_run {t e : Nat} {sz by' : Nat} {l c : Operand} {k1 k2 : IntKind} {l' c' : Int} {z : List AV} (ho : o.op = .makeSlice t l c) (hsl : tySl P t = some (e, sz, by')) (el : E l = .int k1 l') (ec : E c = .int k2 c') (hz : tyZ P e = some z) (hzl : z.length = sz)
    (hp : 0 ≤ l' ∧ l' ≤ c' ∧ c'.toNat * by' ≤ 140737488355328 ∧ c' ≤ 140737488355328) {κ : Cx} {ρ : Operand → Value} (hρ : ∀ x ∈ o.op.operands.toList, Rep κ.W κ.M κ.F (ρ x) (E x)) :
    ∃ ws rest : List Value, (execOp ρ o).run P κ.W = .ok (.value (.slice (some ⟨κ.W.heap.size, 0, none⟩) l'.toNat c'.toNat)) (κ.W.alloc (.cells (ws ++ rest).toArray e)) ∧ (∀ u ∈ ws, u.oneCell' = true) ∧ Reps κ ws (List.replicate l'.toNat z).flatten ∧ (ws ++ rest).length = c'.toNat * sz := by
  rw [ho] at hρ
  obtain ⟨h0, h1, h2, h3⟩ := hp
  have vl := (show Rep κ.W κ.M κ.F (ρ l) (.int k1 l') from el ▸ hρ l (by simp [Op.operands])).int_inv
  have vc := (show Rep κ.W κ.M κ.F (ρ c) (.int k2 c') from ec ▸ hρ c (by simp [Op.operands])).int_inv
  obtain ⟨hu, inf, hinf, hsz, hby⟩ := tySl_spec hsl
  obtain ⟨i, zv, hinf', hzero, hzs, hz1, rfl⟩ := tyZ_spec hz
  rw [hinf] at hinf'
  cases hinf'
  subst hsz
  subst hby
  have hzr := cst_reps κ zv.cells.toList
  -- the cells of the new block
  have hcells : ∃ rest : List Value, ((List.replicate c'.toNat zv.cells.toList).flatten : List Value) = (List.replicate l'.toNat zv.cells.toList).flatten ++ rest := by
    refine ⟨(List.replicate (c'.toNat - l'.toNat) zv.cells.toList).flatten, ?_⟩
    rw [← List.flatten_append, List.replicate_append_replicate]
    congr 2
    omega
  obtain ⟨rest, hrest⟩ := hcells
  refine ⟨(List.replicate l'.toNat zv.cells.toList).flatten, rest, ?_, one_replicate hz1 _, reps_replicate hzr l'.toNat, by rw [← hrest]; simp [hzs]⟩
  simp only [execOp, ho]
  refine run_v ?_
  have hbig : (inf.bytes : Int) * c' ≤ 281474976710656 := by
    have : (inf.bytes : Int) * c' = ((c'.toNat * inf.bytes : Nat) : Int) := by
      rw [Int.natCast_mul, Int.toNat_of_nonneg (by omega), Int.mul_comm]
    rw [this]
    omega
  have hmade : (madeCells zv.cells (c'.toNat * inf.size)) = (List.replicate c'.toNat zv.cells.toList).flatten.toArray := by
    apply Array.ext'
    by_cases hz0 : zv.cells.size = 0
    · have e1 : c'.toNat * inf.size = 0 := by rw [← hzs, hz0]; rfl
      have e2 : (List.replicate c'.toNat zv.cells.toList).flatten = [] := by
        apply List.eq_nil_of_length_eq_zero
        simp [hz0]
      rw [e1, e2]
      simp [madeCells]
    · have := zeros_eq zv.cells c'.toNat (.inl hz0)
      rw [hzs] at this
      simpa [madeCells, hzs] using this
  rw [vl, vc, run_make κ.W t e inf zv hu hinf hzero k1 k2 l' c' h0 h1 hbig (by omega), hmade, hrest]

theorem h_makeSlice {t : TypeId} {l c : Operand} (ho : o.op = .makeSlice t l c) (h : hstep P E H nx o.op = some (p, r, H', nx')) : HOk P o E H nx p r H' nx' := by
  rw [ho] at h
  simp only [hstep] at h
  split at h
  · rename_i e sz by' k1 l' k2 c' hsl el ec
    split at h
    · rename_i z hz
      split at h
      · rename_i hzl
        cases h
        intro base κ ρ hp hi hρ
        obtain ⟨ws, rest, hrun, hw1, hw2, hwl⟩ := makeSlice_run ho hsl el ec hz hzl hp hρ
        have hinv := hi.alloc ws rest e _ hw1 hw2
        refine ⟨κ.alloc nx (.cells (ws ++ rest).toArray e), _, .slice (some ⟨κ.W.heap.size, 0, none⟩) l'.toNat c'.toNat, hrun, .inl rfl, ?_, κ.alloc_ext hi _, hinv⟩
        refine .msl _ _ _ _ _ _ κ.W.heap.size _ e (0, 0) (by simp [Cx.alloc]) (by omega) (heap_alloc_at _ _) ?_
        simp only [List.size_toArray]
        omega
      · cases h
    · cases h
  · cases h

/-! ### A new block of any making -/
structure NewBlock (W W' : World) : Prop where
  old : ∀ b : Nat, b < W.heap.size → W'.heap[b]? = W.heap[b]?
  size : W.heap.size < W'.heap.size
  os : W'.os = W.os
  tape : W'.tape = W.tape
  output : W'.output = W.output
def Cx.newF (κ : Cx) (W' : World) : Cx := { W := W', M := κ.M, F := fun b => κ.F b ∨ b = κ.W.heap.size }
theorem Cx.newF_ev {base : Nat} {κ : Cx} (hi : Inv base κ H nx) {W' : World} (h : NewBlock κ.W W') : Ev κ (κ.newF W') :=
  ⟨fun b hb => ⟨.inl hb, h.old b (hi.hF b hb)⟩, fun _ e he => ⟨e, he, .inr rfl⟩, fun b cs T fz hb => ⟨cs, fz, (h.old b (heap_some_lt hb)).trans hb, rfl⟩⟩
theorem Cx.newF_ext {base : Nat} {κ : Cx} (hi : Inv base κ H nx) {W' : World} (h : NewBlock κ.W W') : Ext base κ (κ.newF W') :=
  ⟨κ.newF_ev hi h, h.os, h.tape, h.output, Nat.le_of_lt h.size, fun b hb => h.old b (Nat.lt_of_lt_of_le hb hi.hbase), fun _ hx => hx.elim .inl (fun e => .inr (e ▸ hi.hbase))⟩
theorem Inv.newF {base : Nat} {κ : Cx} (hi : Inv base κ H nx) {W' : World} (h : NewBlock κ.W W') : Inv base (κ.newF W') H nx := by
  refine ⟨fun b hb => ?_, Nat.le_trans hi.hbase (Nat.le_of_lt h.size), hi.hM, fun id ver cells hl => ?_, hi.inj⟩
  · rcases hb with hb | rfl
    · exact Nat.lt_trans (hi.hF b hb) h.size
    · exact h.size
  · obtain ⟨e, he, hv, hh⟩ := hi.live id ver cells hl
    exact ⟨e, he, hv, hh.ev (Cx.newF_ev hi h) (fun b hb _ hn hc => hc.elim hn (fun e => by have := hh.lt hb; omega)) (fun b hb => h.old b (hh.lt hb))⟩

theorem byteCells_reps (κ : Cx) (s : ByteArray) : Reps κ (byteCells s) (bytesCells s) := by
  refine ⟨by simp [byteCells, bytesCells], fun j v a h1 h2 => ?_⟩
  unfold byteCells at h1
  unfold bytesCells at h2
  rw [List.getElem?_map] at h1 h2
  cases hj : s.data.toList[j]? with
  | none => rw [hj] at h1; cases h1
  | some x =>
    rw [hj] at h1 h2
    cases h1
    cases h2
    exact .int _ _
theorem convert_run {src dst e : TypeId} {x : Operand} {s : ByteArray} {a' b' : Nat} (ho : o.op = .convert src dst x) (ex : E x = .str s) (hsl : tySl P dst = some (e, a', b')) (hc : tyInt P e = some .u8 ∧ (P.underlying src).isSome = true)
    {base : Nat} {κ : Cx} {ρ : Operand → Value} (hi : Inv base κ H nx) (hρ : ∀ x ∈ o.op.operands.toList, Rep κ.W κ.M κ.F (ρ x) (E x)) :
    ∃ κ' v, (execOp ρ o).run P κ.W = .ok (.value v) κ'.W ∧ Rep κ'.W κ'.M κ'.F v (.sl s.size false (bytesCells s)) ∧ Ext base κ κ' ∧ Inv base κ' H nx := by
      rw [ho] at hρ
      have hx := hρ x (by simp [Op.operands])
      rw [ex] at hx
      have vx := hx.str_inv
      obtain ⟨u, hu⟩ := Option.isSome_iff_exists.1 hc.2
      obtain ⟨hd, _⟩ := tySl_spec hsl
      have hrun := Lib.run_convert_string_bytes (P := P) κ.W src dst e s hu hd (tyInt_spec hc.1)
      have hnb : NewBlock κ.W (Lib.bytesWorld κ.W e s) := by
        refine ⟨Lib.bytesWorld_at_old κ.W e s, by rw [Lib.bytesWorld_size]; omega, ?_, ?_, ?_⟩ <;> rfl
      refine ⟨κ.newF (Lib.bytesWorld κ.W e s), .slice (some ⟨κ.W.heap.size, 0, none⟩) s.size (grownCap κ.W s.size 0 e), ?_, ?_, Cx.newF_ext hi hnb, hi.newF hnb⟩
      · simp only [execOp, ho]
        exact run_v (by rw [vx]; exact hrun)
      · have hge := grownCap_ge κ.W s.size 0 e
        refine Rep.sl_mk (κ := κ.newF (Lib.bytesWorld κ.W e s)) hge (fun h => by cases h) (.inr ⟨_, byteCells s, rfl, .inr rfl, ⟨rfl, fun j v hv => ?_⟩, byteCells_reps _ s⟩)
        unfold byteCells at hv
        rw [List.getElem?_map] at hv
        cases hj : s.data.toList[j]? with
        | none => rw [hj] at hv; cases hv
        | some b =>
          rw [hj] at hv
          cases hv
          have hlt : j < s.size := by
            have := (List.getElem?_eq_some_iff.1 hj).1
            simpa using this
          refine ⟨?_, rfl⟩
          rw [add_lit, Nat.zero_add]
          have := Lib.bytesWorld_cell κ.W e s j hlt
          simp only [Cx.newF]
          rw [this]
          simp [List.getD, hj]
theorem h_convert {src dst : TypeId} {x : Operand} (ho : o.op = .convert src dst x) (h : hstep P E H nx o.op = some (p, r, H', nx')) : HOk P o E H nx p r H' nx' := by
  rw [ho] at h
  simp only [hstep] at h
  split at h
  · rename_i s e a' b' ex hsl
    split at h
    · rename_i hc
      cases h
      intro base κ ρ hp hi hρ
      obtain ⟨κ', v, h1, h2, h3, h4⟩ := convert_run ho ex hsl hc hi hρ
      exact ⟨κ', _, v, h1, .inl rfl, h2, h3, h4⟩
    · cases h
  · cases h

theorem srcA_spec {base : Nat} {κ : Cx} (hi : Inv base κ H nx) {tx : TypeId} {sz m : Nat} {a : AV} {xs : List AV} (h : srcA P H tx sz a = some (m, xs)) (hsz : sz ≠ 0) (hl : xs.length = m * sz) {v : Value} (hr : Rep κ.W κ.M κ.F v a) :
    ∃ news, Src P sz tx v m news κ.W ∧ Reps κ news xs := by
  unfold srcA at h
  split at h
  · split at h
    · rename_i s hc
      cases h
      obtain ⟨ht, rfl⟩ := hc
      obtain rfl := hr.str_inv
      exact ⟨_, Src.ofString κ.W (tyStr_spec ht) s, byteCells_reps κ s⟩
    · cases h
  · split at h
    · rename_i ht
      obtain ⟨⟨e, a1, b1⟩, he⟩ := Option.isSome_iff_exists.1 ht
      obtain ⟨hu, _⟩ := tySl_spec he
      obtain ⟨A, c, rfl, hn, hc⟩ := rdSl_spec hi h hr
      rcases hc with rfl | ⟨ad, vs, rfl, hca, hrs⟩
      · have hm : m = 0 := by
          have h0 : m * sz = 0 := by simpa using hl.symm
          rcases Nat.mul_eq_zero.1 h0 with h | h
          · exact h
          · exact absurd h hsz
        subst hm
        cases A with
        | none => exact ⟨[], Src.ofNil κ.W hu c, Reps.nil κ⟩
        | some ad => exact ⟨[], Src.ofSlice κ.W hu ad 0 c [] (by simp) (fun j u hu => by simp at hu) (fun u hu => by cases hu), Reps.nil κ⟩
      · exact ⟨vs, Src.ofSlice κ.W hu ad m c vs (by rw [hrs.1, hl]) (fun j u hu => (hca.2 j u hu).1) hca.one, hrs⟩
    · cases h

/-- THERE IS ROOM: the row is written. -/
theorem run_append_room_row (W : World) (t tx ty e : TypeId) (i : TypeInfo) (ht : P.underlying t = some (.slice e)) (hi : P.info? e = some i) (b sLen sCap : Nat) (T : TypeId) (cur : Array Value)
    (hb : W.heap[b]? = some (Obj.cells cur T (0, 0))) (x : Value) (n : Nat) (news : List Value) (hs : Src P i.size tx x n news W) (hroom : sLen + n ≤ sCap) (hfit : sLen * i.size + news.length ≤ cur.size) :
    (Builtin.append_ #[t, tx] ty #[.slice (some ⟨b, 0, none⟩) sLen sCap, x]).run P W =
      .ok (.slice (some ⟨b, 0, none⟩) (sLen + n) sCap) (W.setRow b (cur.toList.take (sLen * i.size) ++ news ++ cur.toList.drop (sLen * i.size + news.length)).toArray) := by
  have hst := run_storeCells_at P b (sLen * i.size) T news 0 cur W hb (by simpa using hfit) hs.one
  simp only [Nat.add_zero] at hst
  rcases hs.kind with ⟨e', hk⟩ | hk <;> simp [Builtin.append_, run_underlying ht, run_underlying hk, sizeOf, typeInfo, hi, hs.len, hroom, hs.cells, Addr.add_lit, hst]
theorem run_append_none (W : World) (t tx ty e : TypeId) (i : TypeInfo) (ht : P.underlying t = some (.slice e)) (hi : P.info? e = some i) (A : Option Addr) (sLen sCap : Nat) (x : Value) (hs : Src P i.size tx x 0 [] W) (hroom : sLen ≤ sCap) :
    (Builtin.append_ #[t, tx] ty #[.slice A sLen sCap, x]).run P W = .ok (.slice A sLen sCap) W := by
  cases A with
  | none => rcases hs.kind with ⟨e', hk⟩ | hk <;> simp [Builtin.append_, run_underlying ht, run_underlying hk, sizeOf, typeInfo, hi, hs.len, hroom, hs.cells]
  | some a => rcases hs.kind with ⟨e', hk⟩ | hk <;> simp [Builtin.append_, run_underlying ht, run_underlying hk, sizeOf, typeInfo, hi, hs.len, hroom, hs.cells, storeCells]

theorem zeroCells_toList (z : Array Value) (n : Nat) : (Builtin.zeroCells z n).size = n * z.size := size_zeroCells z n
theorem holdsOlds {base : Nat} {κ : Cx} {b : Nat} {vs rest : List Value} {T : TypeId} {fz : Nat × Nat} (hb : κ.W.heap[b]? = some (Obj.cells (vs ++ rest).toArray T fz)) (h1 : ∀ v ∈ vs, v.oneCell' = true) (k : Nat) :
    ∀ (j : Nat) (v : Value), (vs.take k)[j]? = some v → κ.W.cell? ((⟨b, 0, none⟩ : Addr).add j) = some v := fun j v hv => (((cellsAt_block hb h1).take k).2 j v hv).1

/-- The arm that grows, of whatever was there. -/
theorem run_append_new {t tx e : TypeId} {i : TypeInfo} {z : Value} (ht : P.underlying t = some (.slice e)) (hi : P.info? e = some i) (hz : i.zero = some z) (hzs : z.cells.size = i.size) (ty : TypeId) (W : World) (A : Option Addr) (n c : Nat)
    (olds : List Value) (hl : olds.length = n * i.size) (hold : (Builtin.firstCells i.size n (.slice A n c)).run P W.drew = .ok olds.toArray W.drew) {x : Value} {m : Nat} {news : List Value} (hs : Src P i.size tx x m news W) (hg : c < n + m)
    (h1 : (n + m) * i.bytes ≤ 140737488355328) (h2 : n + m ≤ 9223372036854775807) :
    ∃ (rest : List Value) (cap : Nat), n + m ≤ cap ∧ (olds ++ news ++ rest).length = cap * i.size ∧
      (Builtin.append_ #[t, tx] ty #[.slice A n c, x]).run P W = .ok (.slice (some ⟨W.heap.size, 0, none⟩) (n + m) cap) (W.drew.alloc (.cells (olds ++ news ++ rest).toArray e)) := by
  have hrun := run_append_grow_src (P := P) W t tx ty e i z ht hi hz A n c olds hold x m news hs hg (by omega) (growslice_fits hg h1)
  refine ⟨(Builtin.zeroCells z.cells (grownCap W (n + m) c e - (n + m))).toList, grownCap W (n + m) c e, grownCap_ge _ _ _ _, ?_, ?_⟩
  · have hge := grownCap_ge W (n + m) c e
    simp only [List.length_append, hl, hs.newsLen, Array.length_toList, size_zeroCells, hzs, ← Nat.add_mul]
    congr 1
    omega
  · rw [hrun]
    congr 3
    apply Array.ext'
    simp
theorem app_own {t tx e : TypeId} {i : TypeInfo} {z : Value} (ht : P.underlying t = some (.slice e)) (hinf : P.info? e = some i) (hz : i.zero = some z) (hzs : z.cells.size = i.size) (hsz : i.size ≠ 0) (ty : TypeId)
    {base : Nat} {κ : Cx} (hi : Inv base κ H nx) {id ver n m : Nat} {cells xs : List AV} (hl : H id = .live ver cells) {v x : Value} (hv : Rep κ.W κ.M κ.F v (.msl id ver i.size 0 n)) {news : List Value}
    (hs : Src P i.size tx x m news κ.W) (hxs : Reps κ news xs) (h1 : (n + m) * i.bytes ≤ 140737488355328) (h2 : n + m ≤ 9223372036854775807) (h3 : n * i.size ≤ cells.length) :
    ∃ κ' w, (Builtin.append_ #[t, tx] ty #[v, x]).run P κ.W = .ok w κ'.W ∧ Rep κ'.W κ'.M κ'.F w (.msl id (ver + 1) i.size 0 (n + m)) ∧ Ext base κ κ' ∧ Inv base κ' (upd H id (.live (ver + 1) (cells.take (n * i.size) ++ xs))) nx := by
  have hnl := hs.newsLen
  -- growing: whatever the place was
  have grow : ∀ (A : Option Addr) (c : Nat) (olds : List Value) (b0 : Option Nat), v = .slice A n c → κ.M id = some ⟨ver, b0⟩ → olds.length = n * i.size → (∀ u ∈ olds, u.oneCell' = true) → Reps κ olds (cells.take (n * i.size)) →
      (Builtin.firstCells i.size n (.slice A n c)).run P κ.W.drew = .ok olds.toArray κ.W.drew → c < n + m →
      ∃ κ' w, (Builtin.append_ #[t, tx] ty #[v, x]).run P κ.W = .ok w κ'.W ∧ Rep κ'.W κ'.M κ'.F w (.msl id (ver + 1) i.size 0 (n + m)) ∧ Ext base κ κ' ∧ Inv base κ' (upd H id (.live (ver + 1) (cells.take (n * i.size) ++ xs))) nx := by
    intro A c olds b0 ev hm ho ho1 hor hfo hg
    obtain ⟨rest, cap, hc1, hc2, hrun⟩ := run_append_new ht hinf hz hzs ty κ.W A n c olds ho hfo hs hg h1 h2
    -- the states: a draw, a new block, the place moves
    have hid := hi.drew
    let κ1 : Cx := { W := κ.drew.W.alloc (.cells (olds ++ news ++ rest).toArray e), M := κ.M, F := κ.F }
    have ev1 : Ev κ κ1 := by
      refine ⟨fun b hb => ⟨hb, heap_alloc_lt _ _ (hi.hF b hb)⟩, fun _ e he => ⟨e, he, .inr rfl⟩, fun b cs T fz hb => ⟨cs, fz, (heap_alloc_lt κ.drew.W _ (heap_some_lt hb)).trans hb, rfl⟩⟩
    have ext1 : Ext base κ κ1 := ⟨ev1, rfl, rfl, rfl, by simp [κ1, Cx.drew], fun b hb => heap_alloc_lt κ.drew.W _ (Nat.lt_of_lt_of_le hb hi.hbase), fun _ h => .inl h⟩
    have inv1 : Inv base κ1 H nx := by
      refine ⟨fun b hb => Nat.lt_of_lt_of_le (hi.hF b hb) ext1.size, Nat.le_trans hi.hbase ext1.size, hi.hM, fun j vj cj hj => ?_, hi.inj⟩
      obtain ⟨e', he', hv', hh⟩ := hi.live j vj cj hj
      exact ⟨e', he', hv', hh.ev ev1 (fun _ _ _ h => h) (fun b hb => heap_alloc_lt κ.drew.W _ (hh.lt hb))⟩
    have hat : κ1.W.heap[κ.W.heap.size]? = some (Obj.cells (olds ++ news ++ rest).toArray e (0, 0)) := heap_alloc_at κ.drew.W _
    have evm : Ev κ1 (κ1.move id ver (some κ.W.heap.size)) := move_ev hm
    refine ⟨κ1.move id ver (some κ.W.heap.size), .slice (some ⟨κ.W.heap.size, 0, none⟩) (n + m) cap, ?_, ?_, ext1.trans (move_ext hm), ?_⟩
    · rw [ev]; exact hrun
    · refine .msl _ _ _ _ _ _ κ.W.heap.size (olds ++ news ++ rest).toArray e (0, 0) (by simp [Cx.move]) hc1 hat ?_
      simp only [List.size_toArray]
      omega
    · refine inv1.move hl hm ?_ (fun j e' x' hj he' hx' hb' => ?_)
      · refine ⟨hi.hbase, fun h => absurd (hi.hF _ h) (Nat.lt_irrefl _), olds ++ news, rest, e, hat, ?_, ?_⟩
        · intro u hu
          rcases List.mem_append.1 hu with hu | hu
          · exact ho1 u hu
          · exact hs.one u hu
        · exact ((hor.append hxs).ev ev1).ev evm
      · cases hH : H j with
        | dead => rfl
        | live vj cj =>
          obtain ⟨e2, he2, _, hh⟩ := hi.live j vj cj hH
          have : e2 = e' := by have := he2.symm.trans he'; simpa using this
          subst this
          have hlt := hh.lt hx'
          have hb2 : κ.W.heap.size = x' := by simpa using hb'
          omega
  rcases hi.msl_inv hl hv with ⟨b, c, cs, T, fz, rfl, hm, hn, hb, hcap⟩ | ⟨A, b0, rfl, hm, hn⟩
  · obtain ⟨hbb, hF, vs, rest, T', hb', hv1, hvr⟩ := hi.place hl hm
    rw [hb'] at hb
    cases hb
    by_cases hroom : n + m ≤ c
    · -- in place
      have hfit : n * i.size + news.length ≤ (vs ++ rest).toArray.size := by
        rw [hnl, ← Nat.add_mul]
        exact Nat.le_trans (Nat.mul_le_mul_right _ hroom) (by simpa using hcap)
      have hrun := run_append_room_row κ.W t tx ty e i ht hinf b n c T _ hb' x m news hs hroom hfit
      have hvl : n * i.size ≤ vs.length := by rw [hvr.1]; exact h3
      -- the new row
      have hrow : (vs ++ rest).toArray.toList.take (n * i.size) ++ news ++ (vs ++ rest).toArray.toList.drop (n * i.size + news.length) = (vs.take (n * i.size) ++ news) ++ (vs ++ rest).drop (n * i.size + news.length) := by
        simp only
        rw [List.take_append_of_le_length hvl]
      rw [hrow] at hrun
      have hlen : ((vs.take (n * i.size) ++ news) ++ (vs ++ rest).drop (n * i.size + news.length)).length = (vs ++ rest).toArray.size := by
        have := hfit
        simp only [List.size_toArray] at this
        simp only [List.length_append, List.length_take, List.length_drop, List.size_toArray] at *
        omega
      have hone : ∀ u ∈ vs.take (n * i.size) ++ news, u.oneCell' = true := by
        intro u hu
        rcases List.mem_append.1 hu with hu | hu
        · exact hv1 u (List.mem_of_mem_take hu)
        · exact hs.one u hu
      have hrep : Reps κ (vs.take (n * i.size) ++ news) (cells.take (n * i.size) ++ xs) := (hvr.take _).append hxs
      have inv1 := hi.setRow hl hm hb' hF _ _ hlen hone hrep
      have ext1 := setRow_ext (base := base) hb' hF (show ((vs.take (n * i.size) ++ news) ++ (vs ++ rest).drop (n * i.size + news.length)).toArray.size = _ by simpa using hlen) hbb
      have hm1 : (κ.setRow b ((vs.take (n * i.size) ++ news) ++ (vs ++ rest).drop (n * i.size + news.length)).toArray).M id = some ⟨ver, some b⟩ := hm
      have inv2 := inv1.move (b' := some b) (upd_same _ _ _) hm1 (cells' := cells.take (n * i.size) ++ xs) (by
        obtain ⟨_, he, _, hh⟩ := inv1.live id ver _ (upd_same _ _ _)
        rw [hm1] at he
        cases he
        exact hh.ev (move_ev hm1) (fun _ _ _ h => h) (fun _ _ => rfl)) (fun j e' x' hj he' hx' hb2 => by
          have hb3 : b = x' := by simpa using hb2
          subst hb3
          rcases inv1.inj j id e' ⟨ver, some b⟩ b hj he' hm1 hx' rfl with h | h
          · exact h
          · rw [upd_same] at h; cases h)
      rw [upd_upd] at inv2
      refine ⟨_, _, hrun, ?_, ext1.trans (move_ext hm1), inv2⟩
      refine .msl _ _ _ _ _ _ b _ T (0, 0) (by simp [Cx.move]) hroom (setRow_heap _ _ _ _ _ _ hb') ?_
      simp only [Nat.zero_add] at hcap ⊢
      have : ((vs.take (n * i.size) ++ news) ++ (vs ++ rest).drop (n * i.size + news.length)).toArray.size = (vs ++ rest).toArray.size := by simpa using hlen
      rw [this]
      exact hcap
    · -- it grows
      have ho : (vs.take (n * i.size)).length = n * i.size := by rw [List.length_take, hvr.1]; omega
      refine grow (some ⟨b, 0, none⟩) c (vs.take (n * i.size)) (some b) rfl hm ho (fun u hu => hv1 u (List.mem_of_mem_take hu)) (hvr.take _) ?_ (by omega)
      exact run_firstCells_some (P := P) κ.W.drew i.size n ⟨b, 0, none⟩ n c _ ho (holdsOlds (base := base) (κ := κ.drew) hb' hv1 _)
  · subst hn
    by_cases hm0 : m = 0
    · subst hm0
      have hnews : news = [] := by
        apply List.eq_nil_of_length_eq_zero
        rw [hnl]
        simp
      subst hnews
      have hxnil : xs = [] := by
        apply List.eq_nil_of_length_eq_zero
        rw [← hxs.1]
        rfl
      subst hxnil
      have hrun := run_append_none κ.W t tx ty e i ht hinf A 0 0 x hs (Nat.le_refl _)
      refine ⟨κ.move id ver b0, .slice A 0 0, hrun, .mslNil _ _ _ _ _ b0 (by simp [Cx.move]), move_ext hm, ?_⟩
      refine hi.move hl hm ?_ (fun j e' x' hj he' hx' hb2 => ?_)
      · obtain ⟨e', he', _, hh⟩ := hi.live id ver cells hl
        rw [hm] at he'
        cases he'
        unfold Held at *
        cases b0 with
        | none => simp
        | some b =>
          obtain ⟨q1, q2, vs, rest, T, q3, q4, q5⟩ := hh
          exact ⟨q1, q2, [], vs ++ rest, T, q3, (fun _ h => by cases h), by simpa using Reps.nil _⟩
      · rcases hi.inj j id e' ⟨ver, b0⟩ x' hj he' hm hx' hb2 with h | h
        · exact h
        · rw [h] at hl; cases hl
    · refine grow A 0 [] b0 rfl hm (by simp) (fun _ h => by cases h) (by simpa using Reps.nil κ) ?_ (by omega)
      cases A with
      | none => exact run_firstCells_none _ _ _ _ _
      | some ad => exact run_firstCells_some (P := P) κ.W.drew i.size 0 ad 0 0 [] (by simp) (fun j v h => by simp at h)
end
end Go.TH
