/-
  TH, part 25: behind a call: new places are numbered anew, or only read from then on.
-/
import Derived.Test.YtbhibkochjfdfaaTh24
set_option linter.unusedVariables false
set_option linter.unusedSimpArgs false
namespace Go.TH
open Go

/-- Where a place is kept. -/
def placeL : List (Nat × Nat) → Nat → Nat → Nat → Option Nat
  | [], _, _, _ => none
  | p :: r, k, id, ver => if p.1 = id ∧ p.2 = ver then some k else placeL r (k + 1) id ver
theorem placeL_some : ∀ {L : List (Nat × Nat)} {k id ver j : Nat}, placeL L k id ver = some j → ∃ i, j = k + i ∧ L[i]? = some (id, ver)
  | [], k, id, ver, j, h => by cases h
  | p :: r, k, id, ver, j, h => by
    unfold placeL at h
    split at h
    · rename_i hp
      cases h
      exact ⟨0, by omega, by simp [← hp.1, ← hp.2]⟩
    · obtain ⟨i, h1, h2⟩ := placeL_some h
      exact ⟨i + 1, by omega, by simpa using h2⟩
theorem placeL_none : ∀ {L : List (Nat × Nat)} {k id ver : Nat}, placeL L k id ver = none → (id, ver) ∉ L
  | [], k, id, ver, h => by simp
  | p :: r, k, id, ver, h => by
    unfold placeL at h
    split at h
    · cases h
    · rename_i hp
      have := placeL_none h
      intro hm
      rcases List.mem_cons.1 hm with e | hm
      · exact hp ⟨by rw [← e], by rw [← e]⟩
      · exact this hm
/-- What becomes of a place's name. 'd': how deep places that are not kept are pictured. -/
def keepR (nx : Nat) (L : List (Nat × Nat)) (H : AH) : Nat → AV → AV
  | 0, .ptr id ver off => if id < nx then .ptr id ver off else match placeL L nx id ver with
    | some k => .ptr k 0 off
    | none => .junk
  | 0, .msl id ver sz off n => if id < nx then .msl id ver sz off n else match placeL L nx id ver with
    | some k => .msl k 0 sz off n
    | none => .junk
  | d + 1, .ptr id ver off => if id < nx then .ptr id ver off else match placeL L nx id ver with
    | some k => .ptr k 0 off
    | none => derefA H (List.map (mapRef (keepR nx L H d))) (.ptr id ver off)
  | d + 1, .msl id ver sz off n => if id < nx then .msl id ver sz off n else match placeL L nx id ver with
    | some k => .msl k 0 sz off n
    | none => derefA H (List.map (mapRef (keepR nx L H d))) (.msl id ver sz off n)
  | _, a => a
def keepA (nx : Nat) (L : List (Nat × Nat)) (H : AH) (d : Nat) (a : AV) : AV := mapRef (keepR nx L H d) a

mutual
/-- Names of places below 'n' alone. -/
def refsLt (n : Nat) : AV → Prop
  | .sl _ _ cs => refsLtL n cs
  | .ro cs => refsLtL n cs
  | .agg cs => refsLtL n cs
  | .tup cs => refsLtL n cs
  | .fn _ cs => refsLtL n cs
  | .ptr id _ _ => id < n
  | .msl id _ _ _ _ => id < n
  | _ => True
def refsLtL (n : Nat) : List AV → Prop
  | [] => True
  | a :: l => refsLt n a ∧ refsLtL n l
end
theorem refsLtL_iff {n : Nat} : ∀ {l : List AV}, refsLtL n l ↔ ∀ a ∈ l, refsLt n a
  | [] => by simp [refsLtL]
  | a :: l => by simp [refsLtL, refsLtL_iff (l := l)]
theorem Rep.refs {W : World} {M : Nat → Option Ent} {F : Nat → Prop} {n : Nat} (hM : ∀ id, n ≤ id → M id = none) {v : Value} {a : AV} (r : Rep W M F v a) : refsLt n a := by
  have pt : ∀ {vs : List Value} {cells : List AV}, vs.length = cells.length → (∀ (j : Nat) (v : Value) (a : AV), vs[j]? = some v → cells[j]? = some a → refsLt n a) → refsLtL n cells := by
    intro vs cells hl h
    rw [refsLtL_iff]
    intro a ha
    obtain ⟨j, hj⟩ := List.mem_iff_getElem?.1 ha
    have hjl : j < vs.length := by rw [hl]; exact (List.getElem?_eq_some_iff.1 hj).1
    exact h j _ a (List.getElem?_eq_getElem hjl) hj
  have lt : ∀ {id : Nat} {e : Ent}, M id = some e → id < n := fun {id e} h => Nat.lt_of_not_le fun hn => by rw [hM id hn] at h; cases h
  induction r with
  | int k n => simp [refsLt]
  | bool b => simp [refsLt]
  | str s => simp [refsLt]
  | sl ad n c t cells vs hn ht hF hs hl hc hr ih => simp only [refsLt]; exact pt hl ih
  | sl0 A n c t hn ht => simp [refsLt, refsLtL]
  | ro ad cells vs hF hs hl hc hr ih => simp only [refsLt]; exact pt hl ih
  | ptr id ver off b hm => simp only [refsLt]; exact lt hm
  | ptrOld v id ver off e hm hv => simp only [refsLt]; exact lt hm
  | msl id ver sz off n c b cs T fz hm hn hb hcap => simp only [refsLt]; exact lt hm
  | mslNil A id ver sz off b hm => simp only [refsLt]; exact lt hm
  | mslOld v id ver sz off n e hm hv => simp only [refsLt]; exact lt hm
  | agg vs cells hl h1 hr ih => simp only [refsLt]; exact pt hl ih
  | tup vs as hl hr ih => simp only [refsLt]; exact pt hl ih
  | fn f vs as hl hr ih => simp only [refsLt]; exact pt hl ih
  | nilp => simp [refsLt]
  | junk v => simp [refsLt]
theorem Rep.low {W : World} {M M' : Nat → Option Ent} {F F' : Nat → Prop} {n : Nat} (hM : ∀ id, id < n → M' id = M id) (hF : ∀ b, F b → F' b) {v : Value} {a : AV} (r : Rep W M F v a) : refsLt n a → Rep W M' F' v a := by
  have pt : ∀ {vs : List Value} {cells : List AV}, refsLtL n cells → (∀ (j : Nat) (v : Value) (a : AV), vs[j]? = some v → cells[j]? = some a → refsLt n a → Rep W M' F' v a) →
      ∀ (j : Nat) (v : Value) (a : AV), vs[j]? = some v → cells[j]? = some a → Rep W M' F' v a :=
    fun {vs cells} h ih j v a h1 h2 => ih j v a h1 h2 (refsLtL_iff.1 h a (List.mem_of_getElem? h2))
  induction r with
  | int k n => exact fun _ => .int k n
  | bool b => exact fun _ => .bool b
  | str s => exact fun _ => .str s
  | sl ad n c t cells vs hn ht hF' hs hl hc hr ih => exact fun h => .sl ad n c t cells vs hn ht (hF _ hF') hs hl hc (pt (by simpa [refsLt] using h) ih)
  | sl0 A n c t hn ht => exact fun _ => .sl0 A n c t hn ht
  | ro ad cells vs hF' hs hl hc hr ih => exact fun h => .ro ad cells vs (hF _ hF') hs hl hc (pt (by simpa [refsLt] using h) ih)
  | ptr id ver off b hm => exact fun h => .ptr id ver off b (by rw [hM id (by simpa [refsLt] using h)]; exact hm)
  | ptrOld v id ver off e hm hv => exact fun h => .ptrOld v id ver off e (by rw [hM id (by simpa [refsLt] using h)]; exact hm) hv
  | msl id ver sz off n c b cs T fz hm hn hb hcap => exact fun h => .msl id ver sz off n c b cs T fz (by rw [hM id (by simpa [refsLt] using h)]; exact hm) hn hb hcap
  | mslNil A id ver sz off b hm => exact fun h => .mslNil A id ver sz off b (by rw [hM id (by simpa [refsLt] using h)]; exact hm)
  | mslOld v id ver sz off n e hm hv => exact fun h => .mslOld v id ver sz off n e (by rw [hM id (by simpa [refsLt] using h)]; exact hm) hv
  | agg vs cells hl h1 hr ih => exact fun h => .agg vs cells hl h1 (pt (by simpa [refsLt] using h) ih)
  | tup vs as hl hr ih => exact fun h => .tup vs as hl (pt (by simpa [refsLt] using h) ih)
  | fn f vs as hl hr ih => exact fun h => .fn f vs as hl (pt (by simpa [refsLt] using h) ih)
  | nilp => exact fun _ => .nilp
  | junk v => exact fun _ => .junk v

/-- What is kept is alive, and each place once. -/
structure KeepOk (nx : Nat) (L : List (Nat × Nat)) (H' : AH) : Prop where
  live : ∀ p ∈ L, nx ≤ p.1 ∧ ∃ cells, H' p.1 = .live p.2 cells
  once : (L.map (·.1)).Nodup
/-- The heap behind it. -/
structure KeepH (nx : Nat) (L : List (Nat × Nat)) (d : Nat) (H H' H2 : AH) : Prop where
  old : ∀ i, i < nx → H2 i = .dead ∨ (H2 i = H' i ∧ (H' i = H i ∨ ∃ ver cells, H' i = .live ver cells ∧ pureL cells = true))
  new : ∀ k p, L[k]? = some p → H2 (nx + k) = .dead ∨ ∃ cells, H' p.1 = .live p.2 cells ∧ H2 (nx + k) = .live 0 (cells.map (keepA nx L H' d))
  out : ∀ i, nx + L.length ≤ i → H2 i = .dead ∨ H2 i = H i

section
variable {base nx nx' : Nat} {κ κ' : Cx} {H H' H2 : AH} {L : List (Nat × Nat)} {d : Nat}
def keepM (κ' : Cx) (nx : Nat) (L : List (Nat × Nat)) (i : Nat) : Option Ent :=
  if i < nx then κ'.M i else match L[i - nx]? with
    | some p => (κ'.M p.1).map fun e => ⟨0, e.blk⟩
    | none => none
def keepF (κ' : Cx) (nx : Nat) (L : List (Nat × Nat)) (H' : AH) (b : Nat) : Prop :=
  κ'.F b ∨ ∃ id ver cells e, nx ≤ id ∧ H' id = .live ver cells ∧ placeL L nx id ver = none ∧ κ'.M id = some e ∧ e.blk = some b
def keepC (κ' : Cx) (nx : Nat) (L : List (Nat × Nat)) (H' : AH) : Cx := ⟨κ'.W, keepM κ' nx L, keepF κ' nx L H'⟩
theorem keepM_lt {i : Nat} (h : i < nx) : keepM κ' nx L i = κ'.M i := by simp [keepM, h]
theorem keepM_at {i : Nat} {p : Nat × Nat} (h : L[i]? = some p) : keepM κ' nx L (nx + i) = (κ'.M p.1).map fun e => ⟨0, e.blk⟩ := by
  have : ¬ nx + i < nx := by omega
  simp only [keepM, if_neg this, Nat.add_sub_cancel_left, h]
theorem keep_ref (hi : Inv base κ' H' nx') (hk : KeepOk nx L H') : ∀ (d : Nat) (v : Value) (a : AV), Rep κ'.W κ'.M κ'.F v a → (∃ id ver off, a = .ptr id ver off) ∨ (∃ id ver sz off n, a = .msl id ver sz off n) →
    Rep κ'.W (keepM κ' nx L) (keepF κ' nx L H') v (keepR nx L H' d a) := by
  have kept : ∀ {id ver k : Nat}, placeL L nx id ver = some k → ∃ cells, H' id = .live ver cells ∧ ∀ e, κ'.M id = some e → keepM κ' nx L k = some ⟨0, e.blk⟩ := by
    intro id ver k h
    obtain ⟨i, rfl, h2⟩ := placeL_some h
    obtain ⟨_, cells, h3⟩ := hk.live _ (List.mem_of_getElem? h2)
    refine ⟨cells, h3, fun e he => ?_⟩
    rw [keepM_at h2, he]
    rfl
  have frz : ∀ {id ver : Nat} {cells : List AV} {b : Nat}, ¬ id < nx → placeL L nx id ver = none → H' id = .live ver cells → κ'.M id = some ⟨ver, some b⟩ → keepF κ' nx L H' b :=
    fun {id ver cells b} h1 h2 h3 h4 => .inr ⟨id, ver, cells, _, Nat.le_of_not_lt h1, h3, h2, h4, rfl⟩
  intro d
  induction d with
  | zero =>
    rintro v a hr (⟨id, ver, off, rfl⟩ | ⟨id, ver, sz, off, n, rfl⟩)
    · simp only [keepR]
      split
      · rename_i hlt
        exact hr.low (fun i hi => keepM_lt hi) (fun b hb => .inl hb) hlt
      · split
        · rename_i k hp
          obtain ⟨cells, hl, hm⟩ := kept hp
          obtain ⟨b, rfl, hb⟩ := hi.ptr_inv hl hr
          exact .ptr _ _ _ b (hm _ hb)
        · exact .junk v
    · simp only [keepR]
      split
      · rename_i hlt
        exact hr.low (fun i hi => keepM_lt hi) (fun b hb => .inl hb) hlt
      · split
        · rename_i k hp
          obtain ⟨cells, hl, hm⟩ := kept hp
          rcases hi.msl_inv hl hr with ⟨b, c, cs, T, fz, rfl, hb, hn, hh, hcap⟩ | ⟨A, b, rfl, hb, rfl⟩
          · exact .msl _ _ _ _ _ c b cs T fz (hm _ hb) hn hh hcap
          · exact .mslNil _ _ _ _ _ _ (hm _ hb)
        · exact .junk v
  | succ d ih =>
    have cells : ∀ {vs : List Value} {cs : List AV}, Reps κ' vs cs → Reps (keepC κ' nx L H') vs (cs.map (mapRef (keepR nx L H' d))) := by
      intro vs cs h
      refine ⟨by simp [h.1], fun j v a h1 h2 => ?_⟩
      rw [List.getElem?_map] at h2
      cases hc : cs[j]? with
      | none => rw [hc] at h2; cases h2
      | some x => rw [hc] at h2; cases h2; exact mapRef_rep (fun b hb => .inl hb) _ ih (h.2 j v x h1 hc)
    rintro v a hr (⟨id, ver, off, rfl⟩ | ⟨id, ver, sz, off, n, rfl⟩)
    · simp only [keepR]
      split
      · rename_i hlt
        exact hr.low (fun i hi => keepM_lt hi) (fun b hb => .inl hb) hlt
      · rename_i hlt
        split
        · rename_i k hp
          obtain ⟨cells, hl, hm⟩ := kept hp
          obtain ⟨b, rfl, hb⟩ := hi.ptr_inv hl hr
          exact .ptr _ _ _ b (hm _ hb)
        · rename_i hp
          cases hl : H' id with
          | dead => simp only [derefA, hl]; exact .junk v
          | live v' cs =>
            simp only [derefA, hl]
            split
            · rename_i hv
              subst hv
              obtain ⟨b, rfl, hm⟩ := hi.ptr_inv hl hr
              obtain ⟨_, _, vs, rest, T, hb, h1, hrs⟩ := hi.place hl hm
              have hca := (cellsAt_block (κ := κ') hb h1).drop off
              rw [add_lit, Nat.zero_add] at hca
              exact Rep.ro_mk (κ := keepC κ' nx L H') (frz hlt hp hl hm) hca (cells (hrs.drop off))
            · exact .junk v
    · simp only [keepR]
      split
      · rename_i hlt
        exact hr.low (fun i hi => keepM_lt hi) (fun b hb => .inl hb) hlt
      · rename_i hlt
        split
        · rename_i k hp
          obtain ⟨cells, hl, hm⟩ := kept hp
          rcases hi.msl_inv hl hr with ⟨b, c, cs, T, fz, rfl, hb, hn, hh, hcap⟩ | ⟨A, b, rfl, hb, rfl⟩
          · exact .msl _ _ _ _ _ c b cs T fz (hm _ hb) hn hh hcap
          · exact .mslNil _ _ _ _ _ _ (hm _ hb)
        · rename_i hp
          cases hl : H' id with
          | dead => simp only [derefA, hl]; exact .junk v
          | live v' cs =>
            simp only [derefA, hl]
            split
            · rename_i hv
              subst hv
              rcases hi.msl_inv hl hr with ⟨b, c, cs', T, fz, rfl, hm, hn, hb0, hcap⟩ | ⟨A, b0, rfl, hm, hn⟩
              · obtain ⟨_, _, vs, rest, T', hb, h1, hrs⟩ := hi.place hl hm
                have hca := ((cellsAt_block (κ := κ') hb h1).drop off).take (n * sz)
                rw [add_lit, Nat.zero_add] at hca
                exact Rep.sl_mk (κ := keepC κ' nx L H') hn (fun h => by cases h) (.inr ⟨_, _, rfl, frz hlt hp hl hm, hca, cells ((hrs.drop off).take (n * sz))⟩)
              · subst hn
                simp only [Nat.zero_mul, List.take_zero, List.map_nil]
                exact .sl0 A 0 0 false (Nat.le_refl _) (fun h => by cases h)
            · exact .junk v
theorem keep_rep (hi : Inv base κ' H' nx') (hk : KeepOk nx L H') (d : Nat) {v : Value} {a : AV} (h : Rep κ'.W κ'.M κ'.F v a) : Rep κ'.W (keepM κ' nx L) (keepF κ' nx L H') v (keepA nx L H' d a) :=
  mapRef_rep (fun b hb => .inl hb) _ (keep_ref hi hk d) h
theorem keep_reps (hi : Inv base κ' H' nx') (hk : KeepOk nx L H') (d : Nat) {vs : List Value} {cs : List AV} (h : Reps κ' vs cs) : Reps (keepC κ' nx L H') vs (cs.map (keepA nx L H' d)) := by
  refine ⟨by simp [h.1], fun j v a h1 h2 => ?_⟩
  rw [List.getElem?_map] at h2
  cases hc : cs[j]? with
  | none => rw [hc] at h2; cases h2
  | some x => rw [hc] at h2; cases h2; exact keep_rep hi hk d (h.2 j v x h1 hc)
theorem keep_new {b : Nat} (hi : Inv base κ' H' nx') (h : keepF κ' nx L H' b) : κ'.F b ∨ (base ≤ b ∧ b < κ'.W.heap.size) := by
  rcases h with h | ⟨id, ver, cells, e, h1, h2, h3, h4, h5⟩
  · exact .inl h
  · obtain ⟨e', he', _, hh⟩ := hi.live id ver cells h2
    rw [h4] at he'
    cases he'
    refine .inr ⟨?_, hh.lt h5⟩
    unfold Held at hh
    rw [h5] at hh
    exact hh.1
/-- The state behind it. -/
theorem keep_all (h0 : Inv base κ H nx) (hext : Ext base κ κ') (hi : Inv base κ' H' nx') (hk : KeepOk nx L H') (hh : KeepH nx L d H H' H2) :
    Ext base κ (keepC κ' nx L H') ∧ Inv base (keepC κ' nx L H') H2 (nx + L.length) := by
  have ev : Ev κ (keepC κ' nx L H') := by
    refine ⟨fun b hb => ⟨.inl (hext.ev.fr b hb).1, (hext.ev.fr b hb).2⟩, fun id e he => ?_, hext.ev.shp⟩
    have hlt : id < nx := Nat.lt_of_not_le fun h => by rw [h0.hM id h] at he; cases he
    obtain ⟨e', h1, h2⟩ := hext.ev.pl id e he
    exact ⟨e', (keepM_lt (κ' := κ') (L := L) hlt).trans h1, h2⟩
  -- a block that is held stays so
  have held : ∀ {id ver : Nat} {cells cells2 : List AV} {e : Ent}, H' id = .live ver cells → κ'.M id = some e → Held base κ' e cells → (id < nx ∨ ∃ v, placeL L nx id ver = some v) →
      (∀ vs, Reps κ' vs cells → Reps (keepC κ' nx L H') vs cells2) → (cells = [] → cells2 = []) → ∀ w, Held base (keepC κ' nx L H') ⟨w, e.blk⟩ cells2 := by
    intro id ver cells cells2 e hl hm hd hid hrs hnil w
    unfold Held at *
    cases hb : e.blk with
    | none => rw [hb] at hd; exact hnil hd
    | some b =>
      rw [hb] at hd
      obtain ⟨g1, g2, vs, rest, T, g3, g4, g5⟩ := hd
      refine ⟨g1, ?_, vs, rest, T, g3, g4, hrs vs g5⟩
      rintro (hF | ⟨id2, ver2, cells2, e2, k1, k2, k3, k4, k5⟩)
      · exact g2 hF
      · by_cases he : id2 = id
        · subst he
          rw [hl] at k2
          cases k2
          rcases hid with hid | ⟨v, hv⟩
          · omega
          · rw [hv] at k3; cases k3
        · rcases hi.inj id2 id e2 e b he k4 hm k5 hb with h | h
          · rw [h] at k2; cases k2
          · rw [h] at hl; cases hl
  refine ⟨⟨ev, hext.os, hext.tape, hext.output, hext.size, hext.below, fun b hb => ?_⟩, ⟨fun b hb => ?_, hi.hbase, fun id hid => ?_, fun id ver cells hl => ?_, fun i j ei ej b hij h1 h2 h3 h4 => ?_⟩⟩
  · rcases keep_new hi hb with h | h
    · exact hext.newF b h
    · exact .inr h.1
  · rcases keep_new hi hb with h | h
    · exact hi.hF b h
    · exact h.2
  · have : ¬ id < nx := by omega
    have h2 : L[id - nx]? = none := List.getElem?_eq_none (by omega)
    simp [keepC, keepM, this, h2]
  · by_cases hlt : id < nx
    · rcases hh.old id hlt with h | ⟨h, h'⟩
      · rw [h] at hl; cases hl
      · rw [h] at hl
        obtain ⟨e, he, hv, hd⟩ := hi.live id ver cells hl
        refine ⟨e, (keepM_lt hlt).trans he, hv, ?_⟩
        have key : ∀ vs, Reps κ' vs cells → Reps (keepC κ' nx L H') vs cells := by
          intro vs hvs
          rcases h' with h' | ⟨ver2, cells2, h2, hp⟩
          · rw [h'] at hl
            obtain ⟨e0, he0, hv0, hd0⟩ := h0.live id ver cells hl
            have hrefs : refsLtL nx cells := by
              unfold Held at hd0
              cases hb : e0.blk with
              | none => rw [hb] at hd0; subst hd0; simp [refsLtL]
              | some b =>
                rw [hb] at hd0
                obtain ⟨_, _, vs0, _, _, _, _, hr0⟩ := hd0
                rw [refsLtL_iff]
                intro a ha
                obtain ⟨j, hj⟩ := List.mem_iff_getElem?.1 ha
                have hjl : j < vs0.length := by rw [hr0.1]; exact (List.getElem?_eq_some_iff.1 hj).1
                exact (hr0.2 j _ a (List.getElem?_eq_getElem hjl) hj).refs h0.hM
            exact ⟨hvs.1, fun j v a h1 h2 => (hvs.2 j v a h1 h2).low (fun i hi => keepM_lt hi) (fun b hb => .inl hb) (refsLtL_iff.1 hrefs a (List.mem_of_getElem? h2))⟩
          · rw [h2] at hl
            cases hl
            have hp' : ∀ a ∈ cells, pureA a = true := fun a ha => by
              obtain ⟨j, hj⟩ := List.mem_iff_getElem?.1 ha
              exact pureL_get hp hj
            exact ⟨hvs.1, fun j v a h1 h2 => (((hvs.2 j v a h1 h2).pure (M' := keepM κ' nx L) (hp' a (List.mem_of_getElem? h2)))).low (n := 0) (fun i hi => by omega) (fun b hb => .inl hb)
              ((((hvs.2 j v a h1 h2).pure (M' := fun _ => none) (hp' a (List.mem_of_getElem? h2)))).refs (fun _ _ => rfl))⟩
        have := held hl he hd (.inl hlt) key (fun h => h) e.ver
        exact this
    · obtain ⟨k, rfl⟩ : ∃ k, id = nx + k := ⟨id - nx, by omega⟩
      by_cases hkl : k < L.length
      · have hp : L[k]? = some L[k] := List.getElem?_eq_getElem hkl
        rcases hh.new k _ hp with h | ⟨cells0, h1, h2⟩
        · rw [h] at hl; cases hl
        · rw [h2] at hl
          cases hl
          obtain ⟨e, he, hv, hd⟩ := hi.live _ _ _ h1
          refine ⟨⟨0, e.blk⟩, by show keepM κ' nx L (nx + k) = _; rw [keepM_at hp, he]; rfl, rfl, ?_⟩
          refine held h1 he hd (.inr ?_) (fun vs h => keep_reps hi hk d h) (fun h => by rw [h]; rfl) 0
          cases hpl : placeL L nx L[k].1 L[k].2 with
          | some v => exact ⟨v, rfl⟩
          | none => exact absurd (List.getElem_mem hkl) (placeL_none hpl)
      · rcases hh.out _ (show nx + L.length ≤ nx + k by omega) with h | h
        · rw [h] at hl; cases hl
        · rw [h] at hl
          have := h0.live_lt hl
          omega
  · -- one block, one place
    have src : ∀ {i : Nat} {ei : Ent}, keepM κ' nx L i = some ei → ei.blk = some b → (i < nx ∧ κ'.M i = some ei) ∨ ∃ k p e, i = nx + k ∧ L[k]? = some p ∧ κ'.M p.1 = some e ∧ e.blk = some b := by
      intro i ei hm hb
      unfold keepM at hm
      split at hm
      · rename_i hlt; exact .inl ⟨hlt, hm⟩
      · rename_i hlt
        split at hm
        · rename_i p hp
          cases hq : κ'.M p.1 with
          | none => rw [hq] at hm; cases hm
          | some e =>
            rw [hq] at hm
            cases hm
            exact .inr ⟨i - nx, p, e, by omega, hp, hq, hb⟩
        · cases hm
    rcases src h1 h3 with ⟨i1, i2⟩ | ⟨k, p, e, rfl, p1, p2, p3⟩
    · rcases src h2 h4 with ⟨j1, j2⟩ | ⟨k, p, e, rfl, p1, p2, p3⟩
      · rcases hi.inj i j ei ej b hij i2 j2 h3 h4 with h | h
        · rcases hh.old i i1 with g | ⟨g, _⟩
          · exact .inl g
          · exact .inl (g.trans h)
        · rcases hh.old j j1 with g | ⟨g, _⟩
          · exact .inr g
          · exact .inr (g.trans h)
      · obtain ⟨q1, cells, q2⟩ := hk.live p (List.mem_of_getElem? p1)
        rcases hi.inj i p.1 ei e b (by omega) i2 p2 h3 p3 with h | h
        · rcases hh.old i i1 with g | ⟨g, _⟩
          · exact .inl g
          · exact .inl (g.trans h)
        · rw [h] at q2; cases q2
    · obtain ⟨q1, cells, q2⟩ := hk.live p (List.mem_of_getElem? p1)
      rcases src h2 h4 with ⟨j1, j2⟩ | ⟨k', p', e', rfl, p1', p2', p3'⟩
      · rcases hi.inj j p.1 ej e b (by omega) j2 p2 h4 p3 with h | h
        · rcases hh.old j j1 with g | ⟨g, _⟩
          · exact .inr g
          · exact .inr (g.trans h)
        · rw [h] at q2; cases q2
      · obtain ⟨q1', cells', q2'⟩ := hk.live p' (List.mem_of_getElem? p1')
        have hne : p.1 ≠ p'.1 := by
          intro he
          have hkk : k ≠ k' := fun h => hij (by rw [h])
          have hk1 : k < L.length := (List.getElem?_eq_some_iff.1 p1).1
          have hk2 : k' < L.length := (List.getElem?_eq_some_iff.1 p1').1
          have hnd := hk.once
          unfold List.Nodup at hnd
          rw [List.pairwise_iff_getElem] at hnd
          obtain ⟨_, e1⟩ := List.getElem?_eq_some_iff.1 p1
          obtain ⟨_, e2⟩ := List.getElem?_eq_some_iff.1 p1'
          rcases Nat.lt_or_gt_of_ne hkk with h | h
          · refine hnd k k' (by simpa using hk1) (by simpa using hk2) h ?_
            simp [e1, e2, he]
          · refine hnd k' k (by simpa using hk2) (by simpa using hk1) h ?_
            simp [e1, e2, he]
        rcases hi.inj p.1 p'.1 e e' b hne p2 p2' p3 p3' with h | h
        · rw [h] at q2; cases q2
        · rw [h] at q2'; cases q2'
end
/-- BEHIND A CALL. -/
theorem CallC.keep {P : Program} {f : FuncId} {args : List AV} {H : AH} {nx : Nat} {r : AV} {H' : AH} {nx' : Nat} (h : CallC P f args H nx r H' nx') {L : List (Nat × Nat)} {d : Nat} {H2 : AH}
    (hk : KeepOk nx L H') (hh : KeepH nx L d H H' H2) : CallC P f args H nx (keepA nx L H' d r) H2 (nx + L.length) := by
  refine ⟨h.1, fun base κ vs hi hr => (h.2 base κ vs hi hr).mono ?_⟩
  rintro e W' ⟨v, κ', rfl, rfl, hrep, hext, hinv⟩
  obtain ⟨h1, h2⟩ := keep_all hi hext hinv hk hh
  exact ⟨v, keepC κ' nx L H', rfl, rfl, keep_rep hinv hk d hrep, h1, h2⟩
theorem ACallD.keep {P : Program} {f : FuncId} {args : List AV} {H : AH} {nx : Nat} {Q Q2 : AV → AH → Nat → Prop} (h : ACallD P f args H nx Q)
    (hk : ∀ r H' nx', Q r H' nx' → ∃ L d H2, KeepOk nx L H' ∧ KeepH nx L d H H' H2 ∧ Q2 (keepA nx L H' d r) H2 (nx + L.length)) : ACallD P f args H nx Q2 := by
  obtain ⟨r, H', nx', h1, h2⟩ := h
  obtain ⟨L, d, H2, k1, k2, k3⟩ := hk r H' nx' h2
  exact ⟨_, _, _, h1.keep k1 k2, k3⟩
end Go.TH
