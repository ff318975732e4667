/-
  TH, part 18: contracts at other states: what hangs on no memory, what is only read, what is handed over to be read.
-/
import Derived.Test.YtbhibkochjfdfaaTh17
set_option linter.unusedVariables false
set_option linter.unusedSimpArgs false
namespace Go.TH
open Go

mutual
/-- No places inside. -/
def pureA : AV → Bool
  | .sl _ _ cs => pureL cs
  | .ro cs => pureL cs
  | .agg cs => pureL cs
  | .tup cs => pureL cs
  | .fn _ cs => pureL cs
  | .ptr _ _ _ => false
  | .msl _ _ _ _ _ => false
  | .int _ _ => true
  | .bool _ => true
  | .str _ => true
  | .nilp => true
  | .junk => true
def pureL : List AV → Bool
  | [] => true
  | a :: l => pureA a && pureL l
end
mutual
/-- No memory at all inside. -/
def scalA : AV → Bool
  | .sl _ _ cs => cs.isEmpty
  | .ro _ => false
  | .agg cs => scalL cs
  | .tup cs => scalL cs
  | .fn _ cs => scalL cs
  | .ptr _ _ _ => false
  | .msl _ _ _ _ _ => false
  | .int _ _ => true
  | .bool _ => true
  | .str _ => true
  | .nilp => true
  | .junk => true
def scalL : List AV → Bool
  | [] => true
  | a :: l => scalA a && scalL l
end
theorem pureL_get : ∀ {l : List AV} {j : Nat} {a : AV}, pureL l = true → l[j]? = some a → pureA a = true
  | [], j, a, _, h => by simp at h
  | x :: l, 0, a, hp, h => by simp at h; subst h; unfold pureL at hp; simp at hp; exact hp.1
  | x :: l, j + 1, a, hp, h => by unfold pureL at hp; simp at hp h; exact pureL_get hp.2 h
theorem scalL_get : ∀ {l : List AV} {j : Nat} {a : AV}, scalL l = true → l[j]? = some a → scalA a = true
  | [], j, a, _, h => by simp at h
  | x :: l, 0, a, hp, h => by simp at h; subst h; unfold scalL at hp; simp at hp; exact hp.1
  | x :: l, j + 1, a, hp, h => by unfold scalL at hp; simp at hp h; exact scalL_get hp.2 h
theorem pureL_append (a b : List AV) : pureL (a ++ b) = (pureL a && pureL b) := by
  induction a with
  | nil => simp [pureL]
  | cons x a ih => simp [pureL, ih, Bool.and_assoc]

theorem Rep.pure {W : World} {M M' : Nat → Option Ent} {F : Nat → Prop} {v : Value} {a : AV} (r : Rep W M F v a) : pureA a = true → Rep W M' F v a := by
  induction r with
  | int k n => exact fun _ => .int k n
  | bool b => exact fun _ => .bool b
  | str s => exact fun _ => .str s
  | sl ad n c t cells vs hn ht hF hs hl hc hr ih => exact fun hp => .sl ad n c t cells vs hn ht hF hs hl hc (fun j v a h1 h2 => ih j v a h1 h2 (pureL_get (by simpa [pureA] using hp) h2))
  | sl0 A n c t hn ht => exact fun _ => .sl0 A n c t hn ht
  | ro ad cells vs hF hs hl hc hr ih => exact fun hp => .ro ad cells vs hF hs hl hc (fun j v a h1 h2 => ih j v a h1 h2 (pureL_get (by simpa [pureA] using hp) h2))
  | ptr id ver off b hm => intro hp; simp [pureA] at hp
  | ptrOld v id ver off e hm hv => intro hp; simp [pureA] at hp
  | msl id ver sz off n c b cs T fz hm hn hb hcap => intro hp; simp [pureA] at hp
  | mslNil A id ver sz off b hm => intro hp; simp [pureA] at hp
  | mslOld v id ver sz off n e hm hv => intro hp; simp [pureA] at hp
  | agg vs cells hl h1 hr ih => exact fun hp => .agg vs cells hl h1 (fun j v a h1 h2 => ih j v a h1 h2 (pureL_get (by simpa [pureA] using hp) h2))
  | tup vs as hl hr ih => exact fun hp => .tup vs as hl (fun j v a h1 h2 => ih j v a h1 h2 (pureL_get (by simpa [pureA] using hp) h2))
  | fn f vs as hl hr ih => exact fun hp => .fn f vs as hl (fun j v a h1 h2 => ih j v a h1 h2 (pureL_get (by simpa [pureA] using hp) h2))
  | nilp => exact fun _ => .nilp
  | junk v => exact fun _ => .junk v
theorem Rep.scal {W W' : World} {M M' : Nat → Option Ent} {F F' : Nat → Prop} {v : Value} {a : AV} (r : Rep W M F v a) : scalA a = true → Rep W' M' F' v a := by
  induction r with
  | int k n => exact fun _ => .int k n
  | bool b => exact fun _ => .bool b
  | str s => exact fun _ => .str s
  | sl ad n c t cells vs hn ht hF hs hl hc hr ih =>
    intro hp
    have : cells = [] := by simpa [scalA] using hp
    subst this
    exact .sl0 _ n c t hn ht
  | sl0 A n c t hn ht => exact fun _ => .sl0 A n c t hn ht
  | ro ad cells vs hF hs hl hc hr ih => intro hp; simp [scalA] at hp
  | ptr id ver off b hm => intro hp; simp [scalA] at hp
  | ptrOld v id ver off e hm hv => intro hp; simp [scalA] at hp
  | msl id ver sz off n c b cs T fz hm hn hb hcap => intro hp; simp [scalA] at hp
  | mslNil A id ver sz off b hm => intro hp; simp [scalA] at hp
  | mslOld v id ver sz off n e hm hv => intro hp; simp [scalA] at hp
  | agg vs cells hl h1 hr ih => exact fun hp => .agg vs cells hl h1 (fun j v a h1 h2 => ih j v a h1 h2 (scalL_get (by simpa [scalA] using hp) h2))
  | tup vs as hl hr ih => exact fun hp => .tup vs as hl (fun j v a h1 h2 => ih j v a h1 h2 (scalL_get (by simpa [scalA] using hp) h2))
  | fn f vs as hl hr ih => exact fun hp => .fn f vs as hl (fun j v a h1 h2 => ih j v a h1 h2 (scalL_get (by simpa [scalA] using hp) h2))
  | nilp => exact fun _ => .nilp
  | junk v => exact fun _ => .junk v

mutual
/-- The places inside are replaced. -/
def mapRef (g : AV → AV) : AV → AV
  | .sl n t cs => .sl n t (mapRefL g cs)
  | .ro cs => .ro (mapRefL g cs)
  | .agg cs => .agg (mapRefL g cs)
  | .tup cs => .tup (mapRefL g cs)
  | .fn f cs => .fn f (mapRefL g cs)
  | .ptr id ver off => g (.ptr id ver off)
  | .msl id ver sz off n => g (.msl id ver sz off n)
  | .int k n => .int k n
  | .bool b => .bool b
  | .str s => .str s
  | .nilp => .nilp
  | .junk => .junk
def mapRefL (g : AV → AV) : List AV → List AV
  | [] => []
  | a :: l => mapRef g a :: mapRefL g l
end
def derefA (H : AH) (f : List AV → List AV) : AV → AV
  | .ptr id ver off => (match H id with
      | .live v cells => if v = ver then .ro (f (cells.drop off)) else .junk
      | .dead => .junk)
  | .msl id ver sz off n => (match H id with
      | .live v cells => if v = ver then .sl n false (f ((cells.drop off).take (n * sz))) else .junk
      | .dead => .junk)
  | _ => .junk
/-- A picture of a value: what its places hold now, to be read. 'd': how deep places lead to places. -/
def snapA : Nat → AH → AV → AV
  | 0, _ => mapRef fun _ => .junk
  | d + 1, H => mapRef (derefA H fun cs => cs.map (snapA d H))
theorem mapRefL_map (g : AV → AV) : ∀ l, mapRefL g l = l.map (mapRef g)
  | [] => rfl
  | a :: l => by simp [mapRefL, mapRefL_map g l]
mutual
theorem mapRef_pure (g : AV → AV) (hg : ∀ a, pureA (g a) = true) : ∀ a, pureA (mapRef g a) = true
  | .sl n t cs => by simp only [mapRef, pureA]; exact mapRefL_pure g hg cs
  | .ro cs => by simp only [mapRef, pureA]; exact mapRefL_pure g hg cs
  | .agg cs => by simp only [mapRef, pureA]; exact mapRefL_pure g hg cs
  | .tup cs => by simp only [mapRef, pureA]; exact mapRefL_pure g hg cs
  | .fn f cs => by simp only [mapRef, pureA]; exact mapRefL_pure g hg cs
  | .ptr id ver off => by simp only [mapRef]; exact hg _
  | .msl id ver sz off n => by simp only [mapRef]; exact hg _
  | .int k n => rfl
  | .bool b => rfl
  | .str s => rfl
  | .nilp => rfl
  | .junk => rfl
theorem mapRefL_pure (g : AV → AV) (hg : ∀ a, pureA (g a) = true) : ∀ l, pureL (mapRefL g l) = true
  | [] => rfl
  | a :: l => by simp only [mapRefL, pureL, mapRef_pure g hg a, mapRefL_pure g hg l, Bool.and_self]
end
theorem snapA_pure : ∀ (d : Nat) (H : AH) (a : AV), pureA (snapA d H a) = true
  | 0, H, a => mapRef_pure _ (fun _ => rfl) a
  | d + 1, H, a => by
    refine mapRef_pure _ (fun a => ?_) a
    have hl : ∀ l : List AV, pureL (l.map (snapA d H)) = true := by
      intro l
      induction l with
      | nil => rfl
      | cons x l ih => simp only [List.map_cons, pureL, snapA_pure d H x, ih, Bool.and_self]
    unfold derefA
    split
    · split
      · split
        · simp only [pureA]; exact hl _
        · rfl
      · rfl
    · split
      · split
        · simp only [pureA]; exact hl _
        · rfl
      · rfl
    · rfl

/-- The blocks of the places that live. -/
def liveB (κ : Cx) (H : AH) (b : Nat) : Prop := ∃ id ver cells e, H id = .live ver cells ∧ κ.M id = some e ∧ e.blk = some b
theorem mapRef_rep {κ : Cx} {F' : Nat → Prop} {M' : Nat → Option Ent} (hF : ∀ b, κ.F b → F' b) (g : AV → AV) (hg : ∀ v a, Rep κ.W κ.M κ.F v a → (∃ id ver off, a = .ptr id ver off) ∨ (∃ id ver sz off n, a = .msl id ver sz off n) → Rep κ.W M' F' v (g a))
    {v : Value} {a : AV} (r : Rep κ.W κ.M κ.F v a) : Rep κ.W M' F' v (mapRef g a) := by
  have pts : ∀ {vs : List Value} {cells : List AV}, (∀ (j : Nat) (v : Value) (a : AV), vs[j]? = some v → cells[j]? = some a → Rep κ.W M' F' v (mapRef g a)) →
      ∀ (j : Nat) (v : Value) (a : AV), vs[j]? = some v → (mapRefL g cells)[j]? = some a → Rep κ.W M' F' v a := by
    intro vs cells h j v a h1 h2
    rw [mapRefL_map, List.getElem?_map] at h2
    cases hc : cells[j]? with
    | none => rw [hc] at h2; cases h2
    | some x => rw [hc] at h2; cases h2; exact h j v x h1 hc
  have len : ∀ cells : List AV, (mapRefL g cells).length = cells.length := fun cells => by rw [mapRefL_map]; simp
  induction r with
  | int k n => exact .int k n
  | bool b => exact .bool b
  | str s => exact .str s
  | sl ad n c t cells vs hn ht hF' hs hl hc hr ih => exact .sl ad n c t _ vs hn ht (hF _ hF') hs (by rw [len]; exact hl) hc (pts ih)
  | sl0 A n c t hn ht => exact .sl0 A n c t hn ht
  | ro ad cells vs hF' hs hl hc hr ih => exact .ro ad _ vs (hF _ hF') hs (by rw [len]; exact hl) hc (pts ih)
  | ptr id ver off b hm => exact hg _ _ (.ptr id ver off b hm) (.inl ⟨_, _, _, rfl⟩)
  | ptrOld v id ver off e hm hv => exact hg _ _ (.ptrOld v id ver off e hm hv) (.inl ⟨_, _, _, rfl⟩)
  | msl id ver sz off n c b cs T fz hm hn hb hcap => exact hg _ _ (.msl id ver sz off n c b cs T fz hm hn hb hcap) (.inr ⟨_, _, _, _, _, rfl⟩)
  | mslNil A id ver sz off b hm => exact hg _ _ (.mslNil A id ver sz off b hm) (.inr ⟨_, _, _, _, _, rfl⟩)
  | mslOld v id ver sz off n e hm hv => exact hg _ _ (.mslOld v id ver sz off n e hm hv) (.inr ⟨_, _, _, _, _, rfl⟩)
  | agg vs cells hl h1 hr ih => exact .agg vs _ (by rw [len]; exact hl) h1 (pts ih)
  | tup vs as hl hr ih => exact .tup vs _ (by rw [len]; exact hl) (pts ih)
  | fn f vs as hl hr ih => exact .fn f vs _ (by rw [len]; exact hl) (pts ih)
  | nilp => exact .nilp
  | junk v => exact .junk v
theorem snap_rep {base nx : Nat} {κ : Cx} {H : AH} (hi : Inv base κ H nx) {F' : Nat → Prop} {M' : Nat → Option Ent} (hF : ∀ b, κ.F b → F' b) (hL : ∀ b, liveB κ H b → F' b) : ∀ (d : Nat) {v : Value} {a : AV}, Rep κ.W κ.M κ.F v a → Rep κ.W M' F' v (snapA d H a)
  | 0, v, a, r => mapRef_rep hF _ (fun v a _ _ => .junk v) r
  | d + 1, v, a, r => by
    refine mapRef_rep hF _ (fun v a hr ha => ?_) r
    have cells : ∀ {vs : List Value} {cs : List AV}, Reps κ vs cs → Reps ⟨κ.W, M', F'⟩ vs (cs.map (snapA d H)) := by
      intro vs cs h
      refine ⟨by simp [h.1], fun j v a h1 h2 => ?_⟩
      rw [List.getElem?_map] at h2
      cases hc : cs[j]? with
      | none => rw [hc] at h2; cases h2
      | some x => rw [hc] at h2; cases h2; exact snap_rep hi hF hL d (h.2 j v x h1 hc)
    rcases ha with ⟨id, ver, off, rfl⟩ | ⟨id, ver, sz, off, n, rfl⟩
    · cases hl : H id with
      | dead => simp only [derefA, hl]; exact .junk v
      | live v' cs =>
        simp only [derefA, hl]
        split
        · rename_i hv
          subst hv
          obtain ⟨b, rfl, hm⟩ := hi.ptr_inv hl hr
          obtain ⟨_, _, vs, rest, T, hb, h1, hrs⟩ := hi.place hl hm
          have hca := (cellsAt_block (κ := κ) hb h1).drop off
          rw [add_lit, Nat.zero_add] at hca
          exact Rep.ro_mk (κ := ⟨κ.W, M', F'⟩) (hL b ⟨id, _, _, _, hl, hm, rfl⟩) hca (cells (hrs.drop off))
        · exact .junk v
    · cases hl : H id with
      | dead => simp only [derefA, hl]; exact .junk v
      | live v' cs =>
        simp only [derefA, hl]
        split
        · rename_i hv
          subst hv
          rcases hi.msl_inv hl hr with ⟨b, c, cs', T, fz, rfl, hm, hn, hb0, hcap⟩ | ⟨A, b0, rfl, hm, hn⟩
          · obtain ⟨_, _, vs, rest, T', hb, h1, hrs⟩ := hi.place hl hm
            have hca := ((cellsAt_block (κ := κ) hb h1).drop off).take (n * sz)
            rw [add_lit, Nat.zero_add] at hca
            exact Rep.sl_mk (κ := ⟨κ.W, M', F'⟩) hn (fun h => by cases h) (.inr ⟨_, _, rfl, hL b ⟨id, _, _, _, hl, hm, rfl⟩, hca, cells ((hrs.drop off).take (n * sz))⟩)
          · subst hn
            simp only [Nat.zero_mul, List.take_zero, List.map_nil]
            exact .sl0 A 0 0 false (Nat.le_refl _) (fun h => by cases h)
        · exact .junk v
theorem snap_reps {base nx : Nat} {κ : Cx} {H : AH} (hi : Inv base κ H nx) {F' : Nat → Prop} {M' : Nat → Option Ent} (hF : ∀ b, κ.F b → F' b) (hL : ∀ b, liveB κ H b → F' b) (d : Nat) {vs : List Value} {as : List AV} (h : Reps κ vs as) :
    Reps ⟨κ.W, M', F'⟩ vs (as.map (snapA d H)) := by
  refine ⟨by simp [h.1], fun j v a h1 h2 => ?_⟩
  rw [List.getElem?_map] at h2
  cases hc : as[j]? with
  | none => rw [hc] at h2; cases h2
  | some x => rw [hc] at h2; cases h2; exact snap_rep hi hF hL d (h.2 j v x h1 hc)

/-- CALLED ON WHAT IS PURE, in a heap of its own: the answer's picture hangs on no memory. -/
theorem qcall_ofQ {P : Program} {f : FuncId} {args : List AV} (hp : pureL args = true) (d : Nat) {R : AV} (h : CallQ P f args noH 0 fun r H' _ => snapA d H' r = R) : QCall P f args R := by
  intro H nx
  refine ⟨h.1, fun base κ vs hi hr => ?_⟩
  -- the callee's own state
  have hi0 : Inv κ.W.heap.size ⟨κ.W, fun _ => none, κ.F⟩ noH 0 := ⟨hi.hF, Nat.le_refl _, (fun _ _ => rfl), (fun id ver cells h => by cases h), (fun i j ei ej b _ h _ _ _ => by cases h)⟩
  have hr0 : Reps ⟨κ.W, fun _ => none, κ.F⟩ vs args := ⟨hr.1, fun j v a h1 h2 => (hr.2 j v a h1 h2).pure (pureL_get hp h2)⟩
  refine (h.2 _ _ vs hi0 hr0).mono ?_
  rintro e W' ⟨r, H', nx', rfl, v, κ', rfl, rfl, hrep, hext, hinv⟩
  let F2 : Nat → Prop := fun b => κ'.F b ∨ liveB κ' H' b
  have newF : ∀ b, F2 b → κ.F b ∨ κ.W.heap.size ≤ b := by
    rintro b (hb | ⟨id, ver, cells, e, h1, h2, h3⟩)
    · exact hext.newF b hb
    · obtain ⟨e', he', _, hh⟩ := hinv.live id ver cells h1
      rw [h2] at he'
      cases he'
      unfold Held at hh
      rw [h3] at hh
      exact .inr hh.1
  have ev : Ev κ ⟨κ'.W, κ.M, F2⟩ := ⟨fun b hb => ⟨.inl (hext.ev.fr b hb).1, (hext.ev.fr b hb).2⟩, fun id e he => ⟨e, he, .inr rfl⟩, hext.ev.shp⟩
  refine ⟨v, ⟨κ'.W, κ.M, F2⟩, rfl, rfl, snap_rep hinv (fun b hb => .inl hb) (fun b hb => .inr hb) d hrep, ?_, ?_⟩
  · refine ⟨ev, hext.os, hext.tape, hext.output, hext.size, fun b hb => hext.below b (Nat.lt_of_lt_of_le hb hi.hbase), fun b hb => ?_⟩
    rcases newF b hb with h' | h'
    · exact .inl h'
    · exact .inr (Nat.le_trans hi.hbase h')
  · refine ⟨fun b hb => ?_, Nat.le_trans hi.hbase hext.size, hi.hM, fun id ver cells hl => ?_, hi.inj⟩
    · rcases hb with hb | ⟨id, ver, cells, e, h1, h2, h3⟩
      · exact hinv.hF b hb
      · obtain ⟨e', he', _, hh⟩ := hinv.live id ver cells h1
        rw [h2] at he'
        cases he'
        exact hh.lt h3
    · obtain ⟨e, he, hv, hh⟩ := hi.live id ver cells hl
      refine ⟨e, he, hv, hh.ev ev (fun b hb _ hn hc => ?_) (fun b hb => hext.below b (hh.lt hb))⟩
      rcases newF b hc with h' | h'
      · exact hn h'
      · have := hh.lt hb
        omega
/-- CALLED ON A PICTURE of what is the caller's own: a plain answer leaves it as it is. -/
theorem callC_borrow {P : Program} {f : FuncId} {args : List AV} {H : AH} {nx : Nat} {r : AV} (d : Nat) (h : QCall P f (args.map (snapA d H)) r) (hs : scalA r = true) : CallC P f args H nx r H nx := by
  refine ⟨(h noH 0).1, fun base κ vs hi hr => ?_⟩
  have hF0 : ∀ b, (κ.F b ∨ liveB κ H b) → b < κ.W.heap.size := by
    rintro b (hb | ⟨id, ver, cells, e, h1, h2, h3⟩)
    · exact hi.hF b hb
    · obtain ⟨e', he', _, hh⟩ := hi.live id ver cells h1
      rw [h2] at he'
      cases he'
      exact hh.lt h3
  have hi0 : Inv κ.W.heap.size ⟨κ.W, fun _ => none, fun b => κ.F b ∨ liveB κ H b⟩ noH 0 := ⟨hF0, Nat.le_refl _, (fun _ _ => rfl), (fun id ver cells h => by cases h), (fun i j ei ej b _ h _ _ _ => by cases h)⟩
  have hr0 : Reps ⟨κ.W, fun _ => none, fun b => κ.F b ∨ liveB κ H b⟩ vs (args.map (snapA d H)) := snap_reps hi (fun b hb => .inl hb) (fun b hb => .inr hb) d hr
  refine ((h noH 0).2 _ _ vs hi0 hr0).mono ?_
  rintro e W' ⟨v, κ', rfl, rfl, hrep, hext, hinv⟩
  have ev : Ev κ ⟨κ'.W, κ.M, κ.F⟩ := ⟨fun b hb => ⟨hb, (hext.ev.fr b (.inl hb)).2⟩, fun id e he => ⟨e, he, .inr rfl⟩, hext.ev.shp⟩
  refine ⟨v, ⟨κ'.W, κ.M, κ.F⟩, rfl, rfl, hrep.scal hs, ?_, ?_⟩
  · exact ⟨ev, hext.os, hext.tape, hext.output, hext.size, fun b hb => hext.below b (Nat.lt_of_lt_of_le hb hi.hbase), fun b hb => .inl hb⟩
  · refine ⟨fun b hb => Nat.lt_of_lt_of_le (hi.hF b hb) hext.size, Nat.le_trans hi.hbase hext.size, hi.hM, fun id ver cells hl => ?_, hi.inj⟩
    obtain ⟨e, he, hv, hh⟩ := hi.live id ver cells hl
    exact ⟨e, he, hv, hh.ev ev (fun b hb _ hn hc => hn hc) (fun b hb => hext.below b (hh.lt hb))⟩
theorem qcall_of {P : Program} {f : FuncId} {args : List AV} {r : AV} {H' : AH} {nx' : Nat} (hp : pureL args = true) (h : CallC P f args noH 0 r H' nx') (d : Nat) : QCall P f args (snapA d H' r) := by
  refine qcall_ofQ hp d ⟨h.toQ.1, fun base κ vs hi hr => (h.toQ.2 base κ vs hi hr).mono ?_⟩
  rintro e W' ⟨r1, H1, nx1, ⟨rfl, rfl, rfl⟩, h3⟩
  exact ⟨_, _, _, rfl, h3⟩

mutual
theorem mapRef_id (g : AV → AV) : ∀ a, pureA a = true → mapRef g a = a
  | .sl n t cs, h => by simp only [mapRef, mapRefL_id g cs (by simpa [pureA] using h)]
  | .ro cs, h => by simp only [mapRef, mapRefL_id g cs (by simpa [pureA] using h)]
  | .agg cs, h => by simp only [mapRef, mapRefL_id g cs (by simpa [pureA] using h)]
  | .tup cs, h => by simp only [mapRef, mapRefL_id g cs (by simpa [pureA] using h)]
  | .fn f cs, h => by simp only [mapRef, mapRefL_id g cs (by simpa [pureA] using h)]
  | .ptr id ver off, h => by simp [pureA] at h
  | .msl id ver sz off n, h => by simp [pureA] at h
  | .int k n, _ => rfl
  | .bool b, _ => rfl
  | .str s, _ => rfl
  | .nilp, _ => rfl
  | .junk, _ => rfl
theorem mapRefL_id (g : AV → AV) : ∀ l, pureL l = true → mapRefL g l = l
  | [], _ => rfl
  | a :: l, h => by
    simp only [pureL, Bool.and_eq_true] at h
    simp only [mapRefL, mapRef_id g a h.1, mapRefL_id g l h.2]
end
theorem snapA_id (d : Nat) (H : AH) (a : AV) (h : pureA a = true) : snapA d H a = a := by
  cases d <;> exact mapRef_id _ a h
/-- The plainest case: a pure answer. -/
theorem qcall_pure {P : Program} {f : FuncId} {args : List AV} {r : AV} {H' : AH} {nx' : Nat} (hp : pureL args = true) (hr : pureA r = true) (h : CallC P f args noH 0 r H' nx') : QCall P f args r := by
  have := qcall_of hp h 0
  rwa [snapA_id 0 H' r hr] at this
theorem ACall.of {P : Program} {f : FuncId} {args : List AV} {H : AH} {nx : Nat} {r : AV} {H' : AH} {nx' : Nat} {K : AV → AH → Nat → Prop} (h : CallC P f args H nx r H' nx') (k : K r H' nx') : ACall P f args H nx K := ACallD.toA ⟨r, H', nx', h, k⟩
theorem ACall.q {P : Program} {f : FuncId} {args : List AV} {H : AH} {nx : Nat} {r : AV} {K : AV → AH → Nat → Prop} (h : QCall P f args r) (k : K r H nx) : ACall P f args H nx K := ACallD.toA ⟨r, H, nx, h H nx, k⟩
end Go.TH
