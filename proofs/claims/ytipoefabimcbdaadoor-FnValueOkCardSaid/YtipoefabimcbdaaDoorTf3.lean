/- The framework of this proof, part 3: abstract values and what they stand for in a world. -/
import Derived.Test.YtipoefabimcbdaaDoorTf2
/-
  TH, part 26: loops over what stands in the frame; empty slices that get a place; what a callee keeps.
-/
set_option linter.unusedVariables false
set_option linter.unusedSimpArgs false
namespace Go.TH
open Go

/-- Some slots of a frame, kept or put anew; the others are forgotten. Told by gaps. -/
def kT : List AV → List (Nat × Option AV) → List AV
  | [], _ => []
  | _ :: T, [] => .junk :: kT T []
  | a :: T, (0, o) :: l => o.getD a :: kT T l
  | _ :: T, (n + 1, o) :: l => .junk :: kT T ((n, o) :: l)
theorem kT_nil {l : List (Nat × Option AV)} : kT [] l = [] := by cases l <;> rfl
theorem kT_end {a : AV} {T : List AV} : kT (a :: T) [] = .junk :: kT T [] := rfl
theorem kT_keep {a : AV} {T : List AV} {l : List (Nat × Option AV)} : kT (a :: T) ((0, none) :: l) = a :: kT T l := rfl
theorem kT_put {a b : AV} {T : List AV} {l : List (Nat × Option AV)} : kT (a :: T) ((0, some b) :: l) = b :: kT T l := rfl
theorem kT_gap {a : AV} {T : List AV} {n : Nat} {o : Option AV} {l : List (Nat × Option AV)} : kT (a :: T) ((n + 1, o) :: l) = .junk :: kT T ((n, o) :: l) := rfl
section
variable {body : (AEx → ASt → Prop) → ASt → Prop} {Q : AEx → ASt → Prop} {w : Box body} {w2 : Box Q} {T : List AV} {H : AH} {nx : Nat}
theorem LoopB.vary {ι : Type} (up : ι → List (Nat × Option AV)) (Hf : ι → AH) (nf : ι → Nat) (μ : ι → Nat) (G : ι → Prop) (i : ι) (h0 : Weak ⟨T, H, nx⟩ ⟨kT T (up i), Hf i, nf i⟩) (hG : G i)
    (step : ∀ i, G i → body (LQ (fun i => ⟨kT T (up i), Hf i, nf i⟩) μ G i Q) ⟨kT T (up i), Hf i, nf i⟩) : LoopB body Q ⟨T, H, nx⟩ w w2 :=
  LoopB.intro _ μ G i h0 hG step
theorem LoopB.weak {s0 s : ASt} (hw : Weak s s0) (h : LoopB body Q s0 .mk .mk) : LoopB body Q s w w2 := by
  obtain ⟨R, n, ⟨s1, h1, h2⟩, h3⟩ := h
  exact ⟨R, n, ⟨s1, hw.trans h1, h2⟩, h3⟩
theorem Weak.go {T T0 : List AV} {H H0 : AH} {nx nx0 : Nat} (h : wkL T T0) (hh : ∀ id, H0 id = H id ∨ H0 id = .dead) (hn : nx ≤ nx0) : Weak ⟨T, H, nx⟩ ⟨T0, H0, nx0⟩ := Weak0.toW ⟨h, hh, hn⟩
theorem Weak.eq {T T0 : List AV} {H H0 : AH} {nx nx0 : Nat} (h : wkL T T0) (hh : H0 = H) (hn : nx ≤ nx0) : Weak ⟨T, H, nx⟩ ⟨T0, H0, nx0⟩ := Weak0.toW ⟨h, fun id => .inl (by rw [hh]), hn⟩
/-- An empty slice gets a place of its own. -/
theorem Weak.nilV (k sz w : Nat) (h : T[k]? = some (.sl 0 true [])) : Weak ⟨T, H, nx⟩ ⟨T.set k (.msl nx w sz 0 0), upd H nx (.live w []), nx + 1⟩ := by
  intro base κ a hs
  let κ' : Cx := ⟨κ.W, fun i => if i = nx then some ⟨w, none⟩ else κ.M i, κ.F⟩
  have hne : ∀ id e, κ.M id = some e → id ≠ nx := fun id e he h => by subst h; rw [hs.inv.hM _ (Nat.le_refl _)] at he; cases he
  have ev : Ev κ κ' := ⟨fun b hb => ⟨hb, rfl⟩, fun id e he => ⟨e, by simp [κ', hne id e he, he], .inr rfl⟩, fun b cs T fz hb => ⟨cs, fz, hb, rfl⟩⟩
  refine ⟨κ', rfl, ⟨⟨hs.inv.hF, hs.inv.hbase, fun id hid => ?_, fun id ver cells hl => ?_, fun i j ei ej b hij h1 h2 h3 h4 => ?_, hs.inv.tab⟩, ?_, hs.defers⟩, ⟨ev, rfl, rfl, rfl, Nat.le_refl _, fun _ _ => rfl, fun _ h => .inl h⟩⟩
  · have : id ≠ nx := by simp only at hid; omega
    simp only [κ', if_neg this]
    exact hs.inv.hM id (by simp only at hid ⊢; omega)
  · by_cases hi : id = nx
    · subst hi
      simp only [upd_same] at hl
      cases hl
      exact ⟨⟨w, none⟩, by simp [κ'], rfl, rfl⟩
    · simp only [upd_ne _ _ hi] at hl
      obtain ⟨e, he, hv, hh⟩ := hs.inv.live id ver cells hl
      exact ⟨e, by simp [κ', hi, he], hv, hh.ev ev (fun _ _ _ h => h) (fun _ _ => rfl)⟩
  · simp only [κ'] at h1 h2
    split at h1
    · cases h1; cases h3
    · split at h2
      · cases h2; cases h4
      · rename_i hi hj
        have := hs.inv.inj i j ei ej b hij h1 h2 h3 h4
        simpa [upd_ne _ _ hi, upd_ne _ _ hj] using this
  · have hr := hs.tmps.ev ev
    refine ⟨by simp [hr.1], fun j v x h1 h2 => ?_⟩
    simp only [List.getElem?_set] at h2
    split at h2
    · rename_i hkj
      subst hkj
      split at h2
      · cases h2
        have h3 := hr.2 k v _ h1 h
        obtain ⟨A, c, rfl, hc, ht, _⟩ := h3.sl_inv
        obtain rfl := ht rfl
        exact .mslNil A nx w sz 0 none (by simp [κ'])
      · cases h2
    · exact hr.2 j v x h1 h2
theorem Weak.nil (k sz : Nat) (h : T[k]? = some (.sl 0 true [])) : Weak ⟨T, H, nx⟩ ⟨T.set k (.msl nx 0 sz 0 0), upd H nx (.live 0 []), nx + 1⟩ := Weak.nilV k sz 0 h
end

/-! ### What is kept behind a call, reckoned -/
section
variable {nx d : Nat} {L : List (Nat × Nat)} {H : AH}
theorem keepA_mapRef (d : Nat) : ∀ a, keepA nx L H d a = mapRef (keepR nx L H d) a := fun _ => rfl
theorem mapRefL_keep (cs : List AV) : mapRefL (keepR nx L H d) cs = cs.map (keepA nx L H d) := by rw [mapRefL_map]; rfl
@[go_sem] theorem keepA_int {k : IntKind} {n : Int} : keepA nx L H d (.int k n) = .int k n := rfl
@[go_sem] theorem keepA_bool {b : Bool} : keepA nx L H d (.bool b) = .bool b := rfl
@[go_sem] theorem keepA_str {b : ByteArray} : keepA nx L H d (.str b) = .str b := rfl
@[go_sem] theorem keepA_nilp : keepA nx L H d .nilp = .nilp := rfl
@[go_sem] theorem keepA_tup {cs : List AV} : keepA nx L H d (.tup cs) = .tup (cs.map (keepA nx L H d)) := by simp only [keepA, mapRef]; rw [mapRefL_keep]
@[go_sem] theorem keepA_agg {cs : List AV} : keepA nx L H d (.agg cs) = .agg (cs.map (keepA nx L H d)) := by simp only [keepA, mapRef]; rw [mapRefL_keep]
@[go_sem] theorem keepA_sl {n : Nat} {t : Bool} {cs : List AV} : keepA nx L H d (.sl n t cs) = .sl n t (cs.map (keepA nx L H d)) := by simp only [keepA, mapRef]; rw [mapRefL_keep]
@[go_sem] theorem keepA_ro {cs : List AV} : keepA nx L H d (.ro cs) = .ro (cs.map (keepA nx L H d)) := by simp only [keepA, mapRef]; rw [mapRefL_keep]
@[go_sem] theorem placeL_nil {k id ver : Nat} : placeL [] k id ver = none := rfl
@[go_sem] theorem placeL_cons {p : Nat × Nat} {r : List (Nat × Nat)} {k id ver : Nat} : placeL (p :: r) k id ver = if p.1 = id ∧ p.2 = ver then some k else placeL r (k + 1) id ver := rfl
def keepM1 (o : Option Nat) (b : ABlk) (nx : Nat) (L : List (Nat × Nat)) (H : AH) (d : Nat) (id ver sz off n : Nat) : AV :=
  if id < nx then .msl id ver sz off n else match o with
    | some k => .msl k 0 sz off n
    | none => match b with
      | .live v cells => if v = ver then .sl n false (((cells.drop off).take (n * sz)).map (keepA nx L H d)) else .junk
      | .dead => .junk
@[go_sem] theorem keepA_msl {id ver sz off n : Nat} : keepA nx L H (d + 1) (.msl id ver sz off n) = keepM1 (placeL L nx id ver) (H id) nx L H d id ver sz off n := by
  simp only [keepA, mapRef, keepR, derefA, keepM1]; try rfl
@[go_sem] theorem keepM1_some {k : Nat} {b : ABlk} {id ver sz off n : Nat} (h : ¬ id < nx) : keepM1 (some k) b nx L H d id ver sz off n = .msl k 0 sz off n := by simp [keepM1, h]
@[go_sem] theorem keepM1_none {v : Nat} {cells : List AV} {id ver sz off n : Nat} (h : ¬ id < nx) : keepM1 none (.live v cells) nx L H d id ver sz off n = if v = ver then .sl n false (((cells.drop off).take (n * sz)).map (keepA nx L H d)) else .junk := by
  simp [keepM1, h]
theorem keepA_pure {a : AV} (h : pureA a = true) : keepA nx L H d a = a := mapRef_id _ a h
theorem map_keep : ∀ {l : List AV}, pureL l = true → l.map (keepA nx L H d) = l
  | [], _ => rfl
  | a :: l, h => by
    simp only [pureL, Bool.and_eq_true] at h
    rw [List.map_cons, keepA_pure h.1, map_keep h.2]
end
/-- The old places, but for one. -/
def OldW (nx rid : Nat) (H' H : AH) : Prop := ∀ i, i < nx → i ≠ rid → H' i = H i
def OldR (nx rid : Nat) (H' H : AH) (X : ABlk) : Prop := ∀ i, i < nx → H' i = if i = rid then X else H i
section
variable {nx rid j : Nat} {H' H : AH} {X b : ABlk}
theorem OldW.refl : OldW nx rid H H := fun _ _ _ => rfl
theorem OldW.new (hj : nx ≤ j) (h : OldW nx rid H' H) : OldW nx rid (upd H' j b) H := fun i hi hr => by rw [upd_ne _ _ (by omega)]; exact h i hi hr
theorem OldW.rd (h : OldW nx rid H' H) : OldW nx rid (upd H' rid b) H := fun i hi hr => by rw [upd_ne _ _ hr]; exact h i hi hr
theorem OldR.base (h : H rid = X) : OldR nx rid H H X := fun i _ => by split <;> simp_all
theorem OldR.set (h : OldW nx rid H' H) : OldR nx rid (upd H' rid X) H X := fun i hi => by
  simp only [upd]
  split
  · rfl
  · rename_i hr; exact h i hi hr
theorem OldR.new (hj : nx ≤ j) (h : OldR nx rid H' H X) : OldR nx rid (upd H' j b) H X := fun i hi => by rw [upd_ne _ _ (by omega)]; exact h i hi
end
/-- No old place is written. -/
def OldN (nx : Nat) (H' H : AH) : Prop := ∀ i, i < nx → H' i = H i
theorem OldN.refl {nx : Nat} {H : AH} : OldN nx H H := fun _ _ => rfl
theorem OldN.new {nx j : Nat} {H' H : AH} {b : ABlk} (hj : nx ≤ j) (h : OldN nx H' H) : OldN nx (upd H' j b) H := fun i hi => by rw [upd_ne _ _ (by omega)]; exact h i hi
section
variable {P : Program} {f : FuncId} {args : List AV} {H : AH} {nx : Nat} {Q : AV → AH → Nat → Prop}
/-- All that is new is only read from then on. -/
theorem ACallD.fin0 (d : Nat) (h : ACallD P f args H nx fun r H' nx' => OldN nx H' H ∧ Q (keepA nx [] H' d r) H nx) : ACallD P f args H nx Q :=
  h.keep fun r H' nx' ⟨h1, h4⟩ => ⟨[], d, H, ⟨fun p hp => by simp at hp, by simp⟩, ⟨fun i hi => .inr ⟨(h1 i hi).symm, .inl (h1 i hi)⟩, fun k p hp => by simp at hp, fun i hi => .inr rfl⟩, by simpa using h4⟩
/-- .. but for one place, which is kept. -/
theorem ACallD.fin1 (d : Nat) (h : ACallD P f args H nx fun r H' nx' => ∃ id ver cs, OldN nx H' H ∧ nx ≤ id ∧ H' id = .live ver cs ∧
      Q (keepA nx [(id, ver)] H' d r) (upd H nx (.live 0 (cs.map (keepA nx [(id, ver)] H' d)))) (nx + 1)) : ACallD P f args H nx Q :=
  h.keep fun r H' nx' ⟨id, ver, cs, h1, h2, h3, h4⟩ => ⟨[(id, ver)], d, upd H nx (.live 0 (cs.map (keepA nx [(id, ver)] H' d))), ⟨fun p hp => by simp at hp; subst hp; exact ⟨h2, cs, h3⟩, by simp⟩,
    ⟨fun i hi => .inr ⟨by rw [upd_ne _ _ (by omega)]; exact (h1 i hi).symm, .inl (h1 i hi)⟩, fun k p hp => by
      cases k with
      | zero => simp at hp; subst hp; exact .inr ⟨cs, h3, by simp [upd]⟩
      | succ k => simp at hp, fun i hi => .inr (upd_ne _ _ (by simp at hi; omega))⟩, by simpa using h4⟩
/-- The same, where one old place is written. -/
theorem ACallD.finR (d rid : Nat) (hrid : rid < nx) (h : ACallD P f args H nx fun r H' nx' => ∃ ver cells, OldR nx rid H' H (.live ver cells) ∧ pureL cells = true ∧ Q (keepA nx [] H' d r) (upd H rid (.live ver cells)) nx) : ACallD P f args H nx Q :=
  h.keep fun r H' nx' ⟨ver, cells, h1, h2, h4⟩ => ⟨[], d, upd H rid (.live ver cells), ⟨fun p hp => by simp at hp, by simp⟩, ⟨fun i hi => .inr ⟨(h1 i hi).symm, by
      rw [h1 i hi]
      split
      · exact .inr ⟨_, _, rfl, h2⟩
      · exact .inl rfl⟩, fun k p hp => by simp at hp, fun i hi => .inr (upd_ne _ _ (by simp at hi; omega))⟩, by simpa using h4⟩
theorem ACallD.finR1 (d rid : Nat) (hrid : rid < nx) (h : ACallD P f args H nx fun r H' nx' => ∃ w cells id ver cs, OldR nx rid H' H (.live w cells) ∧ pureL cells = true ∧ nx ≤ id ∧ H' id = .live ver cs ∧
      Q (keepA nx [(id, ver)] H' d r) (upd (upd H rid (.live w cells)) nx (.live 0 (cs.map (keepA nx [(id, ver)] H' d)))) (nx + 1)) : ACallD P f args H nx Q :=
  h.keep fun r H' nx' ⟨w, cells, id, ver, cs, h1, h2, g1, g2, h4⟩ => ⟨[(id, ver)], d, upd (upd H rid (.live w cells)) nx (.live 0 (cs.map (keepA nx [(id, ver)] H' d))), ⟨fun p hp => by simp at hp; subst hp; exact ⟨g1, cs, g2⟩, by simp⟩,
    ⟨fun i hi => .inr ⟨by rw [upd_ne _ _ (by omega)]; exact (h1 i hi).symm, by
      rw [h1 i hi]
      split
      · exact .inr ⟨_, _, rfl, h2⟩
      · exact .inl rfl⟩, fun k p hp => by
      cases k with
      | zero => simp at hp; subst hp; exact .inr ⟨cs, g2, by simp [upd]⟩
      | succ k => simp at hp, fun i hi => .inr (by rw [upd_ne _ _ (by simp at hi; omega), upd_ne _ _ (by simp at hi; omega)])⟩, by simpa using h4⟩
end
end Go.TH

/-
  TH, part 27: what turns is read off the state; cuts.
-/
set_option linter.unusedVariables false
set_option linter.unusedSimpArgs false
namespace Go.TH
open Go

/-! ### Reading -/
def intOf : AV → Int
  | .int _ n => n
  | _ => 0
def boolOf : AV → Bool
  | .bool b => b
  | _ => false
def strOf : AV → ByteArray
  | .str s => s
  | _ => ⟨#[]⟩
def mlenOf : AV → Nat
  | .msl _ _ _ _ n => n
  | .sl n _ _ => n
  | _ => 0
def cellsOf : ABlk → List AV
  | .live _ cs => cs
  | .dead => []
def verOf : ABlk → Nat
  | .live v _ => v
  | .dead => 0
def slotOf (s : ASt) (k : Nat) : AV := nthA s.tmps k
def blkOf (s : ASt) (i : Nat) : ABlk := s.H i
@[go_sem] theorem intOf_int {k : IntKind} {n : Int} : intOf (.int k n) = n := rfl
@[go_sem] theorem boolOf_bool {b : Bool} : boolOf (.bool b) = b := rfl
@[go_sem] theorem strOf_str {b : ByteArray} : strOf (.str b) = b := rfl
@[go_sem] theorem mlenOf_msl {id ver sz off n : Nat} : mlenOf (.msl id ver sz off n) = n := rfl
@[go_sem] theorem mlenOf_sl {n : Nat} {t : Bool} {cs : List AV} : mlenOf (.sl n t cs) = n := rfl
@[go_sem] theorem cellsOf_live {v : Nat} {cs : List AV} : cellsOf (.live v cs) = cs := rfl
@[go_sem] theorem verOf_live {v : Nat} {cs : List AV} : verOf (.live v cs) = v := rfl
@[go_sem] theorem slotOf_mk {T : List AV} {H : AH} {nx k : Nat} : slotOf ⟨T, H, nx⟩ k = nthA T k := rfl
@[go_sem] theorem blkOf_mk {T : List AV} {H : AH} {nx k : Nat} : blkOf ⟨T, H, nx⟩ k = H k := rfl

def keepP1 (o : Option Nat) (b : ABlk) (nx : Nat) (L : List (Nat × Nat)) (H : AH) (d : Nat) (id ver off : Nat) : AV :=
  if id < nx then .ptr id ver off else match o with
    | some k => .ptr k 0 off
    | none => match b with
      | .live v cells => if v = ver then .ro ((cells.drop off).map (keepA nx L H d)) else .junk
      | .dead => .junk
section
variable {nx d : Nat} {L : List (Nat × Nat)} {H : AH}
@[go_sem] theorem keepA_ptr {id ver off : Nat} : keepA nx L H (d + 1) (.ptr id ver off) = keepP1 (placeL L nx id ver) (H id) nx L H d id ver off := by
  simp only [keepA, mapRef, keepR, derefA, keepP1]; try rfl
@[go_sem] theorem keepP1_some {k : Nat} {b : ABlk} {id ver off : Nat} (h : ¬ id < nx) : keepP1 (some k) b nx L H d id ver off = .ptr k 0 off := by simp [keepP1, h]
end
section
variable {P : Program} {ι : Type}
structure CutQ (f : ASt → ι) (st : ι → ASt) (G : ι → Prop) (s : ASt) : Prop where
  good : G (f s)
  weak : Weak s (st (f s))
@[go_sem] theorem CutQ_eq {f : ASt → ι} {st : ι → ASt} {G : ι → Prop} {s : ASt} : CutQ f st G s = (G (f s) ∧ Weak s (st (f s))) := propext ⟨fun h => ⟨h.1, h.2⟩, fun h => ⟨h.1, h.2⟩⟩
def LF (f : ASt → ι) (st : ι → ASt) (μ : ι → Nat) (G : ι → Prop) (x : ι) (Q : AEx → ASt → Prop) : AEx → ASt → Prop
  | .normal, s2 => G (f s2) ∧ μ (f s2) < μ x ∧ Weak s2 (st (f s2))
  | e, s2 => Q e s2
section
variable {f : ASt → ι} {st : ι → ASt} {μ : ι → Nat} {G : ι → Prop} {x : ι} {Q : AEx → ASt → Prop} {s2 s3 : ASt}
@[go_sem] theorem LF_normal : LF f st μ G x Q .normal s2 = (G (f s2) ∧ μ (f s2) < μ x ∧ Weak s2 (st (f s2))) := rfl
@[go_sem] theorem LF_exit {k : Nat} : LF f st μ G x Q (.exit k) s2 = Q (.exit k) s2 := rfl
@[go_sem] theorem LF_ret : LF f st μ G x Q .ret s2 = Q .ret s2 := rfl
@[congr] theorem LF_congr {e : AEx} (h : s2 = s3) : LF f st μ G x Q e s2 = LF f st μ G x Q e s3 := by rw [h]
end
theorem LoopB.auto {b : Code} {Q : AEx → ASt → Prop} {w : Box (awp P b)} {w2 : Box Q} {T : List AV} {H : AH} {nx : Nat} (f : ASt → ι) (up : ι → List (Nat × Option AV)) (Hf : ι → AH) (nf : ι → Nat) (μ : ι → Nat) (G : ι → Prop)
    (h0 : CutQ f (fun x => ⟨kT T (up x), Hf x, nf x⟩) G ⟨T, H, nx⟩)
    (step : ∀ x, G x → awp P b (LF f (fun x => ⟨kT T (up x), Hf x, nf x⟩) μ G x Q) ⟨kT T (up x), Hf x, nf x⟩) : LoopB (awp P b) Q ⟨T, H, nx⟩ w w2 := by
  refine LoopB.intro (fun x => ⟨kT T (up x), Hf x, nf x⟩) μ G (f ⟨T, H, nx⟩) h0.weak h0.good fun x hx => awp_mono b (step x hx) fun e s2 h => ?_
  cases e with
  | normal => obtain ⟨h1, h2, h3⟩ := h; exact ⟨_, h1, h2, h3⟩
  | exit k => exact h
  | ret => exact h

/-! ### Cuts -/
/-- Code, walked part by part: between the parts less may be said. -/
inductive AW (P : Program) : Code → (AEx → ASt → Prop) → ASt → Prop
  | of {c : Code} {Q : AEx → ASt → Prop} {s : ASt} (h : awp P c Q s) : AW P c Q s
  | seq {a b : Code} {Q : AEx → ASt → Prop} {s : ASt} (R : ASt → Prop) (h : awp P a (thenQ R Q) s) (h2 : ∀ s', R s' → AW P b Q s') : AW P (.seq a b) Q s
  | weak {c : Code} {Q : AEx → ASt → Prop} {s s0 : ASt} (hw : Weak s s0) (h : AW P c Q s0) : AW P c Q s
theorem AW.exact {c : Code} {Q : AEx → ASt → Prop} {s : ASt} (h : AW P c Q s) : ∃ e s', Q e s' ∧ ∀ Q' : AEx → ASt → Prop, Q' e s' → AW P c Q' s := by
  induction h with
  | of h =>
    obtain ⟨e, s', h1, h2⟩ := awp_ex _ h
    exact ⟨e, s', h1, fun Q' hq => .of (h2 Q' hq)⟩
  | seq R h h2 ih =>
    obtain ⟨e, s1, h1, h3⟩ := awp_ex _ h
    cases e with
    | normal =>
      obtain ⟨e2, s2, g1, g2⟩ := ih s1 h1
      exact ⟨e2, s2, g1, fun Q' hq => .seq (fun s' => s' = s1) (h3 (thenQ (fun s' => s' = s1) Q') rfl) fun s' e => e ▸ g2 Q' hq⟩
    | exit id => exact ⟨.exit id, s1, h1, fun Q' hq => .seq (fun _ => False) (h3 (thenQ (fun _ => False) Q') hq) fun s' e => e.elim⟩
    | ret => exact ⟨.ret, s1, h1, fun Q' hq => .seq (fun _ => False) (h3 (thenQ (fun _ => False) Q') hq) fun s' e => e.elim⟩
  | weak hw h ih =>
    obtain ⟨e, s', h1, h2⟩ := ih
    exact ⟨e, s', h1, fun Q' hq => .weak hw (h2 Q' hq)⟩
theorem AW.sound (hm : P.follows .mixedOrders = true) {c : Code} {Q : AEx → ASt → Prop} {s : ASt} (h : AW P c Q s) : ∀ {base : Nat} {κ : Cx} {a : Act}, St base κ a s →
    ∀ {QQ : Exit → Act → World → Prop}, (∀ e s' κ' a', Q e s' → St base κ' a' s' → Ext base κ κ' → QQ (AEx.ex e) a' κ'.W) → c.wp P QQ a κ.W := by
  induction h with
  | of h => exact awp_sound hm _ h
  | seq R h h2 ih =>
    intro base κ a hs QQ hQ
    refine wp_seq (awp_sound hm _ h hs (fun e s' κ' a' hq hs' hext => ?_))
    cases e with
    | normal => exact ih s' hq hs' (fun e2 s2 κ2 a2 hq2 hs2 hext2 => hQ e2 s2 κ2 a2 hq2 hs2 (hext.trans hext2))
    | exit id => exact hQ (.exit id) s' κ' a' hq hs' hext
    | ret => exact hQ .ret s' κ' a' hq hs' hext
  | weak hw h ih =>
    intro base κ a hs QQ hQ
    obtain ⟨κ1, h1, h2, h3⟩ := hw base κ a hs
    rw [← h1]
    exact ih h2 fun e s' κ' a' hq hs' hext => hQ e s' κ' a' hq hs' (h3.trans hext)
@[congr] theorem AW_congr {c : Code} {Q : AEx → ASt → Prop} {s s' : ASt} (h : s = s') : AW P c Q s = AW P c Q s' := by rw [h]
theorem AW.step {a b : Code} {Q : AEx → ASt → Prop} {s : ASt} (h : awp P a (thenQ (AW P b Q) Q) s) : AW P (.seq a b) Q s := .seq _ h fun _ h => h
theorem AW.cut {a b : Code} {Q : AEx → ASt → Prop} {T : List AV} {H : AH} {nx : Nat} (f : ASt → ι) (up : ι → List (Nat × Option AV)) (Hf : ι → AH) (nf : ι → Nat) (G : ι → Prop)
    (h : awp P a (thenQ (CutQ f (fun x => ⟨kT T (up x), Hf x, nf x⟩) G) Q) ⟨T, H, nx⟩) (h2 : ∀ x, G x → AW P b Q ⟨kT T (up x), Hf x, nf x⟩) : AW P (.seq a b) Q ⟨T, H, nx⟩ :=
  .seq _ h fun s' hs => .weak hs.weak (h2 _ hs.good)
/-- Some answer, of which so much is known, in every heap. -/
theorem qex_of {f : FuncId} {args : List AV} {Q : AV → Prop} (hp : pureL args = true) (d : Nat) (h : ACallD P f args noH 0 fun r H' _ => Q (snapA d H' r)) : ∃ R, Q R ∧ QCall P f args R := by
  obtain ⟨r, H', nx', h1, h2⟩ := h
  exact ⟨_, h2, qcall_of hp h1 d⟩
theorem call_of_W (hm : P.follows .mixedOrders = true) {f : FuncId} {fn : Func} {c : Code} {n : Nat} {rs : List ResultVar} (hf : P.funcs[f]? = some fn) (hb : fn.body = some c) (hn : fn.ntmps = n) (hrs : fn.results = rs.toArray)
    (hname : (fn.name == "runtime.NumGoroutine") = false) {args : List AV} {H : AH} {nx : Nat} {Q : AV → AH → Nat → Prop}
    (h : AW P c (bodyQ P rs Q) ⟨args ++ List.replicate (n - args.length) (.tup []), H, nx⟩) : ACallD P f args H nx Q := by
  obtain ⟨e, s', h1, h2⟩ := h.exact
  have fin : ∃ l, resA P s'.H s'.tmps rs = some l ∧ l.1 ∧ Q (packA l.2) s'.H s'.nx := by
    cases e with
    | exit id => exact h1.elim
    | normal =>
      simp only [bodyQ] at h1
      split at h1
      · rename_i l hl; exact ⟨l, hl, h1.1, h1.2⟩
      · exact h1.elim
    | ret =>
      simp only [bodyQ] at h1
      split at h1
      · rename_i l hl; exact ⟨l, hl, h1.1, h1.2⟩
      · exact h1.elim
  obtain ⟨l, hl, hp, hq⟩ := fin
  have hw : AW P c (bodyQ P rs fun r1 H1 nx1 => r1 = packA l.2 ∧ H1 = s'.H ∧ nx1 = s'.nx) ⟨args ++ List.replicate (n - args.length) (.tup []), H, nx⟩ := by
    refine h2 _ ?_
    cases e with
    | exit id => exact h1.elim
    | normal => simp only [bodyQ, hl]; exact ⟨hp, trivial, trivial, trivial⟩
    | ret => simp only [bodyQ, hl]; exact ⟨hp, trivial, trivial, trivial⟩
  have hc := callQ_of_walk hf hb hn hrs hname (fun {base κ a} hs {QQ} hQ => hw.sound hm hs hQ)
  refine ⟨_, _, _, ⟨hc.1, fun base κ vs hi hr => (hc.2 base κ vs hi hr).mono ?_⟩, hq⟩
  rintro e W' ⟨r1, H1, nx1, ⟨rfl, rfl, rfl⟩, h3⟩
  exact h3
theorem wcall_body (hm : P.follows .mixedOrders = true) {f : FuncId} {fn : Func} (hf : P.funcs[f]? = some fn) (c : Code) (hb : fn.body = some c) {n : Nat} (hn : fn.ntmps = n) {rs : List ResultVar} (hrs : fn.results = rs.toArray)
    (hname : (fn.name == "runtime.NumGoroutine") = false) {args : List AV} {H : AH} {nx : Nat} {Q : AV → AH → Nat → Prop} (hl : args.length ≤ n)
    (h : AW P c (bodyQ P rs Q) ⟨initT n args, H, nx⟩) : ACallD P f args H nx Q :=
  call_of_W hm hf hb hn hrs hname (by rw [initT_eq n args hl]; exact h)
end
theorem takeAll {α : Type} {l : List α} {n : Nat} (h : l.length ≤ n) : l.take n = l := List.take_of_length_le h
theorem tdivE {a b : Int} (h : 0 ≤ a) : a.tdiv b = a / b := Int.tdiv_eq_ediv_of_nonneg h
theorem tmodE {a b : Int} (h : 0 ≤ a) : a.tmod b = a % b := Int.tmod_eq_emod_of_nonneg h
@[go_sem] theorem isU8_u8 {n : Int} : isU8 (.int .u8 n) = true := rfl
@[go_sem] theorem bytesA_size {l : List AV} : (bytesA l).size = l.length := by simp [bytesA, ByteArray.size]
@[go_sem] theorem size_mk {a : Array UInt8} : (ByteArray.mk a).size = a.size := rfl
@[go_sem] theorem toNat_succ {k : Nat} : ((k : Int) + 1).toNat = k + 1 := by omega
@[go_sem] theorem getD_drop {l : List AV} {n : Nat} {d : AV} : (l.drop n).getD 0 d = l.getD n d := by simp [List.getD]
attribute [go_sem] List.length_drop
attribute [go_sem] ByteArray.size_append List.size_toArray
attribute [go_sem] List.all_cons List.all_nil
attribute [go_sem] kT_nil kT_end kT_keep kT_put kT_gap
end Go.TH

/-
  TH: the data of the laws, in plain Lean.
-/
set_option linter.unusedVariables false
set_option linter.unusedSimpArgs false
namespace Go.TH
open Go

/-! ### Rows of equal parts -/
def flat {α : Type} (c : α → List AV) (l : List α) : List AV := (l.map c).flatten
section
variable {α : Type} {c : α → List AV} {sz : Nat}
theorem flat_nil : flat c [] = [] := rfl
theorem flat_cons {a : α} {l : List α} : flat c (a :: l) = c a ++ flat c l := by simp [flat]
theorem flat_flatMap (l : List α) : l.flatMap c = flat c l := by simp [flat, List.flatMap]
theorem flat_len (hc : ∀ a, (c a).length = sz) : ∀ l : List α, (flat c l).length = l.length * sz
  | [] => by simp [flat]
  | a :: l => by rw [flat_cons, List.length_append, hc, flat_len hc l, List.length_cons, Nat.add_mul]; omega
theorem flat_drop (hc : ∀ a, (c a).length = sz) : ∀ (l : List α) (i : Nat), (flat c l).drop (i * sz) = flat c (l.drop i)
  | l, 0 => by simp
  | [], i + 1 => by simp [flat]
  | a :: l, i + 1 => by
    rw [flat_cons, show (i + 1) * sz = (c a).length + i * sz from by rw [hc, Nat.add_mul]; omega, List.drop_length_add_append, List.drop_succ_cons]
    exact flat_drop hc l i
theorem flat_at (hc : ∀ a, (c a).length = sz) {l : List α} {i : Nat} (h : i < l.length) : (flat c l).drop (i * sz) = c l[i] ++ flat c (l.drop (i + 1)) := by
  rw [flat_drop hc, List.drop_eq_getElem_cons h, flat_cons]
theorem flat_pure (hc : ∀ a, pureL (c a) = true) : ∀ l : List α, pureL (flat c l) = true
  | [] => rfl
  | a :: l => by rw [flat_cons, pureL_append, hc, flat_pure hc l]; rfl
theorem map_snap : ∀ {l : List AV} (d : Nat) (H : AH), pureL l = true → l.map (snapA d H) = l
  | [], d, H, _ => rfl
  | a :: l, d, H, h => by
    simp only [pureL, Bool.and_eq_true] at h
    rw [List.map_cons, snapA_id d H a h.1, map_snap d H h.2]
end
theorem pureL_take : ∀ {l : List AV} (n : Nat), pureL l = true → pureL (l.take n) = true
  | _, 0, _ => by simp [pureL]
  | [], n + 1, _ => by simp [pureL]
  | a :: l, n + 1, h => by simp only [pureL, Bool.and_eq_true] at h; simp [pureL, h.1, pureL_take n h.2]
/-- One part is written anew. -/
theorem flatten_set {sz : Nat} : ∀ {xs : List (List AV)} {i : Nat} {y : List AV}, (∀ x ∈ xs, x.length = sz) → y.length = sz → i < xs.length →
    xs.flatten.take (i * sz) ++ y ++ xs.flatten.drop (i * sz + sz) = (xs.set i y).flatten
  | x :: xs, 0, y, h, hy, hi => by
    have hx := h x List.mem_cons_self
    simp [List.drop_append, hx]
  | x :: xs, i + 1, y, h, hy, hi => by
    have hx := h x List.mem_cons_self
    have ih := flatten_set (xs := xs) (i := i) (y := y) (fun z hz => h z (List.mem_cons_of_mem _ hz)) hy (by simpa using hi)
    rw [List.set_cons_succ, List.flatten_cons, List.flatten_cons, ← ih, show (i + 1) * sz = x.length + i * sz from by rw [hx, Nat.add_mul]; omega, List.take_length_add_append,
      show x.length + i * sz + sz = x.length + (i * sz + sz) from by omega, List.drop_length_add_append]
    simp
theorem set_fill {α : Type} (c : α → List AV) (z : List AV) (l : List α) {i : Nat} (h : i < l.length) :
    (((l.take i).map c) ++ List.replicate (l.length - i) z).set i (c l[i]) = ((l.take (i + 1)).map c) ++ List.replicate (l.length - (i + 1)) z := by
  have hl : ((l.take i).map c).length = i := by simp; omega
  rw [List.set_append_right _ _ (by omega), hl, Nat.sub_self, show l.length - i = (l.length - (i + 1)) + 1 from by omega, List.replicate_succ, List.set_cons_zero, List.take_succ_eq_append_getElem h, List.map_append, List.append_assoc]
  rfl

/-- Parts that are written one by one: 'i' of them are. -/
def fillL {α : Type} (c : α → List AV) (z : List AV) (l : List α) (i : Nat) : List AV := (((l.take i).map c) ++ List.replicate (l.length - i) z).flatten
section
variable {α : Type} {c : α → List AV} {z : List AV} {sz : Nat}
theorem fillL_sizes (hc : ∀ a, (c a).length = sz) (hz : z.length = sz) (l : List α) (i : Nat) : ∀ x ∈ ((l.take i).map c) ++ List.replicate (l.length - i) z, x.length = sz := by
  intro x hx
  rcases List.mem_append.1 hx with h | h
  · obtain ⟨a, _, rfl⟩ := List.mem_map.1 h; exact hc a
  · rw [List.eq_of_mem_replicate h]; exact hz
theorem flatten_size {sz : Nat} : ∀ {xs : List (List AV)}, (∀ x ∈ xs, x.length = sz) → xs.flatten.length = xs.length * sz
  | [], _ => by simp
  | x :: xs, h => by rw [List.flatten_cons, List.length_append, h x List.mem_cons_self, flatten_size (fun y hy => h y (List.mem_cons_of_mem _ hy)), List.length_cons, Nat.add_mul]; omega
theorem fillL_len (hc : ∀ a, (c a).length = sz) (hz : z.length = sz) {l : List α} {i : Nat} (hi : i ≤ l.length) : (fillL c z l i).length = l.length * sz := by
  unfold fillL
  rw [flatten_size (fillL_sizes hc hz l i)]
  congr 1
  simp
  omega
theorem fillL_zero (l : List α) : (List.replicate l.length z).flatten = fillL c z l 0 := by simp [fillL]
theorem fillL_all (l : List α) : fillL c z l l.length = flat c l := by simp [fillL, flat]
theorem fillL_set (hc : ∀ a, (c a).length = sz) (hz : z.length = sz) {l : List α} {i : Nat} (h : i < l.length) :
    (fillL c z l i).take (i * sz) ++ c l[i] ++ (fillL c z l i).drop (i * sz + sz) = fillL c z l (i + 1) := by
  unfold fillL
  rw [flatten_set (fillL_sizes hc hz l i) (hc _) (by simp; omega), set_fill c z l h]
end

/-! ### Values, versions -/
structure GVal where
  (k n : Int)
  s : ByteArray
  deriving DecidableEq
def GVal.c (v : GVal) : List AV := [.int .i64 v.k, .int .i64 v.n, .str v.s]
@[simp] theorem GVal.len (v : GVal) : (GVal.c v).length = 3 := rfl
@[simp] theorem GVal.pure (v : GVal) : pureL (GVal.c v) = true := rfl
@[go_sem] theorem GVal.flen (l : List GVal) : (flat GVal.c l).length = l.length * 3 := flat_len GVal.len l
@[go_sem] theorem GVal.fat {l : List GVal} {i : Nat} (h : i < l.length) : (flat GVal.c l).drop (i * 3) = .int .i64 l[i].k :: .int .i64 l[i].n :: .str l[i].s :: flat GVal.c (l.drop (i + 1)) := flat_at GVal.len h
abbrev GRow := List GVal
def rowA (l : GRow) : AV := .sl l.length false (flat GVal.c l)
@[go_sem] theorem rowA_len {P : Program} {H : AH} {t : TypeId} {l : GRow} : lenT P H t (rowA l) = if (tySl P t).isSome then some (True, .int .i64 l.length) else none := rfl
@[go_sem] theorem rowA_cells {H : AH} {l : GRow} : cellsA H (rowA l) = some [rowA l] := rfl
@[go_sem] theorem rowA_snap {d : Nat} {H : AH} {l : GRow} : snapA d H (rowA l) = rowA l := snapA_id d H _ (by simp [rowA, pureA, flat_pure GVal.pure])
@[simp] theorem rowA_pure (l : GRow) : pureA (rowA l) = true := by simp [rowA, pureA, flat_pure GVal.pure]
structure GVer where
  (key born died : Int)
  row : GRow
  deriving DecidableEq
def GVer.c (v : GVer) : List AV := [.int .i64 v.key, .int .i64 v.born, .int .i64 v.died, rowA v.row]
@[simp] theorem GVer.len (v : GVer) : (GVer.c v).length = 4 := rfl
@[simp] theorem GVer.pure (v : GVer) : pureL (GVer.c v) = true := by simp [GVer.c, pureL, pureA]
@[go_sem] theorem GVer.flen (l : List GVer) : (flat GVer.c l).length = l.length * 4 := flat_len GVer.len l
@[go_sem] theorem GVer.fat {l : List GVer} {i : Nat} (h : i < l.length) : (flat GVer.c l).drop (i * 4) = .int .i64 l[i].key :: .int .i64 l[i].born :: .int .i64 l[i].died :: rowA l[i].row :: flat GVer.c (l.drop (i + 1)) := flat_at GVer.len h
def versA (l : List GVer) : AV := .sl l.length false (flat GVer.c l)
@[go_sem] theorem versA_len {P : Program} {H : AH} {t : TypeId} {l : List GVer} : lenT P H t (versA l) = if (tySl P t).isSome then some (True, .int .i64 l.length) else none := rfl
@[go_sem] theorem versA_cells {H : AH} {l : List GVer} : cellsA H (versA l) = some [versA l] := rfl
@[go_sem] theorem versA_snap {d : Nat} {H : AH} {l : List GVer} : snapA d H (versA l) = versA l := snapA_id d H _ (by simp [versA, pureA, flat_pure GVer.pure])
@[simp] theorem versA_pure (l : List GVer) : pureA (versA l) = true := by simp [versA, pureA, flat_pure GVer.pure]

abbrev zVal : List AV := [.int .i64 0, .int .i64 0, .str ⟨#[]⟩]
@[go_sem] theorem fillV_len {l : List GVal} {i : Nat} (hi : i ≤ l.length) : (fillL GVal.c zVal l i).length = l.length * 3 := fillL_len GVal.len rfl hi
@[go_sem] theorem fillV_set {l : List GVal} {i : Nat} (h : i < l.length) : (fillL GVal.c zVal l i).take (i * 3) ++ [.int .i64 l[i].k, .int .i64 l[i].n, .str l[i].s] ++ (fillL GVal.c zVal l i).drop (i * 3 + 3) = fillL GVal.c zVal l (i + 1) := fillL_set GVal.len rfl h
def inR (n low high : Int) : Prop := low ≤ n ∧ n ≤ high
instance (n low high : Int) : Decidable (inR n low high) := inferInstanceAs (Decidable (_ ∧ _))
/-- A text's bytes. -/
def bAt (s : ByteArray) (i : Nat) : Nat := (s.data.toList.getD i 0).toNat
theorem bAt_lt {s : ByteArray} {i : Nat} : bAt s i < 256 := (s.data.toList.getD i 0).toNat_lt
@[go_sem] theorem bAt_eq {s : ByteArray} {i : Nat} : (s.data.toList.getD i 0).toNat = bAt s i := rfl
def lettersP (s : ByteArray) : Prop := ∀ i, i < s.size → 97 ≤ bAt s i ∧ bAt s i ≤ 122
instance (s : ByteArray) : Decidable (lettersP s) := by unfold lettersP; infer_instance
@[go_sem] theorem bytesCells_len (s : ByteArray) : (bytesCells s).length = s.size := by simp [bytesCells]
@[go_sem] theorem bytesCells_at {s : ByteArray} {i : Nat} (h : i < s.size) : (bytesCells s).drop i = .int .u8 (bAt s i) :: (bytesCells s).drop (i + 1) := by
  rw [List.drop_eq_getElem_cons (by rw [bytesCells_len]; exact h)]
  congr 1
  have h1 : i < s.data.size := h
  simp [bytesCells, bAt, Array.getElem?_eq_getElem h1]
theorem bytesCells_pure (s : ByteArray) : pureL (bytesCells s) = true := by
  unfold bytesCells
  induction s.data.toList with
  | nil => rfl
  | cons a l ih => simp [pureL, pureA, ih]
def GVal.Ok (v : GVal) : Prop :=
  (v.k = 0 ∧ v.n = 0 ∧ v.s.size = 0) ∨ (v.k = 1 ∧ inR v.n (-9999) 9999 ∧ v.s.size = 0) ∨ (v.k = 2 ∧ v.n = 0 ∧ v.s.size ≤ 6 ∧ lettersP v.s) ∨ (v.k = 3 ∧ inR v.n 0 1 ∧ v.s.size = 0)
instance (v : GVal) : Decidable v.Ok := by unfold GVal.Ok; infer_instance
def rowOk (l : GRow) : Prop := l.length ≤ 4 ∧ ∀ v ∈ l, v.Ok
instance (l : GRow) : Decidable (rowOk l) := by unfold rowOk; infer_instance
@[simp] theorem size_nil : (⟨#[]⟩ : ByteArray).size = 0 := rfl
theorem size_zero {s : ByteArray} : s = ⟨#[]⟩ ↔ s.size = 0 := by
  constructor
  · rintro rfl; rfl
  · intro h
    obtain ⟨d⟩ := s
    have : d.size = 0 := h
    simp at this
    rw [this]
def szVal (v : GVal) (left : Int) : Int := if left - v.s.size < 0 then -1 else left - v.s.size
def szVals : GRow → Int → Int
  | [], left => left
  | v :: r, left => if left - v.s.size < 0 then -1 else szVals r (left - v.s.size)
def szRow (l : GRow) (left : Int) : Int := if left - l.length < 0 then -1 else szVals l (left - l.length)
theorem szVals_lo : ∀ (l : GRow) {left : Int}, 0 ≤ left → -1 ≤ szVals l left ∧ szVals l left ≤ left ∧ (szVals l left < 0 → szVals l left = -1)
  | [], left, h => by simp only [szVals]; omega
  | v :: r, left, h => by
    simp only [szVals]
    split
    · omega
    · have := szVals_lo r (left := left - v.s.size) (by omega)
      omega
theorem szRow_lo (l : GRow) {left : Int} (h : 0 ≤ left) : -1 ≤ szRow l left ∧ szRow l left ≤ left ∧ (szRow l left < 0 → szRow l left = -1) ∧ (0 ≤ szRow l left → l.length ≤ left) := by
  unfold szRow
  split
  · omega
  · have := szVals_lo l (left := left - l.length) (by omega)
    omega
def szVerL : List GVer → Int → Int
  | [], left => left
  | v :: r, left => if szRow v.row left < 0 then -1 else szVerL r (szRow v.row left)
def szVers (l : List GVer) (left : Int) : Int := if left - l.length < 0 then -1 else szVerL l (left - l.length)
abbrev zVer : List AV := [.int .i64 0, .int .i64 0, .int .i64 0, .sl 0 true []]
@[go_sem] theorem fillVer_len {l : List GVer} {i : Nat} (hi : i ≤ l.length) : (fillL GVer.c zVer l i).length = l.length * 4 := fillL_len GVer.len rfl hi
@[go_sem] theorem fillVer_set {l : List GVer} {i : Nat} (h : i < l.length) : (fillL GVer.c zVer l i).take (i * 4) ++ [.int .i64 l[i].key, .int .i64 l[i].born, .int .i64 l[i].died, rowA l[i].row] ++ (fillL GVer.c zVer l i).drop (i * 4 + 4) = fillL GVer.c zVer l (i + 1) := fillL_set GVer.len rfl h
/-- The first place where a test holds, or -1. -/
def idxF {α : Type} (p : α → Bool) (l : List α) : Int := match l.findIdx? p with | some i => i | none => -1
theorem idxF_ge {α : Type} {p : α → Bool} {l : List α} : (0 ≤ idxF p l) ↔ l.any p = true := by
  unfold idxF
  cases h : l.findIdx? p with
  | none => simp only [List.findIdx?_eq_none_iff] at h; simp; exact fun x hx => by simpa using h x hx
  | some i =>
    simp only
    have := (List.findIdx?_eq_some_iff_getElem.1 h)
    obtain ⟨h1, h2, _⟩ := this
    simp only [Int.natCast_nonneg, true_iff, List.any_eq_true]
    exact ⟨_, List.getElem_mem h1, h2⟩
theorem idxF_at {α : Type} {p : α → Bool} {l : List α} {i : Nat} (h : i < l.length) (hp : p l[i] = true) (hn : ∀ j (hj : j < l.length), j < i → p l[j] = false) : idxF p l = i := by
  unfold idxF
  rw [List.findIdx?_eq_some_iff_getElem.2 ⟨h, hp, fun j hj => by simpa using hn j (by omega) hj⟩]
theorem idxF_none {α : Type} {p : α → Bool} {l : List α} (hn : ∀ j (hj : j < l.length), p l[j] = false) : idxF p l = -1 := by
  unfold idxF
  rw [List.findIdx?_eq_none_iff.2 fun x hx => by
    obtain ⟨j, hj, rfl⟩ := List.getElem_of_mem hx
    exact hn j hj]
theorem rowOk_iff (l : GRow) : decide (rowOk l) = (decide (l.length ≤ 4) && !(l.any fun v => !decide v.Ok)) := by
  rw [Bool.eq_iff_iff, decide_eq_true_iff]
  simp [rowOk]
def GVer.Ok (v : GVer) : Prop := inR v.key 0 4 ∧ inR v.born 1 40 ∧ (v.died = 0 ∨ inR v.died (v.born + 1) 40) ∧ rowOk v.row
instance (v : GVer) : Decidable v.Ok := by unfold GVer.Ok; infer_instance
def ordP (w v : GVer) : Prop := w.key < v.key ∨ (w.key = v.key ∧ w.died ≠ 0 ∧ w.died ≤ v.born)
def versOk (l : List GVer) : Prop := (∀ j (h : j < l.length), l[j].Ok) ∧ (∀ j (h : j + 1 < l.length), ordP l[j] l[j + 1]) ∧ l.length ≤ 60
noncomputable instance (l : List GVer) : Decidable (versOk l) := Classical.propDecidable _
/-! ### Orders -/
def cI (n : Int) : List AV := [.int .i64 n]
@[go_sem] theorem cI_flen (l : List Int) : (flat cI l).length = l.length := by rw [flat_len (c := cI) (sz := 1) (fun _ => rfl)]; omega
@[go_sem] theorem cI_fat {l : List Int} {i : Nat} (h : i < l.length) : (flat cI l).drop i = .int .i64 l[i] :: flat cI (l.drop (i + 1)) := by
  have := flat_at (c := cI) (sz := 1) (fun _ => rfl) h
  rwa [Nat.mul_one] at this
theorem cI_pure (l : List Int) : pureL (flat cI l) = true := flat_pure (fun _ => rfl) l
def cmpI (a b : Int) : Int := if a < b then -1 else if b < a then 1 else 0
def cmpS (a b : ByteArray) : Int := if Op.bytesLess a.data.toList b.data.toList then -1 else if a = b then 0 else 1
/-- The first that is not 0. -/
def orF : List Int → Int
  | [] => 0
  | a :: l => if a = 0 then orF l else a
def GVal.ord (v w : GVal) : Int := orF [cmpI v.k w.k, cmpI v.n w.n, cmpS v.s w.s]
def cmpL (g : GVal → GVal → Int) : GRow → GRow → Int
  | [], [] => 0
  | [], _ :: _ => -1
  | _ :: _, [] => 1
  | v :: l, w :: m => if g v w = 0 then cmpL g l m else g v w
/-- In pairs, then by length. -/
def zipL (g : GVal → GVal → Int) : GRow → GRow → Int
  | v :: l, w :: m => if g v w = 0 then zipL g l m else g v w
  | _, _ => 0
theorem cmpL_or (g : GVal → GVal → Int) : ∀ l m : GRow, orF [cmpL g l m, cmpI l.length m.length] = cmpL g l m
  | [], [] => by simp [cmpL, orF, cmpI]
  | [], _ :: _ => by simp [cmpL, orF]
  | _ :: _, [] => by simp [cmpL, orF]
  | v :: l, w :: m => by
    have := cmpL_or g l m
    simp only [cmpL]
    split
    · rw [← this]
      simp only [List.length_cons, orF, cmpI]
      have e1 : (((l.length + 1 : Nat) : Int) < ((m.length + 1 : Nat) : Int)) ↔ ((l.length : Int) < m.length) := by omega
      have e2 : (((m.length + 1 : Nat) : Int) < ((l.length + 1 : Nat) : Int)) ↔ ((m.length : Int) < l.length) := by omega
      simp only [e1, e2]
      split <;> simp_all
    · rename_i h; simp [orF, h]
def rowOrd (l m : GRow) : Int := cmpL GVal.ord l m
def valOrd (v w : GVal) : Int := if v.Ok ∧ w.Ok then v.ord w else 0
def rowOrdOk (l m : GRow) : Int := if rowOk l ∧ rowOk m then rowOrd l m else 0
theorem cmpL_congr {g g' : GVal → GVal → Int} : ∀ {l m : GRow}, (∀ v ∈ l, ∀ w ∈ m, g v w = g' v w) → cmpL g l m = cmpL g' l m
  | [], [], _ => rfl
  | [], _ :: _, _ => rfl
  | _ :: _, [], _ => rfl
  | v :: l, w :: m, h => by
    simp only [cmpL, h v List.mem_cons_self w List.mem_cons_self]
    rw [cmpL_congr (fun x hx y hy => h x (List.mem_cons_of_mem _ hx) y (List.mem_cons_of_mem _ hy))]
theorem cmpL_end {g : GVal → GVal → Int} {l m : GRow} {k : Nat} (h1 : k ≤ l.length) (h2 : k ≤ m.length) (h : l.length ≤ k ∨ m.length ≤ k) : cmpL g (l.drop k) (m.drop k) = cmpI l.length m.length := by
  have e1 : (l.drop k).length = l.length - k := List.length_drop
  have e2 : (m.drop k).length = m.length - k := List.length_drop
  unfold cmpI
  cases hl : l.drop k with
  | nil =>
    rw [hl] at e1
    cases hm : m.drop k with
    | nil =>
      rw [hm] at e2
      simp only [List.length_nil] at e1 e2
      rw [cmpL, if_neg (by omega), if_neg (by omega)]
    | cons x r =>
      rw [hm] at e2
      simp only [List.length_nil, List.length_cons] at e1 e2
      rw [cmpL, if_pos (by omega)]
  | cons x r =>
    rw [hl] at e1
    cases hm : m.drop k with
    | nil =>
      rw [hm] at e2
      simp only [List.length_nil, List.length_cons] at e1 e2
      rw [cmpL, if_neg (by omega), if_pos (by omega)]
    | cons y s =>
      rw [hm] at e2
      simp only [List.length_cons] at e1 e2
      omega
end Go.TH

/-
  TH, part 28: rows of equal parts of which just so much is known.
-/
set_option linter.unusedVariables false
set_option linter.unusedSimpArgs false
namespace Go.TH
open Go
theorem flat_append {α : Type} (c : α → List AV) (a b : List α) : flat c (a ++ b) = flat c a ++ flat c b := by simp [flat]
def Flat {α : Type} (c : α → List AV) (P : α → Prop) (cells : List AV) (n : Nat) : Prop := ∃ l : List α, cells = flat c l ∧ n = l.length ∧ ∀ a ∈ l, P a
section
variable {α : Type} {c : α → List AV} {P : α → Prop} {cells cells' : List AV} {n m : Nat}
theorem Flat.nil : Flat c P [] 0 := ⟨[], rfl, rfl, fun a h => by simp at h⟩
theorem Flat.snoc (h : Flat c P cells n) (a : α) (ha : P a) : Flat c P (cells ++ c a) (n + 1) := by
  obtain ⟨l, rfl, rfl, hl⟩ := h
  refine ⟨l ++ [a], by rw [flat_append, flat_cons, flat_nil, List.append_nil], by simp, fun b hb => ?_⟩
  rcases List.mem_append.1 hb with hb | hb
  · exact hl b hb
  · simp at hb; subst hb; exact ha
theorem Flat.cat (h : Flat c P cells n) (k : Flat c P cells' m) : Flat c P (cells ++ cells') (n + m) := by
  obtain ⟨l, rfl, rfl, hl⟩ := h
  obtain ⟨l', rfl, rfl, hl'⟩ := k
  exact ⟨l ++ l', by rw [flat_append], by simp, fun b hb => (List.mem_append.1 hb).elim (hl b) (hl' b)⟩
theorem Flat.len {sz : Nat} (hc : ∀ a, (c a).length = sz) (h : Flat c P cells n) : cells.length = n * sz := by
  obtain ⟨l, rfl, rfl, _⟩ := h
  exact flat_len hc l
theorem Flat.pure (hc : ∀ a, pureL (c a) = true) (h : Flat c P cells n) : pureL cells = true := by
  obtain ⟨l, rfl, rfl, _⟩ := h
  exact flat_pure hc l
theorem Flat.mono {Q : α → Prop} (h : Flat c P cells n) (hq : ∀ a, P a → Q a) : Flat c Q cells n := by
  obtain ⟨l, h1, h2, h3⟩ := h
  exact ⟨l, h1, h2, fun a ha => hq a (h3 a ha)⟩
/-- One part is put anew. -/
theorem Flat.put {sz : Nat} (hc : ∀ a, (c a).length = sz) (h : Flat c P cells n) {i : Nat} (hi : i < n) (a : α) (ha : P a) : Flat c P (cells.take (i * sz) ++ c a ++ cells.drop (i * sz + sz)) n := by
  obtain ⟨l, rfl, rfl, hl⟩ := h
  refine ⟨l.set i a, ?_, by simp, fun b hb => ?_⟩
  · unfold flat
    rw [List.map_set]
    refine flatten_set (sz := sz) (fun x hx => ?_) (hc a) (by simpa using hi)
    obtain ⟨b, _, rfl⟩ := List.mem_map.1 hx
    exact hc b
  · rcases List.mem_or_eq_of_mem_set hb with hb | rfl
    · exact hl b hb
    · exact ha
/-- The part at a place. -/
theorem Flat.at {sz : Nat} (hc : ∀ a, (c a).length = sz) (h : Flat c P cells n) {i : Nat} (hi : i < n) : ∃ a, P a ∧ cells.drop (i * sz) = c a ++ cells.drop ((i + 1) * sz) := by
  obtain ⟨l, rfl, rfl, hl⟩ := h
  refine ⟨l[i], hl _ (List.getElem_mem _), ?_⟩
  rw [flat_at hc hi, ← flat_drop hc l (i + 1)]
theorem Flat.take {sz : Nat} (hc : ∀ a, (c a).length = sz) (h : Flat c P cells n) {i : Nat} (hi : i ≤ n) : Flat c P (cells.take (i * sz)) i := by
  obtain ⟨l, rfl, rfl, hl⟩ := h
  refine ⟨l.take i, ?_, by simp; omega, fun b hb => hl b (List.mem_of_mem_take hb)⟩
  have e : flat c l = flat c (l.take i) ++ flat c (l.drop i) := by rw [← flat_append, List.take_append_drop]
  have hl2 : (flat c (l.take i)).length = i * sz := by rw [flat_len hc]; congr 1; simp; omega
  rw [e, ← hl2, List.take_left]
end
/-- A slice that is only read, of which just so much is known. -/
def SlP {α : Type} (c : α → List AV) (P : α → Prop) (n : Nat) (a : AV) : Prop := ∃ l : List α, a = .sl l.length false (flat c l) ∧ n = l.length ∧ ∀ x ∈ l, P x

/-! ### Columns -/
structure GCol where
  k : Int
  e : Bool
  deriving DecidableEq
def GCol.c (v : GCol) : List AV := [.int .i64 v.k, .bool v.e]
@[simp] theorem GCol.len (v : GCol) : (GCol.c v).length = 2 := rfl
@[simp] theorem GCol.pure (v : GCol) : pureL (GCol.c v) = true := rfl
@[go_sem] theorem GCol.flen (l : List GCol) : (flat GCol.c l).length = l.length * 2 := flat_len GCol.len l
@[go_sem] theorem GCol.fat {l : List GCol} {i : Nat} (h : i < l.length) : (flat GCol.c l).drop (i * 2) = .int .i64 l[i].k :: .bool l[i].e :: flat GCol.c (l.drop (i + 1)) := flat_at GCol.len h
def colsA (l : List GCol) : AV := .sl l.length false (flat GCol.c l)
@[go_sem] theorem colsA_len {P : Program} {H : AH} {t : TypeId} {l : List GCol} : lenT P H t (colsA l) = if (tySl P t).isSome then some (True, .int .i64 l.length) else none := rfl
@[go_sem] theorem colsA_cells {H : AH} {l : List GCol} : cellsA H (colsA l) = some [colsA l] := rfl
@[simp] theorem colsA_pure (l : List GCol) : pureA (colsA l) = true := by simp [colsA, pureA, flat_pure GCol.pure]
@[go_sem] theorem colsA_snap {d : Nat} {H : AH} {l : List GCol} : snapA d H (colsA l) = colsA l := snapA_id d H _ (colsA_pure l)
@[go_sem] theorem colsA_keep {nx d : Nat} {L : List (Nat × Nat)} {H : AH} {l : List GCol} : keepA nx L H d (colsA l) = colsA l := keepA_pure (colsA_pure l)
@[go_sem] theorem rowA_keep {nx d : Nat} {L : List (Nat × Nat)} {H : AH} {l : GRow} : keepA nx L H d (rowA l) = rowA l := keepA_pure (rowA_pure l)
theorem Flat.snocC {P : GCol → Prop} {cells : List AV} {n : Nat} (h : Flat GCol.c P cells n) {k : Int} {e : Bool} (ha : P ⟨k, e⟩) : Flat GCol.c P (cells ++ [.int .i64 k, .bool e]) (n + 1) := h.snoc ⟨k, e⟩ ha
theorem Flat.snocV {P : GVal → Prop} {cells : List AV} {n : Nat} (h : Flat GVal.c P cells n) {k m : Int} {s : ByteArray} (ha : P ⟨k, m, s⟩) : Flat GVal.c P (cells ++ [.int .i64 k, .int .i64 m, .str s]) (n + 1) := h.snoc ⟨k, m, s⟩ ha
theorem Flat.snoc3C {P : GCol → Prop} {cells : List AV} {n : Nat} (h : Flat GCol.c P cells n) {k k' k2 : Int} {e e' e2 : Bool} (ha : P ⟨k, e⟩) (hb : P ⟨k', e'⟩) (hc : P ⟨k2, e2⟩) :
    Flat GCol.c P (cells ++ [.int .i64 k, .bool e, .int .i64 k', .bool e', .int .i64 k2, .bool e2]) (n + 3) := by
  have := ((h.snocC ha).snocC hb).snocC hc
  simpa using this
theorem Flat.snoc3V {P : GVal → Prop} {cells : List AV} {n : Nat} (h : Flat GVal.c P cells n) {a b c : GVal} (ha : P a) (hb : P b) (hc : P c) :
    Flat GVal.c P (cells ++ [.int .i64 a.k, .int .i64 a.n, .str a.s, .int .i64 b.k, .int .i64 b.n, .str b.s, .int .i64 c.k, .int .i64 c.n, .str c.s]) (n + 3) := by
  have := ((h.snoc a ha).snoc b hb).snoc c hc
  simpa [GVal.c] using this
@[go_sem] theorem GCol.keepL {nx d : Nat} {L : List (Nat × Nat)} {H : AH} {l : List GCol} : (flat GCol.c l).map (keepA nx L H d) = flat GCol.c l := map_keep (flat_pure GCol.pure l)
@[go_sem] theorem GVal.keepL {nx d : Nat} {L : List (Nat × Nat)} {H : AH} {l : List GVal} : (flat GVal.c l).map (keepA nx L H d) = flat GVal.c l := map_keep (flat_pure GVal.pure l)
theorem getD_strs (l : List ByteArray) (x : Nat) (h : x < l.length) : ∃ m ∈ l, (l.map AV.str).getD x .junk = .str m :=
  ⟨l[x], List.getElem_mem h, by simp [List.getD, h]⟩
theorem allTake {α : Type} {P : α → Prop} {l : List α} {k : Nat} (h : k < l.length) (ha : ∀ c ∈ l.take k, P c) (hp : P l[k]) : ∀ c ∈ l.take (k + 1), P c := by
  intro c hc
  rw [List.take_succ_eq_append_getElem h] at hc
  rcases List.mem_append.1 hc with hc | hc
  · exact ha c hc
  · simp at hc; subst hc; exact hp
theorem allTake0 {α : Type} {P : α → Prop} {l : List α} : ∀ c ∈ l.take 0, P c := fun c h => by simp at h
theorem allEnd {α : Type} {P : α → Prop} {l : List α} {k : Nat} (h : l.length ≤ k) (ha : ∀ c ∈ l.take k, P c) : ∀ c ∈ l, P c := by rwa [List.take_of_length_le h] at ha
def colsOk (l : List GCol) : Prop := l.length ≤ 4 ∧ ∀ c ∈ l, inR c.k 1 3
def fitP (v : GVal) (c : GCol) : Prop := v.k = c.k ∨ (v.k = 0 ∧ c.e = true)
def rowFits (cols : List GCol) (row : GRow) : Prop := colsOk cols ∧ rowOk row ∧ row.length = cols.length ∧ ∀ i (h : i < row.length) (h' : i < cols.length), fitP row[i] cols[i]
def rowsOk (cols : List GCol) (rows : List GRow) : Prop := colsOk cols ∧ ∀ r ∈ rows, rowFits cols r
instance (l : List GCol) : Decidable (colsOk l) := by unfold colsOk; infer_instance
noncomputable instance (c : List GCol) (r : GRow) : Decidable (rowFits c r) := Classical.propDecidable _
noncomputable instance (c : List GCol) (r : List GRow) : Decidable (rowsOk c r) := Classical.propDecidable _
/-! ### Rows of rows -/
def cR (r : GRow) : List AV := [rowA r]
@[simp] theorem cR_len (r : GRow) : (cR r).length = 1 := rfl
@[simp] theorem cR_pure (r : GRow) : pureL (cR r) = true := by simp [cR, pureL]
@[go_sem] theorem cR_flen (l : List GRow) : (flat cR l).length = l.length := by rw [flat_len cR_len]; omega
@[go_sem] theorem cR_fat {l : List GRow} {i : Nat} (h : i < l.length) : (flat cR l).drop i = rowA l[i] :: flat cR (l.drop (i + 1)) := by
  have := flat_at cR_len h
  rwa [Nat.mul_one] at this
@[go_sem] theorem cR_keepL {nx d : Nat} {L : List (Nat × Nat)} {H : AH} {l : List GRow} : (flat cR l).map (keepA nx L H d) = flat cR l := map_keep (flat_pure cR_pure l)
def rowsA (l : List GRow) : AV := .sl l.length false (flat cR l)
@[go_sem] theorem rowsA_len {P : Program} {H : AH} {t : TypeId} {l : List GRow} : lenT P H t (rowsA l) = if (tySl P t).isSome then some (True, .int .i64 l.length) else none := rfl
@[go_sem] theorem rowsA_cells {H : AH} {l : List GRow} : cellsA H (rowsA l) = some [rowsA l] := rfl
@[simp] theorem rowsA_pure (l : List GRow) : pureA (rowsA l) = true := by simp [rowsA, pureA, flat_pure cR_pure]
@[go_sem] theorem rowsA_snap {d : Nat} {H : AH} {l : List GRow} : snapA d H (rowsA l) = rowsA l := snapA_id d H _ (rowsA_pure l)
@[go_sem] theorem rowsA_keep {nx d : Nat} {L : List (Nat × Nat)} {H : AH} {l : List GRow} : keepA nx L H d (rowsA l) = rowsA l := keepA_pure (rowsA_pure l)
@[go_sem] theorem cR_snapL {d : Nat} {H : AH} {l : List GRow} : (flat cR l).map (snapA d H) = flat cR l := map_snap d H (flat_pure cR_pure l)
@[go_sem] theorem GCol.snapL {d : Nat} {H : AH} {l : List GCol} : (flat GCol.c l).map (snapA d H) = flat GCol.c l := map_snap d H (flat_pure GCol.pure l)
@[go_sem] theorem GVal.snapL {d : Nat} {H : AH} {l : List GVal} : (flat GVal.c l).map (snapA d H) = flat GVal.c l := map_snap d H (flat_pure GVal.pure l)
theorem Flat.snocR {P : GRow → Prop} {cells : List AV} {n : Nat} (h : Flat cR P cells n) {r : GRow} (ha : P r) : Flat cR P (cells ++ [rowA r]) (n + 1) := h.snoc r ha
@[go_sem] theorem GCol.takeL {l : List GCol} : (flat GCol.c l).take (l.length * 2) = flat GCol.c l := takeAll (by rw [flat_len GCol.len]; omega)
@[go_sem] theorem GVal.takeL {l : List GVal} : (flat GVal.c l).take (l.length * 3) = flat GVal.c l := takeAll (by rw [flat_len GVal.len]; omega)
@[go_sem] theorem GVer.takeL {l : List GVer} : (flat GVer.c l).take (l.length * 4) = flat GVer.c l := takeAll (by rw [flat_len GVer.len]; omega)
@[go_sem] theorem cR_takeL {l : List GRow} : (flat cR l).take l.length = flat cR l := takeAll (by rw [flat_len cR_len]; omega)
@[go_sem] theorem cR_getD {l : List GRow} {i : Nat} (h : i < l.length) : (flat cR l).getD i .junk = rowA l[i] := by
  have := cR_fat h
  rw [← getD_drop, this]
  rfl
end Go.TH

/-
  TH, part 29: answers of which it is forgotten whether there is room behind them.
-/
set_option linter.unusedVariables false
set_option linter.unusedSimpArgs false
namespace Go.TH
open Go
mutual
def looseA : AV → AV
  | .sl n _ cs => .sl n false (looseL cs)
  | .ro cs => .ro (looseL cs)
  | .agg cs => .agg (looseL cs)
  | .tup cs => .tup (looseL cs)
  | .fn f cs => .fn f (looseL cs)
  | .bfn f cs => .bfn f (looseL cs)
  | .ptr id ver off => .ptr id ver off
  | .msl id ver sz off n => .msl id ver sz off n
  | .int k n => .int k n
  | .bool b => .bool b
  | .str s => .str s
  | .nilp => .nilp
  | .junk => .junk
  | .unk => .unk
def looseL : List AV → List AV
  | [] => []
  | a :: l => looseA a :: looseL l
end
theorem looseL_map : ∀ l, looseL l = l.map looseA
  | [] => rfl
  | a :: l => by simp [looseL, looseL_map l]
theorem Rep.loose {W : World} {M : Nat → Option Ent} {F : Nat → Prop} {v : Value} {a : AV} (r : Rep W M F v a) : Rep W M F v (looseA a) := by
  have pts : ∀ {vs : List Value} {cells : List AV}, (∀ (j : Nat) (v : Value) (a : AV), vs[j]? = some v → cells[j]? = some a → Rep W M F v (looseA a)) →
      ∀ (j : Nat) (v : Value) (a : AV), vs[j]? = some v → (looseL cells)[j]? = some a → Rep W M F v a := by
    intro vs cells h j v a h1 h2
    rw [looseL_map, List.getElem?_map] at h2
    cases hc : cells[j]? with
    | none => rw [hc] at h2; cases h2
    | some x => rw [hc] at h2; cases h2; exact h j v x h1 hc
  have len : ∀ cells : List AV, (looseL cells).length = cells.length := fun cells => by rw [looseL_map]; simp
  induction r with
  | int k n => exact .int k n
  | bool b => exact .bool b
  | str s => exact .str s
  | sl ad n c t cells vs hn ht hF hs hl hc hr ih => exact .sl ad n c false _ vs hn (fun h => by cases h) hF hs (by rw [len]; exact hl) hc (pts ih)
  | sl0 A n c t hn ht => exact .sl0 A n c false hn (fun h => by cases h)
  | ro ad cells vs hF hs hl hc hr ih => exact .ro ad _ vs hF hs (by rw [len]; exact hl) hc (pts ih)
  | ptr id ver off b hm => exact .ptr id ver off b hm
  | ptrOld v id ver off e hm hv => exact .ptrOld v id ver off e hm hv
  | msl id ver sz off n c b cs T fz hm hn hb hcap => exact .msl id ver sz off n c b cs T fz hm hn hb hcap
  | mslNil A id ver sz off b hm => exact .mslNil A id ver sz off b hm
  | mslOld v id ver sz off n e hm hv => exact .mslOld v id ver sz off n e hm hv
  | agg vs cells hl h1 hr ih => exact .agg vs _ (by rw [len]; exact hl) h1 (pts ih)
  | tup vs as hl hr ih => exact .tup vs _ (by rw [len]; exact hl) (pts ih)
  | fn f vs as hl hr ih => exact .fn f vs _ (by rw [len]; exact hl) (pts ih)
  | bfn f vs as hl hr ih => exact .bfn f vs _ (by rw [len]; exact hl) (pts ih)
  | nilp => exact .nilp
  | junk v => exact .junk v
  | unk b => exact .unk b
theorem CallC.loose {P : Program} {f : FuncId} {args : List AV} {H : AH} {nx : Nat} {r : AV} {H' : AH} {nx' : Nat} (h : CallC P f args H nx r H' nx') : CallC P f args H nx (looseA r) H' nx' := by
  refine ⟨h.1, fun base κ vs hi hr => (h.2 base κ vs hi hr).mono ?_⟩
  rintro e W' ⟨v, κ', h1, h2, h3, h4⟩
  exact ⟨v, κ', h1, h2, h3.loose, h4⟩
theorem QCall.loose {P : Program} {f : FuncId} {args : List AV} {r : AV} (h : QCall P f args r) : QCall P f args (looseA r) := fun H nx => (h H nx).loose
/-- On pure arguments: what comes back is looked at as a picture, 'd' deep, without what is behind it. -/
theorem qcall_bodyL {P : Program} (hm : P.follows .mixedOrders = true) {f : FuncId} {fn : Func} (hf : P.funcs[f]? = some fn) (c : Code) (hb : fn.body = some c) {n : Nat} (hn : fn.ntmps = n) {rs : List ResultVar} (hrs : fn.results = rs.toArray)
    (hname : (fn.name == "runtime.NumGoroutine") = false) {args : List AV} {r : AV} (d : Nat) (hl : args.length ≤ n) (hp : pureL args = true)
    (h : awp P c (bodyQ P rs fun r1 H1 _ => looseA (snapA d H1 r1) = r) ⟨initT n args, noH, 0⟩) : QCall P f args r := by
  obtain ⟨r1, H1, nx1, h1, h2⟩ := dcall_body hm hf c hb hn hrs hname hl h
  have := (qcall_of hp h1 d).loose
  rwa [h2] at this
@[go_sem] theorem looseA_sl {n : Nat} {t : Bool} {cs : List AV} : looseA (.sl n t cs) = .sl n false (cs.map looseA) := by simp [looseA, looseL_map]
@[go_sem] theorem looseA_tup {cs : List AV} : looseA (.tup cs) = .tup (cs.map looseA) := by simp [looseA, looseL_map]
@[go_sem] theorem looseA_agg {cs : List AV} : looseA (.agg cs) = .agg (cs.map looseA) := by simp [looseA, looseL_map]
@[go_sem] theorem looseA_int {k : IntKind} {n : Int} : looseA (.int k n) = .int k n := rfl
@[go_sem] theorem looseA_bool {b : Bool} : looseA (.bool b) = .bool b := rfl
@[go_sem] theorem looseA_str {b : ByteArray} : looseA (.str b) = .str b := rfl
theorem flat_loose {α : Type} {c : α → List AV} (hc : ∀ a, (c a).map looseA = c a) : ∀ l : List α, (flat c l).map looseA = flat c l
  | [] => rfl
  | a :: l => by rw [flat_cons, List.map_append, hc, flat_loose hc l]
@[go_sem] theorem GVal.looseL {l : List GVal} : (flat GVal.c l).map looseA = flat GVal.c l := flat_loose (fun _ => rfl) l
@[go_sem] theorem GCol.looseL {l : List GCol} : (flat GCol.c l).map looseA = flat GCol.c l := flat_loose (fun _ => rfl) l
@[go_sem] theorem rowA_loose {l : GRow} : looseA (rowA l) = rowA l := by unfold rowA; rw [looseA_sl, GVal.looseL]
@[go_sem] theorem cR_looseL {l : List GRow} : (flat cR l).map looseA = flat cR l := flat_loose (fun r => by simp [cR, rowA_loose]) l
@[go_sem] theorem rowsA_loose {l : List GRow} : looseA (rowsA l) = rowsA l := by unfold rowsA; rw [looseA_sl, cR_looseL]
/-- LENT FOR GOOD: what is the caller's own is only read from then on. -/
theorem callC_lend {P : Program} {f : FuncId} {args : List AV} {H : AH} {nx : Nat} {r : AV} (d : Nat) (h : QCall P f (args.map (snapA d H)) r) (hp : pureA r = true) : CallC P f args H nx r noH nx := by
  refine ⟨(h noH 0).1, fun base κ vs hi hr => ?_⟩
  have live : ∀ b, liveB κ H b → base ≤ b ∧ b < κ.W.heap.size := by
    rintro b ⟨id, ver, cells, e, h1, h2, h3⟩
    obtain ⟨e', he', _, hh⟩ := hi.live id ver cells h1
    rw [h2] at he'
    cases he'
    refine ⟨?_, hh.lt h3⟩
    unfold Held at hh
    rw [h3] at hh
    exact hh.1
  have hF0 : ∀ b, (κ.F b ∨ liveB κ H b) → b < κ.W.heap.size := fun b hb => hb.elim (hi.hF b) fun h => (live b h).2
  have hi0 : Inv κ.W.heap.size ⟨κ.W, fun _ => none, fun b => κ.F b ∨ liveB κ H b⟩ noH 0 := ⟨hF0, Nat.le_refl _, (fun _ _ => rfl), (fun id ver cells h => by cases h), (fun i j ei ej b _ h _ _ _ => by cases h), hi.tab.up hi.hbase⟩
  have hr0 : Reps ⟨κ.W, fun _ => none, fun b => κ.F b ∨ liveB κ H b⟩ vs (args.map (snapA d H)) := snap_reps hi (fun b hb => .inl hb) (fun b hb => .inr hb) d hr
  refine ((h noH 0).2 _ _ vs hi0 hr0).mono ?_
  rintro e W' ⟨v, κ', rfl, rfl, hrep, hext, hinv⟩
  have ev : Ev κ ⟨κ'.W, κ.M, κ'.F⟩ := ⟨fun b hb => hext.ev.fr b (.inl hb), fun id e he => ⟨e, he, .inr rfl⟩, hext.ev.shp⟩
  refine ⟨v, ⟨κ'.W, κ.M, κ'.F⟩, rfl, rfl, hrep.pure hp, ?_, ?_⟩
  · refine ⟨ev, hext.os, hext.tape, hext.output, hext.size, fun b hb => hext.below b (Nat.lt_of_lt_of_le hb hi.hbase), fun b hb => ?_⟩
    rcases hext.newF b hb with h' | h'
    · exact h'.imp id fun h => (live b h).1
    · exact .inr (Nat.le_trans hi.hbase h')
  · exact ⟨fun b hb => hinv.hF b hb, Nat.le_trans hi.hbase hext.size, hi.hM, (fun id ver cells hl => by cases hl), (fun i j ei ej b _ _ _ _ _ => .inl rfl), hi.tab.keep fun b hb => hext.below b (Nat.lt_of_lt_of_le hb hi.hbase)⟩
theorem CallB.lend {P : Program} (d : Nat) {f : FuncId} {args : List AV} {H : AH} {nx : Nat} {r : AV} {K : AV → AH → Nat → Prop} {w : Box K} (h : QCall P f (args.map (snapA d H)) r) (hp : pureA r = true) (k : K r noH nx) : CallB P f args H nx K w := ⟨⟨_, _, _, callC_lend d h hp, k⟩⟩
@[go_sem] theorem sub0_toNat {n : Nat} : ((n : Int) - 0).toNat = n := by omega
end Go.TH

/-
  TH, part 30: writes.
-/
set_option linter.unusedVariables false
set_option linter.unusedSimpArgs false
namespace Go.TH
open Go
structure GWr where
  key : Int
  row : GRow
  gone : Bool
  deriving DecidableEq
def GWr.c (v : GWr) : List AV := [.int .i64 v.key, rowA v.row, .bool v.gone]
@[simp] theorem GWr.len (v : GWr) : (GWr.c v).length = 3 := rfl
@[simp] theorem GWr.pure (v : GWr) : pureL (GWr.c v) = true := by simp [GWr.c, pureL, pureA]
@[go_sem] theorem GWr.flen (l : List GWr) : (flat GWr.c l).length = l.length * 3 := flat_len GWr.len l
@[go_sem] theorem GWr.fat {l : List GWr} {i : Nat} (h : i < l.length) : (flat GWr.c l).drop (i * 3) = .int .i64 l[i].key :: rowA l[i].row :: .bool l[i].gone :: flat GWr.c (l.drop (i + 1)) := flat_at GWr.len h
def wrsA (l : List GWr) : AV := .sl l.length false (flat GWr.c l)
@[go_sem] theorem wrsA_len {P : Program} {H : AH} {t : TypeId} {l : List GWr} : lenT P H t (wrsA l) = if (tySl P t).isSome then some (True, .int .i64 l.length) else none := rfl
@[go_sem] theorem wrsA_cells {H : AH} {l : List GWr} : cellsA H (wrsA l) = some [wrsA l] := rfl
@[simp] theorem wrsA_pure (l : List GWr) : pureA (wrsA l) = true := by simp [wrsA, pureA, flat_pure GWr.pure]
@[go_sem] theorem wrsA_snap {d : Nat} {H : AH} {l : List GWr} : snapA d H (wrsA l) = wrsA l := snapA_id d H _ (wrsA_pure l)
@[go_sem] theorem wrsA_keep {nx d : Nat} {L : List (Nat × Nat)} {H : AH} {l : List GWr} : keepA nx L H d (wrsA l) = wrsA l := keepA_pure (wrsA_pure l)
@[go_sem] theorem GWr.takeL {l : List GWr} : (flat GWr.c l).take (l.length * 3) = flat GWr.c l := takeAll (by rw [flat_len GWr.len]; omega)
@[go_sem] theorem GWr.keepL {nx d : Nat} {L : List (Nat × Nat)} {H : AH} {l : List GWr} : (flat GWr.c l).map (keepA nx L H d) = flat GWr.c l := map_keep (flat_pure GWr.pure l)
@[go_sem] theorem GWr.snapL {d : Nat} {H : AH} {l : List GWr} : (flat GWr.c l).map (snapA d H) = flat GWr.c l := map_snap d H (flat_pure GWr.pure l)
theorem Flat.snocW {P : GWr → Prop} {cells : List AV} {n : Nat} (h : Flat GWr.c P cells n) {k : Int} {r : GRow} {g : Bool} (ha : P ⟨k, r, g⟩) : Flat GWr.c P (cells ++ [.int .i64 k, rowA r, .bool g]) (n + 1) := h.snoc ⟨k, r, g⟩ ha
def GWr.Ok (w : GWr) : Prop := inR w.key 0 4 ∧ rowOk w.row ∧ ¬ (w.gone = true ∧ 0 < w.row.length)
def wrsOk (l : List GWr) : Prop := (∀ j (h : j < l.length), l[j].Ok) ∧ ∀ j (h : j + 1 < l.length), l[j].key < l[j + 1].key
noncomputable instance (l : List GWr) : Decidable (wrsOk l) := Classical.propDecidable _
theorem wrsOk_len {l : List GWr} (h : wrsOk l) : l.length ≤ 5 := by
  have key : ∀ j (hj : j < l.length), (j : Int) ≤ l[j].key := by
    intro j
    induction j with
    | zero => exact fun hj => (h.1 0 hj).1.1
    | succ j ih =>
      intro hj
      have h1 := ih (by omega)
      have h2 := h.2 j hj
      omega
  rcases Nat.lt_or_ge 5 l.length with h5 | h5
  · have h1 := key 5 h5
    have h2 := (h.1 5 h5).1.2
    omega
  · exact h5
theorem wrsOk_take {l : List GWr} (h : wrsOk l) (k : Nat) : wrsOk (l.take k) := by
  refine ⟨fun j hj => ?_, fun j hj => ?_⟩
  · rw [List.getElem_take]; exact h.1 j (by simp at hj; omega)
  · rw [List.getElem_take, List.getElem_take]; exact h.2 j (by simp at hj; omega)
/-- Forgotten: whether there is room behind a slice, in the frame and in all blocks. -/
def looseB : ABlk → ABlk
  | .live v cs => .live v (cs.map looseA)
  | .dead => .dead
theorem Reps.loose {κ : Cx} {vs : List Value} {as : List AV} (h : Reps κ vs as) : Reps κ vs (as.map looseA) := by
  refine ⟨by simp [h.1], fun j v a h1 h2 => ?_⟩
  rw [List.getElem?_map] at h2
  cases hc : as[j]? with
  | none => rw [hc] at h2; cases h2
  | some x => rw [hc] at h2; cases h2; exact (h.2 j v x h1 hc).loose
theorem Weak.loose {T : List AV} {H : AH} {nx : Nat} : Weak ⟨T, H, nx⟩ ⟨T.map looseA, fun i => looseB (H i), nx⟩ := by
  intro base κ a hs
  refine ⟨κ, rfl, ⟨⟨hs.inv.hF, hs.inv.hbase, hs.inv.hM, fun id ver cells hl => ?_, fun i j ei ej b hij h1 h2 h3 h4 => ?_, hs.inv.tab⟩, hs.tmps.loose, hs.defers⟩, .refl _ _⟩
  · simp only at hl
    cases hh : H id with
    | dead => rw [hh] at hl; cases hl
    | live v cs =>
      rw [hh] at hl
      simp only [looseB, ABlk.live.injEq] at hl
      obtain ⟨rfl, rfl⟩ := hl
      obtain ⟨e, he, hv, hd⟩ := hs.inv.live id v cs hh
      refine ⟨e, he, hv, ?_⟩
      unfold Held at *
      cases hb : e.blk with
      | none => rw [hb] at hd; simp only at hd ⊢; rw [hd]; rfl
      | some b =>
        rw [hb] at hd
        obtain ⟨g1, g2, vs, rest, T2, g3, g4, g5⟩ := hd
        exact ⟨g1, g2, vs, rest, T2, g3, g4, g5.loose⟩
  · rcases hs.inv.inj i j ei ej b hij h1 h2 h3 h4 with h | h
    · left; simp only at h ⊢; rw [h]; rfl
    · right; simp only at h ⊢; rw [h]; rfl
end Go.TH

/-
  TH, part 31: the data of the other structs. Made by boil.py.
-/
set_option linter.unusedVariables false
set_option linter.unusedSimpArgs false
namespace Go.TH
open Go
theorem IfB.dec2 {p : Prop} [Decidable p] {A B : Prop} {w : Box A} {w2 : Box B} (h1 : p → decide p = true → A) (h2 : ¬ p → decide p = false → B) : IfB (decide p) A B w w2 := IfB.dec (fun h => h1 h (decide_eq_true h)) (fun h => h2 h (decide_eq_false h))
@[go_sem] theorem dec_self {α : Type} [DecidableEq α] {a : α} : decide (a = a) = true := decide_eq_true rfl
def heapOf (s : ASt) : AH := s.H
def nxOf (s : ASt) : Nat := s.nx
@[go_sem] theorem heapOf_mk {T : List AV} {H : AH} {nx : Nat} : heapOf ⟨T, H, nx⟩ = H := rfl
@[go_sem] theorem nxOf_mk {T : List AV} {H : AH} {nx : Nat} : nxOf ⟨T, H, nx⟩ = nx := rfl
abbrev zCol : List AV := [.int .i64 0, .bool false]
abbrev zWr : List AV := [.int .i64 0, .sl 0 true [], .bool false]
@[go_sem] theorem fillCol_len {l : List GCol} {i : Nat} (hi : i ≤ l.length) : (fillL GCol.c zCol l i).length = l.length * 2 := fillL_len GCol.len rfl hi
@[go_sem] theorem fillCol_set {l : List GCol} {i : Nat} (h : i < l.length) : (fillL GCol.c zCol l i).take (i * 2) ++ [.int .i64 l[i].k, .bool l[i].e] ++ (fillL GCol.c zCol l i).drop (i * 2 + 2) = fillL GCol.c zCol l (i + 1) := fillL_set GCol.len rfl h
@[go_sem] theorem fillWr_len {l : List GWr} {i : Nat} (hi : i ≤ l.length) : (fillL GWr.c zWr l i).length = l.length * 3 := fillL_len GWr.len rfl hi
@[go_sem] theorem fillWr_set {l : List GWr} {i : Nat} (h : i < l.length) : (fillL GWr.c zWr l i).take (i * 3) ++ [.int .i64 l[i].key, rowA l[i].row, .bool l[i].gone] ++ (fillL GWr.c zWr l i).drop (i * 3 + 3) = fillL GWr.c zWr l (i + 1) := fillL_set GWr.len rfl h
@[go_sem] theorem versA_keep {nx d : Nat} {L : List (Nat × Nat)} {H : AH} {l : List GVer} : keepA nx L H d (versA l) = versA l := keepA_pure (versA_pure l)
@[go_sem] theorem GVer.keepL {nx d : Nat} {L : List (Nat × Nat)} {H : AH} {l : List GVer} : (flat GVer.c l).map (keepA nx L H d) = flat GVer.c l := map_keep (flat_pure GVer.pure l)
@[go_sem] theorem GVer.snapL {d : Nat} {H : AH} {l : List GVer} : (flat GVer.c l).map (snapA d H) = flat GVer.c l := map_snap d H (flat_pure GVer.pure l)
@[go_sem] theorem GVer.looseL {l : List GVer} : (flat GVer.c l).map looseA = flat GVer.c l := flat_loose (fun _ => by simp [GVer.c, go_sem]) l
@[go_sem] theorem versA_loose {l : List GVer} : looseA (versA l) = versA l := by unfold versA; rw [looseA_sl, GVer.looseL]
@[go_sem] theorem GWr.looseL {l : List GWr} : (flat GWr.c l).map looseA = flat GWr.c l := flat_loose (fun _ => by simp [GWr.c, go_sem]) l
@[go_sem] theorem wrsA_loose {l : List GWr} : looseA (wrsA l) = wrsA l := by unfold wrsA; rw [looseA_sl, GWr.looseL]
@[go_sem] theorem colsA_loose {l : List GCol} : looseA (colsA l) = colsA l := by unfold colsA; rw [looseA_sl, GCol.looseL]
/-! ### Whole numbers, truths -/
def cBo (b : Bool) : List AV := [.bool b]
def intsA (l : List Int) : AV := .sl l.length false (flat cI l)
@[go_sem] theorem intsA_len {P : Program} {H : AH} {t : TypeId} {l : List Int} : lenT P H t (intsA l) = if (tySl P t).isSome then some (True, .int .i64 l.length) else none := rfl
@[go_sem] theorem intsA_cells {H : AH} {l : List Int} : cellsA H (intsA l) = some [intsA l] := rfl
@[simp] theorem intsA_pure (l : List Int) : pureA (intsA l) = true := by simp [intsA, pureA, cI_pure]
@[go_sem] theorem intsA_snap {d : Nat} {H : AH} {l : List Int} : snapA d H (intsA l) = intsA l := snapA_id d H _ (intsA_pure l)
@[go_sem] theorem intsA_keep {nx d : Nat} {L : List (Nat × Nat)} {H : AH} {l : List Int} : keepA nx L H d (intsA l) = intsA l := keepA_pure (intsA_pure l)
@[go_sem] theorem cI_keepL {nx d : Nat} {L : List (Nat × Nat)} {H : AH} {l : List Int} : (flat cI l).map (keepA nx L H d) = flat cI l := map_keep (cI_pure l)
@[go_sem] theorem cI_snapL {d : Nat} {H : AH} {l : List Int} : (flat cI l).map (snapA d H) = flat cI l := map_snap d H (cI_pure l)
@[go_sem] theorem cI_looseL {l : List Int} : (flat cI l).map looseA = flat cI l := flat_loose (fun _ => rfl) l
@[go_sem] theorem intsA_loose {l : List Int} : looseA (intsA l) = intsA l := by unfold intsA; rw [looseA_sl, cI_looseL]
@[go_sem] theorem cI_takeL {l : List Int} : (flat cI l).take l.length = flat cI l := takeAll (by rw [cI_flen]; omega)
@[go_sem] theorem fillcI_len {l : List Int} {i : Nat} (hi : i ≤ l.length) : (fillL cI [.int .i64 0] l i).length = l.length := by rw [fillL_len (sz := 1) (c := cI) (fun _ => rfl) rfl hi]; omega
@[go_sem] theorem fillcI_set {l : List Int} {i : Nat} (h : i < l.length) : (fillL cI [.int .i64 0] l i).take i ++ [.int .i64 l[i]] ++ (fillL cI [.int .i64 0] l i).drop (i + 1) = fillL cI [.int .i64 0] l (i + 1) := by
  have := fillL_set (sz := 1) (c := cI) (z := [.int .i64 0]) (fun _ => rfl) rfl h
  rwa [Nat.mul_one] at this
@[go_sem] theorem cBo_flen (l : List Bool) : (flat cBo l).length = l.length := by rw [flat_len (c := cBo) (sz := 1) (fun _ => rfl)]; omega
@[go_sem] theorem cBo_fat {l : List Bool} {i : Nat} (h : i < l.length) : (flat cBo l).drop i = .bool l[i] :: flat cBo (l.drop (i + 1)) := by
  have := flat_at (c := cBo) (sz := 1) (fun _ => rfl) h
  rwa [Nat.mul_one] at this
theorem cBo_pure (l : List Bool) : pureL (flat cBo l) = true := flat_pure (fun _ => rfl) l
def boolsA (l : List Bool) : AV := .sl l.length false (flat cBo l)
@[go_sem] theorem boolsA_len {P : Program} {H : AH} {t : TypeId} {l : List Bool} : lenT P H t (boolsA l) = if (tySl P t).isSome then some (True, .int .i64 l.length) else none := rfl
@[go_sem] theorem boolsA_cells {H : AH} {l : List Bool} : cellsA H (boolsA l) = some [boolsA l] := rfl
@[simp] theorem boolsA_pure (l : List Bool) : pureA (boolsA l) = true := by simp [boolsA, pureA, cBo_pure]
@[go_sem] theorem boolsA_snap {d : Nat} {H : AH} {l : List Bool} : snapA d H (boolsA l) = boolsA l := snapA_id d H _ (boolsA_pure l)
@[go_sem] theorem boolsA_keep {nx d : Nat} {L : List (Nat × Nat)} {H : AH} {l : List Bool} : keepA nx L H d (boolsA l) = boolsA l := keepA_pure (boolsA_pure l)
@[go_sem] theorem cBo_keepL {nx d : Nat} {L : List (Nat × Nat)} {H : AH} {l : List Bool} : (flat cBo l).map (keepA nx L H d) = flat cBo l := map_keep (cBo_pure l)
@[go_sem] theorem cBo_snapL {d : Nat} {H : AH} {l : List Bool} : (flat cBo l).map (snapA d H) = flat cBo l := map_snap d H (cBo_pure l)
@[go_sem] theorem cBo_looseL {l : List Bool} : (flat cBo l).map looseA = flat cBo l := flat_loose (fun _ => rfl) l
@[go_sem] theorem boolsA_loose {l : List Bool} : looseA (boolsA l) = boolsA l := by unfold boolsA; rw [looseA_sl, cBo_looseL]
@[go_sem] theorem cBo_takeL {l : List Bool} : (flat cBo l).take l.length = flat cBo l := takeAll (by rw [cBo_flen]; omega)
@[go_sem] theorem fillcBo_len {l : List Bool} {i : Nat} (hi : i ≤ l.length) : (fillL cBo [.bool false] l i).length = l.length := by rw [fillL_len (sz := 1) (c := cBo) (fun _ => rfl) rfl hi]; omega
@[go_sem] theorem fillcBo_set {l : List Bool} {i : Nat} (h : i < l.length) : (fillL cBo [.bool false] l i).take i ++ [.bool l[i]] ++ (fillL cBo [.bool false] l i).drop (i + 1) = fillL cBo [.bool false] l (i + 1) := by
  have := fillL_set (sz := 1) (c := cBo) (z := [.bool false]) (fun _ => rfl) rfl h
  rwa [Nat.mul_one] at this
@[go_sem] theorem fillcR_len {l : List GRow} {i : Nat} (hi : i ≤ l.length) : (fillL cR [.sl 0 true []] l i).length = l.length := by rw [fillL_len (sz := 1) (c := cR) (fun _ => rfl) rfl hi]; omega
@[go_sem] theorem fillcR_set {l : List GRow} {i : Nat} (h : i < l.length) : (fillL cR [.sl 0 true []] l i).take i ++ [rowA l[i]] ++ (fillL cR [.sl 0 true []] l i).drop (i + 1) = fillL cR [.sl 0 true []] l (i + 1) := by
  have := fillL_set (sz := 1) (c := cR) (z := [.sl 0 true []]) (fun _ => rfl) rfl h
  rwa [Nat.mul_one] at this
def VB (v : GVal) : Prop := v.s.size ≤ 1048576
def VBL (v : GVal) : Prop := v.s.size ≤ 9223372036854775807
def VrB (v : GVer) : Prop := (v.row.length ≤ 1048576 ∧ ∀ x ∈ v.row, VB x)
def VrBL (v : GVer) : Prop := (v.row.length ≤ 9223372036854775807 ∧ ∀ x ∈ v.row, VBL x)
def CB (v : GCol) : Prop := True
def CBL (v : GCol) : Prop := True
def WB (v : GWr) : Prop := (v.row.length ≤ 1048576 ∧ ∀ x ∈ v.row, VB x)
def WBL (v : GWr) : Prop := (v.row.length ≤ 9223372036854775807 ∧ ∀ x ∈ v.row, VBL x)
/-! ### Known -/
structure GKn where
  many : Int
  sum : Int
  least : GVal
  most : GVal
  deriving DecidableEq
def GKn.c (v : GKn) : List AV := [.int .i64 v.many, .int .i64 v.sum, .int .i64 v.least.k, .int .i64 v.least.n, .str v.least.s, .int .i64 v.most.k, .int .i64 v.most.n, .str v.most.s]
@[simp] theorem GKn.len (v : GKn) : (GKn.c v).length = 8 := rfl
@[simp] theorem GKn.pure (v : GKn) : pureL (GKn.c v) = true := by simp [GKn.c, pureL, pureA]
@[go_sem] theorem GKn.flen (l : List GKn) : (flat GKn.c l).length = l.length * 8 := flat_len GKn.len l
@[go_sem] theorem GKn.fat {l : List GKn} {i : Nat} (h : i < l.length) : (flat GKn.c l).drop (i * 8) = .int .i64 l[i].many :: .int .i64 l[i].sum :: .int .i64 l[i].least.k :: .int .i64 l[i].least.n :: .str l[i].least.s :: .int .i64 l[i].most.k :: .int .i64 l[i].most.n :: .str l[i].most.s :: flat GKn.c (l.drop (i + 1)) := flat_at GKn.len h
def knsA (l : List GKn) : AV := .sl l.length false (flat GKn.c l)
@[go_sem] theorem knsA_len {P : Program} {H : AH} {t : TypeId} {l : List GKn} : lenT P H t (knsA l) = if (tySl P t).isSome then some (True, .int .i64 l.length) else none := rfl
@[go_sem] theorem knsA_cells {H : AH} {l : List GKn} : cellsA H (knsA l) = some [knsA l] := rfl
@[simp] theorem knsA_pure (l : List GKn) : pureA (knsA l) = true := by simp [knsA, pureA, flat_pure GKn.pure]
@[go_sem] theorem knsA_snap {d : Nat} {H : AH} {l : List GKn} : snapA d H (knsA l) = knsA l := snapA_id d H _ (knsA_pure l)
@[go_sem] theorem knsA_keep {nx d : Nat} {L : List (Nat × Nat)} {H : AH} {l : List GKn} : keepA nx L H d (knsA l) = knsA l := keepA_pure (knsA_pure l)
@[go_sem] theorem GKn.takeL {l : List GKn} : (flat GKn.c l).take (l.length * 8) = flat GKn.c l := takeAll (by rw [flat_len GKn.len]; omega)
@[go_sem] theorem GKn.keepL {nx d : Nat} {L : List (Nat × Nat)} {H : AH} {l : List GKn} : (flat GKn.c l).map (keepA nx L H d) = flat GKn.c l := map_keep (flat_pure GKn.pure l)
@[go_sem] theorem GKn.snapL {d : Nat} {H : AH} {l : List GKn} : (flat GKn.c l).map (snapA d H) = flat GKn.c l := map_snap d H (flat_pure GKn.pure l)
@[go_sem] theorem GKn.looseL {l : List GKn} : (flat GKn.c l).map looseA = flat GKn.c l := flat_loose (fun _ => by simp [GKn.c, go_sem]) l
@[go_sem] theorem knsA_loose {l : List GKn} : looseA (knsA l) = knsA l := by unfold knsA; rw [looseA_sl, GKn.looseL]
abbrev zKn : List AV := [.int .i64 0, .int .i64 0, .int .i64 0, .int .i64 0, .str ⟨#[]⟩, .int .i64 0, .int .i64 0, .str ⟨#[]⟩]
@[go_sem] theorem fillGKn_len {l : List GKn} {i : Nat} (hi : i ≤ l.length) : (fillL GKn.c zKn l i).length = l.length * 8 := fillL_len GKn.len rfl hi
@[go_sem] theorem fillGKn_set {l : List GKn} {i : Nat} (h : i < l.length) : (fillL GKn.c zKn l i).take (i * 8) ++ [.int .i64 l[i].many, .int .i64 l[i].sum, .int .i64 l[i].least.k, .int .i64 l[i].least.n, .str l[i].least.s, .int .i64 l[i].most.k, .int .i64 l[i].most.n, .str l[i].most.s] ++ (fillL GKn.c zKn l i).drop (i * 8 + 8) = fillL GKn.c zKn l (i + 1) := fillL_set GKn.len rfl h
def KnB (v : GKn) : Prop := VB v.least ∧ VB v.most
def KnBL (v : GKn) : Prop := VBL v.least ∧ VBL v.most
/-! ### Part -/
structure GPt where
  k : Int
  n : Int
  v : GVal
  deriving DecidableEq
def GPt.c (v : GPt) : List AV := [.int .i64 v.k, .int .i64 v.n, .int .i64 v.v.k, .int .i64 v.v.n, .str v.v.s]
@[simp] theorem GPt.len (v : GPt) : (GPt.c v).length = 5 := rfl
@[simp] theorem GPt.pure (v : GPt) : pureL (GPt.c v) = true := by simp [GPt.c, pureL, pureA]
@[go_sem] theorem GPt.flen (l : List GPt) : (flat GPt.c l).length = l.length * 5 := flat_len GPt.len l
@[go_sem] theorem GPt.fat {l : List GPt} {i : Nat} (h : i < l.length) : (flat GPt.c l).drop (i * 5) = .int .i64 l[i].k :: .int .i64 l[i].n :: .int .i64 l[i].v.k :: .int .i64 l[i].v.n :: .str l[i].v.s :: flat GPt.c (l.drop (i + 1)) := flat_at GPt.len h
def partsA (l : List GPt) : AV := .sl l.length false (flat GPt.c l)
@[go_sem] theorem partsA_len {P : Program} {H : AH} {t : TypeId} {l : List GPt} : lenT P H t (partsA l) = if (tySl P t).isSome then some (True, .int .i64 l.length) else none := rfl
@[go_sem] theorem partsA_cells {H : AH} {l : List GPt} : cellsA H (partsA l) = some [partsA l] := rfl
@[simp] theorem partsA_pure (l : List GPt) : pureA (partsA l) = true := by simp [partsA, pureA, flat_pure GPt.pure]
@[go_sem] theorem partsA_snap {d : Nat} {H : AH} {l : List GPt} : snapA d H (partsA l) = partsA l := snapA_id d H _ (partsA_pure l)
@[go_sem] theorem partsA_keep {nx d : Nat} {L : List (Nat × Nat)} {H : AH} {l : List GPt} : keepA nx L H d (partsA l) = partsA l := keepA_pure (partsA_pure l)
@[go_sem] theorem GPt.takeL {l : List GPt} : (flat GPt.c l).take (l.length * 5) = flat GPt.c l := takeAll (by rw [flat_len GPt.len]; omega)
@[go_sem] theorem GPt.keepL {nx d : Nat} {L : List (Nat × Nat)} {H : AH} {l : List GPt} : (flat GPt.c l).map (keepA nx L H d) = flat GPt.c l := map_keep (flat_pure GPt.pure l)
@[go_sem] theorem GPt.snapL {d : Nat} {H : AH} {l : List GPt} : (flat GPt.c l).map (snapA d H) = flat GPt.c l := map_snap d H (flat_pure GPt.pure l)
@[go_sem] theorem GPt.looseL {l : List GPt} : (flat GPt.c l).map looseA = flat GPt.c l := flat_loose (fun _ => by simp [GPt.c, go_sem]) l
@[go_sem] theorem partsA_loose {l : List GPt} : looseA (partsA l) = partsA l := by unfold partsA; rw [looseA_sl, GPt.looseL]
abbrev zPt : List AV := [.int .i64 0, .int .i64 0, .int .i64 0, .int .i64 0, .str ⟨#[]⟩]
@[go_sem] theorem fillGPt_len {l : List GPt} {i : Nat} (hi : i ≤ l.length) : (fillL GPt.c zPt l i).length = l.length * 5 := fillL_len GPt.len rfl hi
@[go_sem] theorem fillGPt_set {l : List GPt} {i : Nat} (h : i < l.length) : (fillL GPt.c zPt l i).take (i * 5) ++ [.int .i64 l[i].k, .int .i64 l[i].n, .int .i64 l[i].v.k, .int .i64 l[i].v.n, .str l[i].v.s] ++ (fillL GPt.c zPt l i).drop (i * 5 + 5) = fillL GPt.c zPt l (i + 1) := fillL_set GPt.len rfl h
def PtB (v : GPt) : Prop := VB v.v
def PtBL (v : GPt) : Prop := VBL v.v
/-! ### Tally -/
structure GTl where
  key : List GVal
  rows : Int
  many : Int
  sum : Int
  deriving DecidableEq
def GTl.c (v : GTl) : List AV := [rowA v.key, .int .i64 v.rows, .int .i64 v.many, .int .i64 v.sum]
@[simp] theorem GTl.len (v : GTl) : (GTl.c v).length = 4 := rfl
@[simp] theorem GTl.pure (v : GTl) : pureL (GTl.c v) = true := by simp [GTl.c, pureL, pureA]
@[go_sem] theorem GTl.flen (l : List GTl) : (flat GTl.c l).length = l.length * 4 := flat_len GTl.len l
@[go_sem] theorem GTl.fat {l : List GTl} {i : Nat} (h : i < l.length) : (flat GTl.c l).drop (i * 4) = rowA l[i].key :: .int .i64 l[i].rows :: .int .i64 l[i].many :: .int .i64 l[i].sum :: flat GTl.c (l.drop (i + 1)) := flat_at GTl.len h
def talsA (l : List GTl) : AV := .sl l.length false (flat GTl.c l)
@[go_sem] theorem talsA_len {P : Program} {H : AH} {t : TypeId} {l : List GTl} : lenT P H t (talsA l) = if (tySl P t).isSome then some (True, .int .i64 l.length) else none := rfl
@[go_sem] theorem talsA_cells {H : AH} {l : List GTl} : cellsA H (talsA l) = some [talsA l] := rfl
@[simp] theorem talsA_pure (l : List GTl) : pureA (talsA l) = true := by simp [talsA, pureA, flat_pure GTl.pure]
@[go_sem] theorem talsA_snap {d : Nat} {H : AH} {l : List GTl} : snapA d H (talsA l) = talsA l := snapA_id d H _ (talsA_pure l)
@[go_sem] theorem talsA_keep {nx d : Nat} {L : List (Nat × Nat)} {H : AH} {l : List GTl} : keepA nx L H d (talsA l) = talsA l := keepA_pure (talsA_pure l)
@[go_sem] theorem GTl.takeL {l : List GTl} : (flat GTl.c l).take (l.length * 4) = flat GTl.c l := takeAll (by rw [flat_len GTl.len]; omega)
@[go_sem] theorem GTl.keepL {nx d : Nat} {L : List (Nat × Nat)} {H : AH} {l : List GTl} : (flat GTl.c l).map (keepA nx L H d) = flat GTl.c l := map_keep (flat_pure GTl.pure l)
@[go_sem] theorem GTl.snapL {d : Nat} {H : AH} {l : List GTl} : (flat GTl.c l).map (snapA d H) = flat GTl.c l := map_snap d H (flat_pure GTl.pure l)
@[go_sem] theorem GTl.looseL {l : List GTl} : (flat GTl.c l).map looseA = flat GTl.c l := flat_loose (fun _ => by simp [GTl.c, go_sem]) l
@[go_sem] theorem talsA_loose {l : List GTl} : looseA (talsA l) = talsA l := by unfold talsA; rw [looseA_sl, GTl.looseL]
abbrev zTl : List AV := [.sl 0 true [], .int .i64 0, .int .i64 0, .int .i64 0]
@[go_sem] theorem fillGTl_len {l : List GTl} {i : Nat} (hi : i ≤ l.length) : (fillL GTl.c zTl l i).length = l.length * 4 := fillL_len GTl.len rfl hi
@[go_sem] theorem fillGTl_set {l : List GTl} {i : Nat} (h : i < l.length) : (fillL GTl.c zTl l i).take (i * 4) ++ [rowA l[i].key, .int .i64 l[i].rows, .int .i64 l[i].many, .int .i64 l[i].sum] ++ (fillL GTl.c zTl l i).drop (i * 4 + 4) = fillL GTl.c zTl l (i + 1) := fillL_set GTl.len rfl h
def TlB (v : GTl) : Prop := (v.key.length ≤ 1048576 ∧ ∀ x ∈ v.key, VB x)
def TlBL (v : GTl) : Prop := (v.key.length ≤ 9223372036854775807 ∧ ∀ x ∈ v.key, VBL x)
/-! ### Table -/
structure GTb where
  cols : List GCol
  rows : List GRow
  deriving DecidableEq
def GTb.c (v : GTb) : List AV := [colsA v.cols, rowsA v.rows]
@[simp] theorem GTb.len (v : GTb) : (GTb.c v).length = 2 := rfl
@[simp] theorem GTb.pure (v : GTb) : pureL (GTb.c v) = true := by simp [GTb.c, pureL, pureA]
@[go_sem] theorem GTb.flen (l : List GTb) : (flat GTb.c l).length = l.length * 2 := flat_len GTb.len l
@[go_sem] theorem GTb.fat {l : List GTb} {i : Nat} (h : i < l.length) : (flat GTb.c l).drop (i * 2) = colsA l[i].cols :: rowsA l[i].rows :: flat GTb.c (l.drop (i + 1)) := flat_at GTb.len h
def tabsA (l : List GTb) : AV := .sl l.length false (flat GTb.c l)
@[go_sem] theorem tabsA_len {P : Program} {H : AH} {t : TypeId} {l : List GTb} : lenT P H t (tabsA l) = if (tySl P t).isSome then some (True, .int .i64 l.length) else none := rfl
@[go_sem] theorem tabsA_cells {H : AH} {l : List GTb} : cellsA H (tabsA l) = some [tabsA l] := rfl
@[simp] theorem tabsA_pure (l : List GTb) : pureA (tabsA l) = true := by simp [tabsA, pureA, flat_pure GTb.pure]
@[go_sem] theorem tabsA_snap {d : Nat} {H : AH} {l : List GTb} : snapA d H (tabsA l) = tabsA l := snapA_id d H _ (tabsA_pure l)
@[go_sem] theorem tabsA_keep {nx d : Nat} {L : List (Nat × Nat)} {H : AH} {l : List GTb} : keepA nx L H d (tabsA l) = tabsA l := keepA_pure (tabsA_pure l)
@[go_sem] theorem GTb.takeL {l : List GTb} : (flat GTb.c l).take (l.length * 2) = flat GTb.c l := takeAll (by rw [flat_len GTb.len]; omega)
@[go_sem] theorem GTb.keepL {nx d : Nat} {L : List (Nat × Nat)} {H : AH} {l : List GTb} : (flat GTb.c l).map (keepA nx L H d) = flat GTb.c l := map_keep (flat_pure GTb.pure l)
@[go_sem] theorem GTb.snapL {d : Nat} {H : AH} {l : List GTb} : (flat GTb.c l).map (snapA d H) = flat GTb.c l := map_snap d H (flat_pure GTb.pure l)
@[go_sem] theorem GTb.looseL {l : List GTb} : (flat GTb.c l).map looseA = flat GTb.c l := flat_loose (fun _ => by simp [GTb.c, go_sem]) l
@[go_sem] theorem tabsA_loose {l : List GTb} : looseA (tabsA l) = tabsA l := by unfold tabsA; rw [looseA_sl, GTb.looseL]
abbrev zTb : List AV := [.sl 0 true [], .sl 0 true []]
@[go_sem] theorem fillGTb_len {l : List GTb} {i : Nat} (hi : i ≤ l.length) : (fillL GTb.c zTb l i).length = l.length * 2 := fillL_len GTb.len rfl hi
@[go_sem] theorem fillGTb_set {l : List GTb} {i : Nat} (h : i < l.length) : (fillL GTb.c zTb l i).take (i * 2) ++ [colsA l[i].cols, rowsA l[i].rows] ++ (fillL GTb.c zTb l i).drop (i * 2 + 2) = fillL GTb.c zTb l (i + 1) := fillL_set GTb.len rfl h
def TbB (v : GTb) : Prop := (v.cols.length ≤ 1048576) ∧ (v.rows.length ≤ 1048576 ∧ ∀ r ∈ v.rows, r.length ≤ 1048576 ∧ ∀ x ∈ r, x.s.size ≤ 1048576)
def TbBL (v : GTb) : Prop := (v.cols.length ≤ 9223372036854775807) ∧ (v.rows.length ≤ 9223372036854775807 ∧ ∀ r ∈ v.rows, r.length ≤ 9223372036854775807 ∧ ∀ x ∈ r, x.s.size ≤ 9223372036854775807)
/-! ### Change -/
structure GCh where
  tin : Int
  row : List GVal
  come : Bool
  deriving DecidableEq
def GCh.c (v : GCh) : List AV := [.int .i64 v.tin, rowA v.row, .bool v.come]
@[simp] theorem GCh.len (v : GCh) : (GCh.c v).length = 3 := rfl
@[simp] theorem GCh.pure (v : GCh) : pureL (GCh.c v) = true := by simp [GCh.c, pureL, pureA]
@[go_sem] theorem GCh.flen (l : List GCh) : (flat GCh.c l).length = l.length * 3 := flat_len GCh.len l
@[go_sem] theorem GCh.fat {l : List GCh} {i : Nat} (h : i < l.length) : (flat GCh.c l).drop (i * 3) = .int .i64 l[i].tin :: rowA l[i].row :: .bool l[i].come :: flat GCh.c (l.drop (i + 1)) := flat_at GCh.len h
def chsA (l : List GCh) : AV := .sl l.length false (flat GCh.c l)
@[go_sem] theorem chsA_len {P : Program} {H : AH} {t : TypeId} {l : List GCh} : lenT P H t (chsA l) = if (tySl P t).isSome then some (True, .int .i64 l.length) else none := rfl
@[go_sem] theorem chsA_cells {H : AH} {l : List GCh} : cellsA H (chsA l) = some [chsA l] := rfl
@[simp] theorem chsA_pure (l : List GCh) : pureA (chsA l) = true := by simp [chsA, pureA, flat_pure GCh.pure]
@[go_sem] theorem chsA_snap {d : Nat} {H : AH} {l : List GCh} : snapA d H (chsA l) = chsA l := snapA_id d H _ (chsA_pure l)
@[go_sem] theorem chsA_keep {nx d : Nat} {L : List (Nat × Nat)} {H : AH} {l : List GCh} : keepA nx L H d (chsA l) = chsA l := keepA_pure (chsA_pure l)
@[go_sem] theorem GCh.takeL {l : List GCh} : (flat GCh.c l).take (l.length * 3) = flat GCh.c l := takeAll (by rw [flat_len GCh.len]; omega)
@[go_sem] theorem GCh.keepL {nx d : Nat} {L : List (Nat × Nat)} {H : AH} {l : List GCh} : (flat GCh.c l).map (keepA nx L H d) = flat GCh.c l := map_keep (flat_pure GCh.pure l)
@[go_sem] theorem GCh.snapL {d : Nat} {H : AH} {l : List GCh} : (flat GCh.c l).map (snapA d H) = flat GCh.c l := map_snap d H (flat_pure GCh.pure l)
@[go_sem] theorem GCh.looseL {l : List GCh} : (flat GCh.c l).map looseA = flat GCh.c l := flat_loose (fun _ => by simp [GCh.c, go_sem]) l
@[go_sem] theorem chsA_loose {l : List GCh} : looseA (chsA l) = chsA l := by unfold chsA; rw [looseA_sl, GCh.looseL]
abbrev zCh : List AV := [.int .i64 0, .sl 0 true [], .bool false]
@[go_sem] theorem fillGCh_len {l : List GCh} {i : Nat} (hi : i ≤ l.length) : (fillL GCh.c zCh l i).length = l.length * 3 := fillL_len GCh.len rfl hi
@[go_sem] theorem fillGCh_set {l : List GCh} {i : Nat} (h : i < l.length) : (fillL GCh.c zCh l i).take (i * 3) ++ [.int .i64 l[i].tin, rowA l[i].row, .bool l[i].come] ++ (fillL GCh.c zCh l i).drop (i * 3 + 3) = fillL GCh.c zCh l (i + 1) := fillL_set GCh.len rfl h
def ChB (v : GCh) : Prop := (v.row.length ≤ 1048576 ∧ ∀ x ∈ v.row, VB x)
def ChBL (v : GCh) : Prop := (v.row.length ≤ 9223372036854775807 ∧ ∀ x ∈ v.row, VBL x)
/-! ### Mark -/
structure GMk where
  v : GVal
  key : Int
  born : Int
  died : Int
  deriving DecidableEq
def GMk.c (v : GMk) : List AV := [.int .i64 v.v.k, .int .i64 v.v.n, .str v.v.s, .int .i64 v.key, .int .i64 v.born, .int .i64 v.died]
@[simp] theorem GMk.len (v : GMk) : (GMk.c v).length = 6 := rfl
@[simp] theorem GMk.pure (v : GMk) : pureL (GMk.c v) = true := by simp [GMk.c, pureL, pureA]
@[go_sem] theorem GMk.flen (l : List GMk) : (flat GMk.c l).length = l.length * 6 := flat_len GMk.len l
@[go_sem] theorem GMk.fat {l : List GMk} {i : Nat} (h : i < l.length) : (flat GMk.c l).drop (i * 6) = .int .i64 l[i].v.k :: .int .i64 l[i].v.n :: .str l[i].v.s :: .int .i64 l[i].key :: .int .i64 l[i].born :: .int .i64 l[i].died :: flat GMk.c (l.drop (i + 1)) := flat_at GMk.len h
def marksA (l : List GMk) : AV := .sl l.length false (flat GMk.c l)
@[go_sem] theorem marksA_len {P : Program} {H : AH} {t : TypeId} {l : List GMk} : lenT P H t (marksA l) = if (tySl P t).isSome then some (True, .int .i64 l.length) else none := rfl
@[go_sem] theorem marksA_cells {H : AH} {l : List GMk} : cellsA H (marksA l) = some [marksA l] := rfl
@[simp] theorem marksA_pure (l : List GMk) : pureA (marksA l) = true := by simp [marksA, pureA, flat_pure GMk.pure]
@[go_sem] theorem marksA_snap {d : Nat} {H : AH} {l : List GMk} : snapA d H (marksA l) = marksA l := snapA_id d H _ (marksA_pure l)
@[go_sem] theorem marksA_keep {nx d : Nat} {L : List (Nat × Nat)} {H : AH} {l : List GMk} : keepA nx L H d (marksA l) = marksA l := keepA_pure (marksA_pure l)
@[go_sem] theorem GMk.takeL {l : List GMk} : (flat GMk.c l).take (l.length * 6) = flat GMk.c l := takeAll (by rw [flat_len GMk.len]; omega)
@[go_sem] theorem GMk.keepL {nx d : Nat} {L : List (Nat × Nat)} {H : AH} {l : List GMk} : (flat GMk.c l).map (keepA nx L H d) = flat GMk.c l := map_keep (flat_pure GMk.pure l)
@[go_sem] theorem GMk.snapL {d : Nat} {H : AH} {l : List GMk} : (flat GMk.c l).map (snapA d H) = flat GMk.c l := map_snap d H (flat_pure GMk.pure l)
@[go_sem] theorem GMk.looseL {l : List GMk} : (flat GMk.c l).map looseA = flat GMk.c l := flat_loose (fun _ => by simp [GMk.c, go_sem]) l
@[go_sem] theorem marksA_loose {l : List GMk} : looseA (marksA l) = marksA l := by unfold marksA; rw [looseA_sl, GMk.looseL]
abbrev zMk : List AV := [.int .i64 0, .int .i64 0, .str ⟨#[]⟩, .int .i64 0, .int .i64 0, .int .i64 0]
@[go_sem] theorem fillGMk_len {l : List GMk} {i : Nat} (hi : i ≤ l.length) : (fillL GMk.c zMk l i).length = l.length * 6 := fillL_len GMk.len rfl hi
@[go_sem] theorem fillGMk_set {l : List GMk} {i : Nat} (h : i < l.length) : (fillL GMk.c zMk l i).take (i * 6) ++ [.int .i64 l[i].v.k, .int .i64 l[i].v.n, .str l[i].v.s, .int .i64 l[i].key, .int .i64 l[i].born, .int .i64 l[i].died] ++ (fillL GMk.c zMk l i).drop (i * 6 + 6) = fillL GMk.c zMk l (i + 1) := fillL_set GMk.len rfl h
def MkB (v : GMk) : Prop := VB v.v
def MkBL (v : GMk) : Prop := VBL v.v
/-! ### Entry -/
structure GEn where
  time : Int
  ws : List GWr
  deriving DecidableEq
def GEn.c (v : GEn) : List AV := [.int .i64 v.time, wrsA v.ws]
@[simp] theorem GEn.len (v : GEn) : (GEn.c v).length = 2 := rfl
@[simp] theorem GEn.pure (v : GEn) : pureL (GEn.c v) = true := by simp [GEn.c, pureL, pureA]
@[go_sem] theorem GEn.flen (l : List GEn) : (flat GEn.c l).length = l.length * 2 := flat_len GEn.len l
@[go_sem] theorem GEn.fat {l : List GEn} {i : Nat} (h : i < l.length) : (flat GEn.c l).drop (i * 2) = .int .i64 l[i].time :: wrsA l[i].ws :: flat GEn.c (l.drop (i + 1)) := flat_at GEn.len h
def entsA (l : List GEn) : AV := .sl l.length false (flat GEn.c l)
@[go_sem] theorem entsA_len {P : Program} {H : AH} {t : TypeId} {l : List GEn} : lenT P H t (entsA l) = if (tySl P t).isSome then some (True, .int .i64 l.length) else none := rfl
@[go_sem] theorem entsA_cells {H : AH} {l : List GEn} : cellsA H (entsA l) = some [entsA l] := rfl
@[simp] theorem entsA_pure (l : List GEn) : pureA (entsA l) = true := by simp [entsA, pureA, flat_pure GEn.pure]
@[go_sem] theorem entsA_snap {d : Nat} {H : AH} {l : List GEn} : snapA d H (entsA l) = entsA l := snapA_id d H _ (entsA_pure l)
@[go_sem] theorem entsA_keep {nx d : Nat} {L : List (Nat × Nat)} {H : AH} {l : List GEn} : keepA nx L H d (entsA l) = entsA l := keepA_pure (entsA_pure l)
@[go_sem] theorem GEn.takeL {l : List GEn} : (flat GEn.c l).take (l.length * 2) = flat GEn.c l := takeAll (by rw [flat_len GEn.len]; omega)
@[go_sem] theorem GEn.keepL {nx d : Nat} {L : List (Nat × Nat)} {H : AH} {l : List GEn} : (flat GEn.c l).map (keepA nx L H d) = flat GEn.c l := map_keep (flat_pure GEn.pure l)
@[go_sem] theorem GEn.snapL {d : Nat} {H : AH} {l : List GEn} : (flat GEn.c l).map (snapA d H) = flat GEn.c l := map_snap d H (flat_pure GEn.pure l)
@[go_sem] theorem GEn.looseL {l : List GEn} : (flat GEn.c l).map looseA = flat GEn.c l := flat_loose (fun _ => by simp [GEn.c, go_sem]) l
@[go_sem] theorem entsA_loose {l : List GEn} : looseA (entsA l) = entsA l := by unfold entsA; rw [looseA_sl, GEn.looseL]
abbrev zEn : List AV := [.int .i64 0, .sl 0 true []]
@[go_sem] theorem fillGEn_len {l : List GEn} {i : Nat} (hi : i ≤ l.length) : (fillL GEn.c zEn l i).length = l.length * 2 := fillL_len GEn.len rfl hi
@[go_sem] theorem fillGEn_set {l : List GEn} {i : Nat} (h : i < l.length) : (fillL GEn.c zEn l i).take (i * 2) ++ [.int .i64 l[i].time, wrsA l[i].ws] ++ (fillL GEn.c zEn l i).drop (i * 2 + 2) = fillL GEn.c zEn l (i + 1) := fillL_set GEn.len rfl h
def EnB (v : GEn) : Prop := (v.ws.length ≤ 1048576 ∧ ∀ x ∈ v.ws, WB x)
def EnBL (v : GEn) : Prop := (v.ws.length ≤ 9223372036854775807 ∧ ∀ x ∈ v.ws, WBL x)
/-! ### Ask -/
structure GAk where
  who : Int
  key : Int
  kind : Int
  deriving DecidableEq
def GAk.c (v : GAk) : List AV := [.int .i64 v.who, .int .i64 v.key, .int .i64 v.kind]
@[simp] theorem GAk.len (v : GAk) : (GAk.c v).length = 3 := rfl
@[simp] theorem GAk.pure (v : GAk) : pureL (GAk.c v) = true := by simp [GAk.c, pureL, pureA]
@[go_sem] theorem GAk.flen (l : List GAk) : (flat GAk.c l).length = l.length * 3 := flat_len GAk.len l
@[go_sem] theorem GAk.fat {l : List GAk} {i : Nat} (h : i < l.length) : (flat GAk.c l).drop (i * 3) = .int .i64 l[i].who :: .int .i64 l[i].key :: .int .i64 l[i].kind :: flat GAk.c (l.drop (i + 1)) := flat_at GAk.len h
def asksA (l : List GAk) : AV := .sl l.length false (flat GAk.c l)
@[go_sem] theorem asksA_len {P : Program} {H : AH} {t : TypeId} {l : List GAk} : lenT P H t (asksA l) = if (tySl P t).isSome then some (True, .int .i64 l.length) else none := rfl
@[go_sem] theorem asksA_cells {H : AH} {l : List GAk} : cellsA H (asksA l) = some [asksA l] := rfl
@[simp] theorem asksA_pure (l : List GAk) : pureA (asksA l) = true := by simp [asksA, pureA, flat_pure GAk.pure]
@[go_sem] theorem asksA_snap {d : Nat} {H : AH} {l : List GAk} : snapA d H (asksA l) = asksA l := snapA_id d H _ (asksA_pure l)
@[go_sem] theorem asksA_keep {nx d : Nat} {L : List (Nat × Nat)} {H : AH} {l : List GAk} : keepA nx L H d (asksA l) = asksA l := keepA_pure (asksA_pure l)
@[go_sem] theorem GAk.takeL {l : List GAk} : (flat GAk.c l).take (l.length * 3) = flat GAk.c l := takeAll (by rw [flat_len GAk.len]; omega)
@[go_sem] theorem GAk.keepL {nx d : Nat} {L : List (Nat × Nat)} {H : AH} {l : List GAk} : (flat GAk.c l).map (keepA nx L H d) = flat GAk.c l := map_keep (flat_pure GAk.pure l)
@[go_sem] theorem GAk.snapL {d : Nat} {H : AH} {l : List GAk} : (flat GAk.c l).map (snapA d H) = flat GAk.c l := map_snap d H (flat_pure GAk.pure l)
@[go_sem] theorem GAk.looseL {l : List GAk} : (flat GAk.c l).map looseA = flat GAk.c l := flat_loose (fun _ => by simp [GAk.c, go_sem]) l
@[go_sem] theorem asksA_loose {l : List GAk} : looseA (asksA l) = asksA l := by unfold asksA; rw [looseA_sl, GAk.looseL]
abbrev zAk : List AV := [.int .i64 0, .int .i64 0, .int .i64 0]
@[go_sem] theorem fillGAk_len {l : List GAk} {i : Nat} (hi : i ≤ l.length) : (fillL GAk.c zAk l i).length = l.length * 3 := fillL_len GAk.len rfl hi
@[go_sem] theorem fillGAk_set {l : List GAk} {i : Nat} (h : i < l.length) : (fillL GAk.c zAk l i).take (i * 3) ++ [.int .i64 l[i].who, .int .i64 l[i].key, .int .i64 l[i].kind] ++ (fillL GAk.c zAk l i).drop (i * 3 + 3) = fillL GAk.c zAk l (i + 1) := fillL_set GAk.len rfl h
def AkB (v : GAk) : Prop := True
def AkBL (v : GAk) : Prop := True
/-! ### Locks -/
structure GLk where
  held : List GAk
  queue : List GAk
  deriving DecidableEq
def GLk.c (v : GLk) : List AV := [asksA v.held, asksA v.queue]
@[simp] theorem GLk.len (v : GLk) : (GLk.c v).length = 2 := rfl
@[simp] theorem GLk.pure (v : GLk) : pureL (GLk.c v) = true := by simp [GLk.c, pureL, pureA]
@[go_sem] theorem GLk.flen (l : List GLk) : (flat GLk.c l).length = l.length * 2 := flat_len GLk.len l
@[go_sem] theorem GLk.fat {l : List GLk} {i : Nat} (h : i < l.length) : (flat GLk.c l).drop (i * 2) = asksA l[i].held :: asksA l[i].queue :: flat GLk.c (l.drop (i + 1)) := flat_at GLk.len h
def lksA (l : List GLk) : AV := .sl l.length false (flat GLk.c l)
@[go_sem] theorem lksA_len {P : Program} {H : AH} {t : TypeId} {l : List GLk} : lenT P H t (lksA l) = if (tySl P t).isSome then some (True, .int .i64 l.length) else none := rfl
@[go_sem] theorem lksA_cells {H : AH} {l : List GLk} : cellsA H (lksA l) = some [lksA l] := rfl
@[simp] theorem lksA_pure (l : List GLk) : pureA (lksA l) = true := by simp [lksA, pureA, flat_pure GLk.pure]
@[go_sem] theorem lksA_snap {d : Nat} {H : AH} {l : List GLk} : snapA d H (lksA l) = lksA l := snapA_id d H _ (lksA_pure l)
@[go_sem] theorem lksA_keep {nx d : Nat} {L : List (Nat × Nat)} {H : AH} {l : List GLk} : keepA nx L H d (lksA l) = lksA l := keepA_pure (lksA_pure l)
@[go_sem] theorem GLk.takeL {l : List GLk} : (flat GLk.c l).take (l.length * 2) = flat GLk.c l := takeAll (by rw [flat_len GLk.len]; omega)
@[go_sem] theorem GLk.keepL {nx d : Nat} {L : List (Nat × Nat)} {H : AH} {l : List GLk} : (flat GLk.c l).map (keepA nx L H d) = flat GLk.c l := map_keep (flat_pure GLk.pure l)
@[go_sem] theorem GLk.snapL {d : Nat} {H : AH} {l : List GLk} : (flat GLk.c l).map (snapA d H) = flat GLk.c l := map_snap d H (flat_pure GLk.pure l)
@[go_sem] theorem GLk.looseL {l : List GLk} : (flat GLk.c l).map looseA = flat GLk.c l := flat_loose (fun _ => by simp [GLk.c, go_sem]) l
@[go_sem] theorem lksA_loose {l : List GLk} : looseA (lksA l) = lksA l := by unfold lksA; rw [looseA_sl, GLk.looseL]
abbrev zLk : List AV := [.sl 0 true [], .sl 0 true []]
@[go_sem] theorem fillGLk_len {l : List GLk} {i : Nat} (hi : i ≤ l.length) : (fillL GLk.c zLk l i).length = l.length * 2 := fillL_len GLk.len rfl hi
@[go_sem] theorem fillGLk_set {l : List GLk} {i : Nat} (h : i < l.length) : (fillL GLk.c zLk l i).take (i * 2) ++ [asksA l[i].held, asksA l[i].queue] ++ (fillL GLk.c zLk l i).drop (i * 2 + 2) = fillL GLk.c zLk l (i + 1) := fillL_set GLk.len rfl h
def LkB (v : GLk) : Prop := (v.held.length ≤ 1048576) ∧ (v.queue.length ≤ 1048576)
def LkBL (v : GLk) : Prop := (v.held.length ≤ 9223372036854775807) ∧ (v.queue.length ≤ 9223372036854775807)
/-! ### Batch -/
structure GBt where
  cols : List GRow
  picked : List Bool
  deriving DecidableEq
def GBt.c (v : GBt) : List AV := [rowsA v.cols, boolsA v.picked]
@[simp] theorem GBt.len (v : GBt) : (GBt.c v).length = 2 := rfl
@[simp] theorem GBt.pure (v : GBt) : pureL (GBt.c v) = true := by simp [GBt.c, pureL, pureA]
@[go_sem] theorem GBt.flen (l : List GBt) : (flat GBt.c l).length = l.length * 2 := flat_len GBt.len l
@[go_sem] theorem GBt.fat {l : List GBt} {i : Nat} (h : i < l.length) : (flat GBt.c l).drop (i * 2) = rowsA l[i].cols :: boolsA l[i].picked :: flat GBt.c (l.drop (i + 1)) := flat_at GBt.len h
def btsA (l : List GBt) : AV := .sl l.length false (flat GBt.c l)
@[go_sem] theorem btsA_len {P : Program} {H : AH} {t : TypeId} {l : List GBt} : lenT P H t (btsA l) = if (tySl P t).isSome then some (True, .int .i64 l.length) else none := rfl
@[go_sem] theorem btsA_cells {H : AH} {l : List GBt} : cellsA H (btsA l) = some [btsA l] := rfl
@[simp] theorem btsA_pure (l : List GBt) : pureA (btsA l) = true := by simp [btsA, pureA, flat_pure GBt.pure]
@[go_sem] theorem btsA_snap {d : Nat} {H : AH} {l : List GBt} : snapA d H (btsA l) = btsA l := snapA_id d H _ (btsA_pure l)
@[go_sem] theorem btsA_keep {nx d : Nat} {L : List (Nat × Nat)} {H : AH} {l : List GBt} : keepA nx L H d (btsA l) = btsA l := keepA_pure (btsA_pure l)
@[go_sem] theorem GBt.takeL {l : List GBt} : (flat GBt.c l).take (l.length * 2) = flat GBt.c l := takeAll (by rw [flat_len GBt.len]; omega)
@[go_sem] theorem GBt.keepL {nx d : Nat} {L : List (Nat × Nat)} {H : AH} {l : List GBt} : (flat GBt.c l).map (keepA nx L H d) = flat GBt.c l := map_keep (flat_pure GBt.pure l)
@[go_sem] theorem GBt.snapL {d : Nat} {H : AH} {l : List GBt} : (flat GBt.c l).map (snapA d H) = flat GBt.c l := map_snap d H (flat_pure GBt.pure l)
@[go_sem] theorem GBt.looseL {l : List GBt} : (flat GBt.c l).map looseA = flat GBt.c l := flat_loose (fun _ => by simp [GBt.c, go_sem]) l
@[go_sem] theorem btsA_loose {l : List GBt} : looseA (btsA l) = btsA l := by unfold btsA; rw [looseA_sl, GBt.looseL]
abbrev zBt : List AV := [.sl 0 true [], .sl 0 true []]
@[go_sem] theorem fillGBt_len {l : List GBt} {i : Nat} (hi : i ≤ l.length) : (fillL GBt.c zBt l i).length = l.length * 2 := fillL_len GBt.len rfl hi
@[go_sem] theorem fillGBt_set {l : List GBt} {i : Nat} (h : i < l.length) : (fillL GBt.c zBt l i).take (i * 2) ++ [rowsA l[i].cols, boolsA l[i].picked] ++ (fillL GBt.c zBt l i).drop (i * 2 + 2) = fillL GBt.c zBt l (i + 1) := fillL_set GBt.len rfl h
def BtB (v : GBt) : Prop := (v.cols.length ≤ 1048576 ∧ ∀ r ∈ v.cols, r.length ≤ 1048576 ∧ ∀ x ∈ r, x.s.size ≤ 1048576) ∧ v.picked.length ≤ 1048576
def BtBL (v : GBt) : Prop := (v.cols.length ≤ 9223372036854775807 ∧ ∀ r ∈ v.cols, r.length ≤ 9223372036854775807 ∧ ∀ x ∈ r, x.s.size ≤ 9223372036854775807) ∧ v.picked.length ≤ 9223372036854775807
end Go.TH

/-
  TH, part 32: called on a picture of what is the caller's own; the answer is the caller's own, too.
-/
set_option linter.unusedVariables false
set_option linter.unusedSimpArgs false
namespace Go.TH
open Go
mutual
/-- Nothing inside that is only read. -/
def ownA : AV → Bool
  | .sl _ _ cs => cs.isEmpty
  | .ro _ => false
  | .agg cs => ownL cs
  | .tup cs => ownL cs
  | .fn _ cs => ownL cs
  | .bfn _ cs => ownL cs
  | .ptr _ _ _ => true
  | .msl _ _ _ _ _ => true
  | .int _ _ => true
  | .bool _ => true
  | .str _ => true
  | .nilp => true
  | .junk => true
  | .unk => true
def ownL : List AV → Bool
  | [] => true
  | a :: l => ownA a && ownL l
end
mutual
/-- Places are counted on from 'n'. -/
def shA (n : Nat) : AV → AV
  | .sl k t cs => .sl k t cs
  | .ro cs => .ro cs
  | .agg cs => .agg (shL n cs)
  | .tup cs => .tup (shL n cs)
  | .fn f cs => .fn f (shL n cs)
  | .bfn f cs => .bfn f (shL n cs)
  | .ptr id ver off => .ptr (n + id) ver off
  | .msl id ver sz off m => .msl (n + id) ver sz off m
  | .int k m => .int k m
  | .bool b => .bool b
  | .str s => .str s
  | .nilp => .nilp
  | .junk => .junk
  | .unk => .unk
def shL (n : Nat) : List AV → List AV
  | [] => []
  | a :: l => shA n a :: shL n l
end
def shB (n : Nat) : ABlk → ABlk
  | .live v cs => .live v (shL n cs)
  | .dead => .dead
theorem shL_map (n : Nat) : ∀ l, shL n l = l.map (shA n)
  | [] => rfl
  | a :: l => by simp [shL, shL_map n l]
theorem ownL_get : ∀ {l : List AV} {j : Nat} {a : AV}, ownL l = true → l[j]? = some a → ownA a = true
  | [], j, a, _, h => by simp at h
  | x :: l, 0, a, hp, h => by simp at h; subst h; unfold ownL at hp; simp at hp; exact hp.1
  | x :: l, j + 1, a, hp, h => by unfold ownL at hp; simp at hp h; exact ownL_get hp.2 h
theorem ownL_append (a b : List AV) : ownL (a ++ b) = (ownL a && ownL b) := by
  induction a with
  | nil => simp [ownL]
  | cons x a ih => simp [ownL, ih, Bool.and_assoc]
theorem Rep.shift {W : World} {M M' : Nat → Option Ent} {F F' : Nat → Prop} {n : Nat} (hM : ∀ i e, M i = some e → M' (n + i) = some e) {v : Value} {a : AV} (r : Rep W M F v a) : ownA a = true → Rep W M' F' v (shA n a) := by
  have pts : ∀ {vs : List Value} {cells : List AV}, ownL cells = true → (∀ (j : Nat) (v : Value) (a : AV), vs[j]? = some v → cells[j]? = some a → ownA a = true → Rep W M' F' v (shA n a)) →
      ∀ (j : Nat) (v : Value) (a : AV), vs[j]? = some v → (shL n cells)[j]? = some a → Rep W M' F' v a := by
    intro vs cells ho h j v a h1 h2
    rw [shL_map, List.getElem?_map] at h2
    cases hc : cells[j]? with
    | none => rw [hc] at h2; cases h2
    | some x => rw [hc] at h2; cases h2; exact h j v x h1 hc (ownL_get ho hc)
  have len : ∀ cells : List AV, (shL n cells).length = cells.length := fun cells => by rw [shL_map]; simp
  induction r with
  | int k n => exact fun _ => .int k n
  | bool b => exact fun _ => .bool b
  | str s => exact fun _ => .str s
  | sl ad n c t cells vs hn ht hF hs hl hc hr ih =>
    intro hp
    have : cells = [] := by simpa [ownA] using hp
    subst this
    exact .sl0 _ n c t hn ht
  | sl0 A n c t hn ht => exact fun _ => .sl0 A n c t hn ht
  | ro ad cells vs hF hs hl hc hr ih => intro hp; simp [ownA] at hp
  | ptr id ver off b hm => exact fun _ => .ptr _ ver off b (hM _ _ hm)
  | ptrOld v id ver off e hm hv => exact fun _ => .ptrOld v _ ver off e (hM _ _ hm) hv
  | msl id ver sz off n c b cs T fz hm hn hb hcap => exact fun _ => .msl _ ver sz off n c b cs T fz (hM _ _ hm) hn hb hcap
  | mslNil A id ver sz off b hm => exact fun _ => .mslNil A _ ver sz off b (hM _ _ hm)
  | mslOld v id ver sz off n e hm hv => exact fun _ => .mslOld v _ ver sz off n e (hM _ _ hm) hv
  | agg vs cells hl h1 hr ih => exact fun hp => .agg vs _ (by rw [len]; exact hl) h1 (pts (by simpa [ownA] using hp) ih)
  | tup vs as hl hr ih => exact fun hp => .tup vs _ (by rw [len]; exact hl) (pts (by simpa [ownA] using hp) ih)
  | fn f vs as hl hr ih => exact fun hp => .fn f vs _ (by rw [len]; exact hl) (pts (by simpa [ownA] using hp) ih)
  | bfn f vs as hl hr ih => exact fun hp => .bfn f vs _ (by rw [len]; exact hl) (pts (by simpa [ownA] using hp) ih)
  | nilp => exact fun _ => .nilp
  | junk v => exact fun _ => .junk v
  | unk b => exact fun _ => .unk b
/-- CALLED ON A PICTURE of what is the caller's own: what is made there is the caller's from then on. -/
theorem callC_new {P : Program} {f : FuncId} {args : List AV} {H : AH} {nx : Nat} {r : AV} {H1 : AH} {n1 : Nat} (d : Nat) (h : CallC P f (args.map (snapA d H)) noH 0 r H1 n1) (ho : ownA r = true)
    (hO : ∀ i ver cells, H1 i = .live ver cells → ownL cells = true) {H2 : AH} (g1 : ∀ i, i < nx → H2 i = H i) (g2 : ∀ i, i < n1 → H2 (nx + i) = shB nx (H1 i)) (g3 : ∀ i, nx + n1 ≤ i → H2 i = H i ∨ H2 i = .dead) :
    CallC P f args H nx (shA nx r) H2 (nx + n1) := by
  refine ⟨h.1, fun base κ vs hi hr => ?_⟩
  have live : ∀ b, liveB κ H b → b < κ.W.heap.size := by
    rintro b ⟨id, ver, cells, e, h1, h2, h3⟩
    obtain ⟨e', he', _, hh⟩ := hi.live id ver cells h1
    rw [h2] at he'
    cases he'
    exact hh.lt h3
  have hF0 : ∀ b, (κ.F b ∨ liveB κ H b) → b < κ.W.heap.size := fun b hb => hb.elim (hi.hF b) (live b)
  have hi0 : Inv κ.W.heap.size ⟨κ.W, fun _ => none, fun b => κ.F b ∨ liveB κ H b⟩ noH 0 := ⟨hF0, Nat.le_refl _, (fun _ _ => rfl), (fun id ver cells h => by cases h), (fun i j ei ej b _ h _ _ _ => by cases h), hi.tab.up hi.hbase⟩
  have hr0 : Reps ⟨κ.W, fun _ => none, fun b => κ.F b ∨ liveB κ H b⟩ vs (args.map (snapA d H)) := snap_reps hi (fun b hb => .inl hb) (fun b hb => .inr hb) d hr
  refine (h.2 _ _ vs hi0 hr0).mono ?_
  rintro e W' ⟨v, κ', rfl, rfl, hrep, hext, hinv⟩
  have hMs : ∀ i e, κ'.M i = some e → (fun i => if i < nx then κ.M i else κ'.M (i - nx)) (nx + i) = some e := by
    intro i e he
    have : ¬ nx + i < nx := by omega
    simp only [if_neg this, Nat.add_sub_cancel_left, he]
  have hlt : ∀ id e, κ.M id = some e → id < nx := fun id e he => Nat.lt_of_not_le fun h => by rw [hi.hM id h] at he; cases he
  have ev : Ev κ ⟨κ'.W, fun i => if i < nx then κ.M i else κ'.M (i - nx), κ.F⟩ :=
    ⟨fun b hb => ⟨hb, (hext.ev.fr b (.inl hb)).2⟩, fun id e he => ⟨e, by simp only [if_pos (hlt id e he), he], .inr rfl⟩, hext.ev.shp⟩
  refine ⟨v, ⟨κ'.W, fun i => if i < nx then κ.M i else κ'.M (i - nx), κ.F⟩, rfl, rfl, hrep.shift hMs ho, ?_, ?_⟩
  · exact ⟨ev, hext.os, hext.tape, hext.output, hext.size, fun b hb => hext.below b (Nat.lt_of_lt_of_le hb hi.hbase), fun b hb => .inl hb⟩
  · -- what lives behind it
    have old : ∀ {id ver cells}, id < nx → H2 id = .live ver cells → H id = .live ver cells := fun h1 h2 => by rw [← g1 _ h1]; exact h2
    have new : ∀ {id ver cells}, ¬ id < nx → H2 id = .live ver cells → ∃ cells0, H1 (id - nx) = .live ver cells0 ∧ cells = shL nx cells0 := by
      intro id ver cells h1 h2
      by_cases h3 : nx + n1 ≤ id
      · rcases g3 id h3 with h4 | h4
        · rw [h4] at h2
          obtain ⟨e, he, _⟩ := hi.live id ver cells h2
          rw [hi.hM id (by omega)] at he
          cases he
        · rw [h4] at h2; cases h2
      · have := g2 (id - nx) (by omega)
        rw [show nx + (id - nx) = id by omega, h2] at this
        cases hh : H1 (id - nx) with
        | dead => rw [hh] at this; cases this
        | live v0 c0 =>
          rw [hh] at this
          simp only [shB, ABlk.live.injEq] at this
          obtain ⟨rfl, rfl⟩ := this
          exact ⟨c0, rfl, rfl⟩
    refine ⟨fun b hb => Nat.lt_of_lt_of_le (hi.hF b hb) hext.size, Nat.le_trans hi.hbase hext.size, fun id hid => ?_, fun id ver cells hl => ?_, fun i j ei ej b hij h1 h2 h3 h4 => ?_, hi.tab.keep fun b hb => hext.below b (Nat.lt_of_lt_of_le hb hi.hbase)⟩
    · have : ¬ id < nx := by omega
      simp only [if_neg this]
      exact hinv.hM _ (by omega)
    · by_cases hid : id < nx
      · obtain ⟨e, he, hv, hh⟩ := hi.live id ver cells (old hid hl)
        exact ⟨e, by simp only [if_pos hid, he], hv, hh.ev ev (fun b hb _ hn hc => hn hc) (fun b hb => hext.below b (hh.lt hb))⟩
      · obtain ⟨c0, hc0, rfl⟩ := new hid hl
        obtain ⟨e, he, hv, hh⟩ := hinv.live _ _ _ hc0
        refine ⟨e, by simp only [if_neg hid, he], hv, ?_⟩
        unfold Held at *
        cases hb : e.blk with
        | none => rw [hb] at hh; simp only at hh ⊢; rw [hh]; rfl
        | some b =>
          rw [hb] at hh
          obtain ⟨q1, q2, us, rest, T, q3, q4, q5⟩ := hh
          refine ⟨Nat.le_trans hi.hbase q1, fun hc => ?_, us, rest, T, q3, q4, ?_⟩
          · have := hi.hF b hc
            omega
          · refine ⟨by rw [shL_map]; simp [q5.1], fun j u a e1 e2 => ?_⟩
            rw [shL_map, List.getElem?_map] at e2
            cases hc : c0[j]? with
            | none => rw [hc] at e2; cases e2
            | some x => rw [hc] at e2; cases e2; exact (q5.2 j u x e1 hc).shift hMs (ownL_get (hO _ _ _ hc0) hc)
    · -- no block twice
      simp only at h1 h2
      have mixed : ∀ {i j : Nat} {ei ej : Ent}, i < nx → ¬ j < nx → κ.M i = some ei → κ'.M (j - nx) = some ej → ei.blk = some b → ej.blk = some b → H2 i = .dead ∨ H2 j = .dead := by
        intro i j ei ej hi' hj' h1 h2 h3 h4
        cases hd : H2 i with
        | dead => exact .inl rfl
        | live v1 c1 =>
          cases hd2 : H2 j with
          | dead => exact .inr rfl
          | live v2 c2 =>
            exfalso
            obtain ⟨e, he, _, hh⟩ := hi.live _ _ _ (old hi' hd)
            rw [h1] at he
            cases he
            have l1 := hh.lt h3
            obtain ⟨c0, hc0, rfl⟩ := new hj' hd2
            obtain ⟨e, he, _, hh⟩ := hinv.live _ _ _ hc0
            rw [h2] at he
            cases he
            unfold Held at hh
            rw [h4] at hh
            have := hh.1
            omega
      by_cases hi1 : i < nx
      · rw [if_pos hi1] at h1
        by_cases hj1 : j < nx
        · rw [if_pos hj1] at h2
          rw [g1 i hi1, g1 j hj1]
          exact hi.inj i j ei ej b hij h1 h2 h3 h4
        · rw [if_neg hj1] at h2
          exact mixed hi1 hj1 h1 h2 h3 h4
      · rw [if_neg hi1] at h1
        by_cases hj1 : j < nx
        · rw [if_pos hj1] at h2
          exact (mixed hj1 hi1 h2 h1 h4 h3).symm
        · rw [if_neg hj1] at h2
          rcases hinv.inj (i - nx) (j - nx) ei ej b (by omega) h1 h2 h3 h4 with h | h
          · left
            cases hd : H2 i with
            | dead => rfl
            | live v1 c1 => obtain ⟨c0, hc0, _⟩ := new hi1 hd; rw [h] at hc0; cases hc0
          · right
            cases hd : H2 j with
            | dead => rfl
            | live v1 c1 => obtain ⟨c0, hc0, _⟩ := new hj1 hd; rw [h] at hc0; cases hc0
theorem ACallD.new {P : Program} {f : FuncId} {args : List AV} {H : AH} {nx : Nat} {Q0 Q : AV → AH → Nat → Prop} (d : Nat) (h : ACallD P f (args.map (snapA d H)) noH 0 Q0)
    (k : ∀ r H1 n1, Q0 r H1 n1 → ownA r = true ∧ (∀ i ver cells, H1 i = .live ver cells → ownL cells = true) ∧ ∃ H2 : AH, (∀ i, i < nx → H2 i = H i) ∧ (∀ i, i < n1 → H2 (nx + i) = shB nx (H1 i)) ∧ (∀ i, nx + n1 ≤ i → H2 i = H i ∨ H2 i = .dead) ∧ Q (shA nx r) H2 (nx + n1)) : ACallD P f args H nx Q := by
  obtain ⟨r, H1, n1, h1, h2⟩ := h
  obtain ⟨k1, k2, H2, k3, k4, k5, k6⟩ := k r H1 n1 h2
  exact ⟨_, _, _, callC_new d h1 k1 k2 k3 k4 k5, k6⟩
mutual
theorem shA_scal (n : Nat) : ∀ a, scalA a = true → shA n a = a
  | .sl k t cs, h => rfl
  | .ro cs, h => rfl
  | .agg cs, h => by simp only [shA, shL_scal n cs (by simpa [scalA] using h)]
  | .tup cs, h => by simp only [shA, shL_scal n cs (by simpa [scalA] using h)]
  | .fn f cs, h => by simp only [shA, shL_scal n cs (by simpa [scalA] using h)]
  | .bfn f cs, h => by simp only [shA, shL_scal n cs (by simpa [scalA] using h)]
  | .ptr id ver off, h => by simp [scalA] at h
  | .msl id ver sz off m, h => by simp [scalA] at h
  | .int k m, _ => rfl
  | .bool b, _ => rfl
  | .str s, _ => rfl
  | .nilp, _ => rfl
  | .junk, _ => rfl
  | .unk, _ => rfl
theorem shL_scal (n : Nat) : ∀ l, scalL l = true → shL n l = l
  | [], _ => rfl
  | a :: l, h => by
    simp only [scalL, Bool.and_eq_true] at h
    simp only [shL, shA_scal n a h.1, shL_scal n l h.2]
end
mutual
theorem ownA_scal : ∀ a, scalA a = true → ownA a = true
  | .sl k t cs, h => by simpa [scalA, ownA] using h
  | .ro cs, h => by simp [scalA] at h
  | .agg cs, h => by simp only [ownA, ownL_scal cs (by simpa [scalA] using h)]
  | .tup cs, h => by simp only [ownA, ownL_scal cs (by simpa [scalA] using h)]
  | .fn f cs, h => by simp only [ownA, ownL_scal cs (by simpa [scalA] using h)]
  | .bfn f cs, h => by simp only [ownA, ownL_scal cs (by simpa [scalA] using h)]
  | .ptr id ver off, _ => rfl
  | .msl id ver sz off m, _ => rfl
  | .int k m, _ => rfl
  | .bool b, _ => rfl
  | .str s, _ => rfl
  | .nilp, _ => rfl
  | .junk, _ => rfl
  | .unk, _ => rfl
theorem ownL_scal : ∀ l, scalL l = true → ownL l = true
  | [], _ => rfl
  | a :: l, h => by
    simp only [scalL, Bool.and_eq_true] at h
    simp only [ownL, ownA_scal a h.1, ownL_scal l h.2, Bool.and_self]
end
end Go.TH

/-
  TH, part 33: rows of parts of which it is forgotten whether there is room behind their slices; beginnings.
-/
set_option linter.unusedVariables false
set_option linter.unusedSimpArgs false
namespace Go.TH
open Go
theorem ACallD.loose {P : Program} {f : FuncId} {args : List AV} {H : AH} {nx : Nat} {Q : AV → AH → Nat → Prop} (h : ACallD P f args H nx fun r H' nx' => Q (looseA r) H' nx') : ACallD P f args H nx Q := by
  obtain ⟨r, H', nx', h1, h2⟩ := h
  exact ⟨_, _, _, h1.loose, h2⟩
def FlatL {α : Type} (c : α → List AV) (P : α → Prop) (cells : List AV) (n : Nat) : Prop := pureL cells = true ∧ Flat c P (cells.map looseA) n
section
variable {α : Type} {c : α → List AV} {P : α → Prop} {cells cells' : List AV} {n m : Nat}
theorem FlatL.nil : FlatL c P [] 0 := ⟨rfl, Flat.nil⟩
theorem FlatL.snoc (h : FlatL c P cells n) (a : α) {xs : List AV} (hx : xs.map looseA = c a) (hp : pureL xs = true) (ha : P a) : FlatL c P (cells ++ xs) (n + 1) :=
  ⟨by rw [pureL_append, h.1, hp]; rfl, by rw [List.map_append, hx]; exact h.2.snoc a ha⟩
theorem FlatL.len {sz : Nat} (hc : ∀ a, (c a).length = sz) (h : FlatL c P cells n) : cells.length = n * sz := by
  have := h.2.len hc
  rwa [List.length_map] at this
theorem FlatL.put {sz : Nat} (hc : ∀ a, (c a).length = sz) (h : FlatL c P cells n) {i : Nat} (hi : i < n) (a : α) {xs : List AV} (hx : xs.map looseA = c a) (hp : pureL xs = true) (ha : P a) : FlatL c P (cells.take (i * sz) ++ xs ++ cells.drop (i * sz + sz)) n := by
  refine ⟨?_, ?_⟩
  · have h1 := h.1
    rw [← List.take_append_drop (i * sz) cells, pureL_append, Bool.and_eq_true] at h1
    have h2 := h1.2
    rw [← List.take_append_drop sz (cells.drop (i * sz)), pureL_append, Bool.and_eq_true, List.drop_drop] at h2
    rw [pureL_append, pureL_append, h1.1, hp, h2.2]
    rfl
  · rw [List.map_append, List.map_append, hx, List.map_take, List.map_drop]
    exact h.2.put hc hi a ha
end
theorem FlatL.snocW {P : GWr → Prop} {cells : List AV} {n : Nat} (h : FlatL GWr.c P cells n) {k : Int} {r : GRow} {g : Bool} {x : AV} (hx : looseA x = rowA r) (hp : pureA x = true) (ha : P ⟨k, r, g⟩) : FlatL GWr.c P (cells ++ [.int .i64 k, x, .bool g]) (n + 1) :=
  h.snoc ⟨k, r, g⟩ (by simp [GWr.c, hx, looseA]) (by simp [pureL, pureA, hp]) ha
theorem flat_take {α : Type} {c : α → List AV} {sz : Nat} (hc : ∀ a, (c a).length = sz) (l : List α) (k : Nat) : (flat c l).take (k * sz) = flat c (l.take k) := by
  rcases Nat.lt_or_ge k l.length with h | h
  · have e : flat c l = flat c (l.take k) ++ flat c (l.drop k) := by rw [← flat_append, List.take_append_drop]
    have hl : (flat c (l.take k)).length = k * sz := by rw [flat_len hc]; congr 1; simp; omega
    rw [e, ← hl, List.take_left]
  · rw [List.take_of_length_le h, List.take_of_length_le]
    rw [flat_len hc]
    exact Nat.mul_le_mul_right _ h
theorem len_take {α : Type} {l : List α} {k : Nat} (h : k ≤ l.length) : (l.take k).length = k := by simp; omega
end Go.TH

/-
  TH, part 34: comparing, in plain Lean; what is known of values.
-/
set_option linter.unusedVariables false
set_option linter.unusedSimpArgs false
namespace Go.TH
open Go
def truthB (b : Prop) [Decidable b] : Int := if b then 1 else 0
def cmpT (kind c : Int) : Int := if (kind = 1 ∧ c = 0) ∨ (kind = 2 ∧ c ≠ 0) ∨ (kind = 3 ∧ c < 0) ∨ (kind = 4 ∧ c ≤ 0) then 1 else 0
def cmpV (kind : Int) (v w : GVal) : Int :=
  if ¬ (inR kind 1 4 ∧ v.Ok ∧ w.Ok) then -1 else if v.k = 0 ∨ w.k = 0 then 2 else if v.k ≠ w.k then -1 else cmpT kind (v.ord w)
def notT (a : Int) : Int := if a = 0 then 1 else if a = 1 then 0 else if a = 2 then 2 else -1
theorem bl_anti : ∀ x y : List UInt8, Op.bytesLess x y = true → Op.bytesLess y x = false ∧ x ≠ y
  | _, [], h => by simp [Op.bytesLess] at h
  | [], b :: y, _ => by simp [Op.bytesLess]
  | a :: x, b :: y, h => by
    simp only [Op.bytesLess, Bool.or_eq_true, decide_eq_true_eq, Bool.and_eq_true, beq_iff_eq] at h
    rcases h with h | ⟨rfl, h⟩
    · have h1 : a.toNat < b.toNat := h
      have h2 : ¬ b < a := fun h3 => by have h4 : b.toNat < a.toNat := h3; omega
      have h3 : a ≠ b := fun e => by subst e; omega
      refine ⟨?_, fun e => h3 (by injection e)⟩
      simp [Op.bytesLess, h2, Ne.symm h3]
    · have ih := bl_anti x y h
      have h2 : ¬ a < a := fun h3 => by have h4 : a.toNat < a.toNat := h3; omega
      refine ⟨by simp [Op.bytesLess, h2, ih.1], fun e => ih.2 (by injection e)⟩
theorem bl_total : ∀ x y : List UInt8, Op.bytesLess x y = false → x ≠ y → Op.bytesLess y x = true
  | [], [], _, h => absurd rfl h
  | a :: x, [], _, _ => by simp [Op.bytesLess]
  | [], b :: y, h, _ => by simp [Op.bytesLess] at h
  | a :: x, b :: y, h, hne => by
    simp only [Op.bytesLess, Bool.or_eq_false_iff, decide_eq_false_iff_not, Bool.and_eq_false_iff, beq_eq_false_iff_ne] at h
    obtain ⟨h1, h2⟩ := h
    simp only [Op.bytesLess, Bool.or_eq_true, decide_eq_true_eq, Bool.and_eq_true, beq_iff_eq]
    by_cases e : a = b
    · subst e
      right
      refine ⟨rfl, bl_total x y ?_ (fun h => hne (by rw [h]))⟩
      rcases h2 with h2 | h2
      · exact absurd rfl h2
      · exact h2
    · left
      have h3 : a.toNat ≠ b.toNat := fun h => e (UInt8.toNat_inj.1 h)
      have h4 : ¬ a.toNat < b.toNat := h1
      show b.toNat < a.toNat
      omega
theorem cmpS_neg (a b : ByteArray) : cmpS b a = - cmpS a b := by
  have key : ∀ a b : ByteArray, Op.bytesLess a.data.toList b.data.toList = true → cmpS b a = 1 ∧ cmpS a b = -1 := by
    intro a b h
    obtain ⟨h1, h2⟩ := bl_anti _ _ h
    have h3 : ¬ b = a := fun e => h2 (by rw [e])
    unfold cmpS
    simp [h, h1, h3]
  by_cases h : Op.bytesLess a.data.toList b.data.toList = true
  · obtain ⟨h1, h2⟩ := key a b h
    rw [h1, h2]; rfl
  · by_cases h' : Op.bytesLess b.data.toList a.data.toList = true
    · obtain ⟨h1, h2⟩ := key b a h'
      rw [h1, h2]
    · have e : a.data.toList = b.data.toList := Decidable.byContradiction fun hne => h' (bl_total _ _ (by simpa using h) hne)
      have e2 : a = b := by
        obtain ⟨⟨x⟩⟩ := a
        obtain ⟨⟨y⟩⟩ := b
        simp at e
        rw [e]
      subst e2
      unfold cmpS
      simp at h
      simp [h]
theorem cmpI_neg (a b : Int) : cmpI b a = - cmpI a b := by
  unfold cmpI
  repeat' split
  all_goals omega
theorem ord_neg (v w : GVal) : w.ord v = - v.ord w := by
  unfold GVal.ord
  simp only [orF]
  rw [cmpI_neg v.k w.k, cmpI_neg v.n w.n, cmpS_neg v.s w.s]
  repeat' split
  all_goals omega
theorem cmpV_range (k : Int) (v w : GVal) : cmpV k v w = -1 ∨ cmpV k v w = 0 ∨ cmpV k v w = 1 ∨ cmpV k v w = 2 := by
  unfold cmpV cmpT
  repeat' split
  all_goals omega
theorem cmpV_same (v w : GVal) : cmpV 1 v w = notT (cmpV 2 v w) := by
  unfold cmpV cmpT notT inR
  by_cases h : v.Ok ∧ w.Ok
  · repeat' split
    all_goals (simp_all <;> omega)
  · have h1 : ¬ ((1 : Int) ≤ 1 ∧ (1 : Int) ≤ 4 ∧ v.Ok ∧ w.Ok) := fun e => h e.2.2
    rw [if_pos (fun e => h e.2), if_pos (fun e => h e.2)]
    rfl
theorem cmpV_ok {kind : Int} {v w : GVal} (h : inR kind 1 4) (hv : v.Ok) (hw : w.Ok) : cmpV kind v w = (if v.k = 0 ∨ w.k = 0 then 2 else if v.k ≠ w.k then -1 else cmpT kind (v.ord w)) := if_neg (fun e => e ⟨h, hv, hw⟩)
theorem cmpV_bad {kind : Int} {v w : GVal} (h : ¬ (v.Ok ∧ w.Ok)) : cmpV kind v w = -1 := if_pos (fun e => h e.2)
theorem cmpV_less (v w : GVal) : cmpV 3 v w = notT (cmpV 4 w v) := by
  by_cases h : v.Ok ∧ w.Ok
  · rw [cmpV_ok ⟨by omega, by omega⟩ h.1 h.2, cmpV_ok ⟨by omega, by omega⟩ h.2 h.1, ord_neg v w]
    unfold cmpT notT
    repeat' split
    all_goals omega
  · rw [cmpV_bad h, cmpV_bad (fun e => h e.symm)]
    rfl
theorem bl_trans : ∀ x y z : List UInt8, Op.bytesLess x y = true → Op.bytesLess y z = true → Op.bytesLess x z = true
  | _, [], _, h, _ => by simp [Op.bytesLess] at h
  | _, _ :: _, [], _, h => by simp [Op.bytesLess] at h
  | [], b :: y, c :: z, _, _ => by simp [Op.bytesLess]
  | a :: x, b :: y, c :: z, h, k => by
    simp only [Op.bytesLess, Bool.or_eq_true, decide_eq_true_eq, Bool.and_eq_true, beq_iff_eq] at h k ⊢
    rcases h with h | ⟨rfl, h⟩
    · rcases k with k | ⟨rfl, k⟩
      · left
        have h1 : a.toNat < b.toNat := h
        have h2 : b.toNat < c.toNat := k
        show a.toNat < c.toNat
        omega
      · exact .inl h
    · rcases k with k | ⟨rfl, k⟩
      · exact .inl k
      · exact .inr ⟨rfl, bl_trans x y z h k⟩
theorem cmpS_zero {a b : ByteArray} : cmpS a b = 0 ↔ a = b := by
  constructor
  · intro h
    unfold cmpS at h
    split at h
    · omega
    · split at h
      · assumption
      · omega
  · rintro rfl
    unfold cmpS
    split
    · rename_i h; exact absurd rfl (bl_anti _ _ h).2
    · simp
theorem cmpS_lt {a b : ByteArray} : cmpS a b < 0 ↔ Op.bytesLess a.data.toList b.data.toList = true := by
  unfold cmpS
  split
  · rename_i h; simp [h]
  · rename_i h
    split <;> simp [h]
theorem ord_lt {v w : GVal} : v.ord w < 0 ↔ v.k < w.k ∨ (v.k = w.k ∧ (v.n < w.n ∨ (v.n = w.n ∧ Op.bytesLess v.s.data.toList w.s.data.toList = true))) := by
  have h0 : (if cmpS v.s w.s = 0 then (0 : Int) else cmpS v.s w.s) = cmpS v.s w.s := by
    split
    · rename_i h; rw [h]
    · rfl
  rw [← cmpS_lt]
  unfold GVal.ord
  simp only [orF]
  rw [h0]
  unfold cmpI
  (repeat' split) <;> omega
theorem ord_zero {v w : GVal} : v.ord w = 0 ↔ v = w := by
  constructor
  · intro h
    have e1 : v.k = w.k ∧ v.n = w.n ∧ cmpS v.s w.s = 0 := by
      have h0 : (if cmpS v.s w.s = 0 then (0 : Int) else cmpS v.s w.s) = cmpS v.s w.s := by
        split
        · rename_i h; rw [h]
        · rfl
      unfold GVal.ord at h
      simp only [orF] at h
      rw [h0] at h
      unfold cmpI at h
      (repeat' (split at h)) <;> exact ⟨by omega, by omega, by omega⟩
    obtain ⟨a, b, c⟩ := e1
    have c := cmpS_zero.1 c
    cases v
    cases w
    simp_all
  · rintro rfl
    unfold GVal.ord cmpI
    simp [orF, cmpS_zero.2 rfl]
theorem ord_refl (v : GVal) : v.ord v = 0 := ord_zero.2 rfl
theorem ord_lt_trans {u v w : GVal} (h1 : u.ord v < 0) (h2 : v.ord w < 0) : u.ord w < 0 := by
  rw [ord_lt] at *
  rcases h1 with h1 | ⟨e1, h1 | ⟨e2, h1⟩⟩ <;> rcases h2 with h2 | ⟨f1, h2 | ⟨f2, h2⟩⟩ <;>
    first | exact .inl (by omega) | exact .inr ⟨by omega, .inl (by omega)⟩ | exact .inr ⟨by omega, .inr ⟨by omega, bl_trans _ _ _ h1 h2⟩⟩
theorem ord_le_trans {u v w : GVal} (h1 : u.ord v ≤ 0) (h2 : v.ord w ≤ 0) : u.ord w ≤ 0 := by
  by_cases e1 : u.ord v = 0
  · rw [ord_zero.1 e1]; exact h2
  · by_cases e2 : v.ord w = 0
    · rw [← ord_zero.1 e2]; exact h1
    · exact Int.le_of_lt (ord_lt_trans (v := v) (by omega) (by omega))
def minV (x y : GVal) : GVal := if y.ord x < 0 then y else x
def maxV (x y : GVal) : GVal := if 0 < y.ord x then y else x
theorem minV_comm (x y : GVal) : minV x y = minV y x := by
  unfold minV
  have := ord_neg x y
  split
  · split
    · omega
    · rfl
  · split
    · rfl
    · exact ord_zero.1 (by omega)
theorem maxV_comm (x y : GVal) : maxV x y = maxV y x := by
  unfold maxV
  have := ord_neg x y
  split
  · split
    · omega
    · rfl
  · split
    · rfl
    · exact ord_zero.1 (by omega)
theorem minV_assoc (x y z : GVal) : minV (minV x y) z = minV x (minV y z) := by
  have n1 := ord_neg x y
  have n2 := ord_neg y z
  have n3 := ord_neg x z
  have t1 := @ord_lt_trans z y x
  have t2 := @ord_le_trans x y z
  unfold minV
  by_cases h1 : y.ord x < 0
  · by_cases h2 : z.ord y < 0
    · have h3 := t1 h2 h1
      simp only [if_pos h1, if_pos h2, if_pos h3]
    · simp only [if_pos h1, if_neg h2]
  · by_cases h2 : z.ord y < 0
    · simp only [if_neg h1, if_pos h2]
    · have h3 := t2 (by omega) (by omega)
      have h4 : ¬ z.ord x < 0 := by omega
      simp only [if_neg h1, if_neg h2, if_neg h4]
theorem maxV_assoc (x y z : GVal) : maxV (maxV x y) z = maxV x (maxV y z) := by
  have n1 := ord_neg x y
  have n2 := ord_neg y z
  have n3 := ord_neg x z
  have t1 := @ord_lt_trans x y z
  have t2 := @ord_le_trans z y x
  unfold maxV
  by_cases h1 : 0 < y.ord x
  · by_cases h2 : 0 < z.ord y
    · have h3 := t1 (by omega) (by omega)
      have h4 : 0 < z.ord x := by omega
      simp only [if_pos h1, if_pos h2, if_pos h4]
    · simp only [if_pos h1, if_neg h2]
  · by_cases h2 : 0 < z.ord y
    · simp only [if_neg h1, if_pos h2]
    · have h3 := t2 (by omega) (by omega)
      have h4 : ¬ 0 < z.ord x := by omega
      simp only [if_neg h1, if_neg h2, if_neg h4]
theorem minV_le (x y : GVal) : (minV x y).ord x ≤ 0 := by
  unfold minV
  split
  · omega
  · rw [ord_refl]; omega
theorem maxV_le (x y : GVal) : x.ord (maxV x y) ≤ 0 := by
  unfold maxV
  split
  · have := ord_neg x y; omega
  · rw [ord_refl]; omega
theorem minV_ok {P : GVal → Prop} {x y : GVal} (hx : P x) (hy : P y) : P (minV x y) := by unfold minV; split <;> assumption
theorem maxV_ok {P : GVal → Prop} {x y : GVal} (hx : P x) (hy : P y) : P (maxV x y) := by unfold maxV; split <;> assumption
/-! ### What is known of values -/
def v0 : GVal := ⟨0, 0, ⟨#[]⟩⟩
def kn0 : GKn := ⟨0, 0, v0, v0⟩
theorem v0_ok : v0.Ok := .inl ⟨rfl, rfl, rfl⟩
def knOk (k : GKn) : Prop :=
  if k.many = 0 then k = kn0 else inR k.many 1 100 ∧ inR k.sum (-9999 * k.many) (9999 * k.many) ∧ k.least.Ok ∧ k.most.Ok ∧ k.least.k = k.most.k ∧ k.least.k ≠ 0 ∧ k.least.ord k.most ≤ 0 ∧ (k.least.k = 1 ∨ k.sum = 0)
instance (k : GKn) : Decidable (knOk k) := by unfold knOk; infer_instance
def knOf (v : GVal) : GKn := if v.Ok ∧ v.k ≠ 0 then ⟨1, if v.k = 1 then v.n else 0, v, v⟩ else kn0
def knBoth (a b : GKn) : GKn :=
  if ¬ (knOk a ∧ knOk b) then kn0 else if a.many = 0 then b else if b.many = 0 then a else if a.least.k ≠ b.least.k ∨ 100 < a.many + b.many then kn0
  else ⟨a.many + b.many, a.sum + b.sum, minV a.least b.least, maxV a.most b.most⟩
theorem knOk_zero : knOk kn0 := by unfold knOk; rw [if_pos (show kn0.many = 0 from rfl)]
theorem knOk_nz {k : GKn} (h : knOk k) (hm : k.many ≠ 0) : inR k.many 1 100 ∧ inR k.sum (-9999 * k.many) (9999 * k.many) ∧ k.least.Ok ∧ k.most.Ok ∧ k.least.k = k.most.k ∧ k.least.k ≠ 0 ∧ k.least.ord k.most ≤ 0 ∧ (k.least.k = 1 ∨ k.sum = 0) := by
  unfold knOk at h
  rwa [if_neg hm] at h
theorem knOk_many {k : GKn} (h : knOk k) : 0 ≤ k.many ∧ k.many ≤ 100 := by
  by_cases hm : k.many = 0
  · omega
  · have := (knOk_nz h hm).1; unfold inR at this; omega
theorem knOk_sum {k : GKn} (h : knOk k) : -1000000 ≤ k.sum ∧ k.sum ≤ 1000000 := by
  by_cases hm : k.many = 0
  · unfold knOk at h
    rw [if_pos hm] at h
    subst h
    simp [kn0]
  · have := knOk_nz h hm; unfold inR at this; omega
theorem Ok_num {v : GVal} (h : v.Ok) : -9999 ≤ v.n ∧ v.n ≤ 9999 ∧ v.s.size ≤ 6 ∧ 0 ≤ v.k ∧ v.k ≤ 3 := by
  unfold GVal.Ok inR at h
  omega
theorem knOk_of (v : GVal) : knOk (knOf v) := by
  unfold knOf
  split
  · rename_i h
    have := Ok_num h.1
    unfold knOk
    rw [if_neg (by simp)]
    refine ⟨⟨by simp, by simp⟩, ?_, h.1, h.1, rfl, h.2, by simp only; rw [ord_refl]; omega, ?_⟩
    · unfold inR
      simp only
      split <;> omega
    · simp only
      by_cases e : v.k = 1
      · exact .inl e
      · rw [if_neg e]; exact .inr rfl
  · exact knOk_zero
theorem knBoth_eq {a b : GKn} (ha : knOk a) (hb : knOk b) (ma : a.many ≠ 0) (mb : b.many ≠ 0) (hk : a.least.k = b.least.k) (hm : a.many + b.many ≤ 100) :
    knBoth a b = ⟨a.many + b.many, a.sum + b.sum, minV a.least b.least, maxV a.most b.most⟩ := by
  unfold knBoth
  rw [if_neg (fun e => e ⟨ha, hb⟩), if_neg ma, if_neg mb, if_neg (by omega)]
theorem knBoth_ok (a b : GKn) : knOk (knBoth a b) := by
  unfold knBoth
  split
  · exact knOk_zero
  rename_i h
  have h : knOk a ∧ knOk b := Decidable.byContradiction h
  split
  · exact h.2
  split
  · exact h.1
  split
  · exact knOk_zero
  rename_i ma mb hc
  have ka := knOk_nz h.1 ma
  have kb := knOk_nz h.2 mb
  have hk : a.least.k = b.least.k := Decidable.byContradiction fun e => hc (.inl e)
  have hm : ¬ 100 < a.many + b.many := fun e => hc (.inr e)
  unfold inR at ka kb
  unfold knOk
  rw [if_neg (by simp only; omega)]
  simp only
  refine ⟨⟨by omega, by omega⟩, ⟨by omega, by omega⟩, minV_ok ka.2.2.1 kb.2.2.1, maxV_ok ka.2.2.2.1 kb.2.2.2.1, ?_, ?_, ?_, ?_⟩
  · have e1 : (minV a.least b.least).k = a.least.k := minV_ok (P := fun v => v.k = a.least.k) (x := a.least) (y := b.least) rfl hk.symm
    have e2 : (maxV a.most b.most).k = a.least.k := maxV_ok (P := fun v => v.k = a.least.k) (x := a.most) (y := b.most) ka.2.2.2.2.1.symm (kb.2.2.2.2.1.symm.trans hk.symm)
    omega
  · have e1 : (minV a.least b.least).k = a.least.k := minV_ok (P := fun v => v.k = a.least.k) (x := a.least) (y := b.least) rfl hk.symm
    omega
  · exact ord_le_trans (minV_le _ _) (ord_le_trans ka.2.2.2.2.2.2.1 (maxV_le _ _))
  · have e1 : (minV a.least b.least).k = a.least.k := minV_ok (P := fun v => v.k = a.least.k) (x := a.least) (y := b.least) rfl hk.symm
    omega
theorem knBoth_comm (a b : GKn) : knBoth a b = knBoth b a := by
  by_cases h : knOk a ∧ knOk b
  · have h1 : ¬ ¬ (knOk a ∧ knOk b) := fun e => e h
    have h2 : ¬ ¬ (knOk b ∧ knOk a) := fun e => e ⟨h.2, h.1⟩
    unfold knBoth
    rw [if_neg h1, if_neg h2]
    by_cases ma : a.many = 0
    · by_cases mb : b.many = 0
      · rw [if_pos ma, if_pos mb]
        have e1 := h.1
        have e2 := h.2
        unfold knOk at e1 e2
        rw [if_pos ma] at e1
        rw [if_pos mb] at e2
        rw [e1, e2]
      · simp only [if_pos ma, if_neg mb]
    · by_cases mb : b.many = 0
      · simp only [if_neg ma, if_pos mb]
      · simp only [if_neg ma, if_neg mb]
        by_cases hc : a.least.k ≠ b.least.k ∨ 100 < a.many + b.many
        · rw [if_pos hc, if_pos (by omega)]
        · rw [if_neg hc, if_neg (by omega), minV_comm, maxV_comm, Int.add_comm a.many, Int.add_comm a.sum]
  · unfold knBoth
    rw [if_pos h, if_pos (fun e => h ⟨e.2, e.1⟩)]
theorem knBoth_zero {k : GKn} (h : knOk k) : knBoth k kn0 = k := by
  unfold knBoth
  rw [if_neg (fun e => e ⟨h, knOk_zero⟩)]
  by_cases hm : k.many = 0
  · rw [if_pos hm]
    unfold knOk at h
    rw [if_pos hm] at h
    exact h.symm
  · rw [if_neg hm, if_pos (show kn0.many = 0 from rfl)]
theorem knBoth_many {a b : GKn} (hk : (knBoth a b).many ≠ 0) (ma : a.many ≠ 0) (mb : b.many ≠ 0) : knOk a ∧ knOk b ∧ a.least.k = b.least.k ∧ a.many + b.many ≤ 100 := by
  unfold knBoth at hk
  by_cases h : knOk a ∧ knOk b
  · rw [if_neg (fun e => e h), if_neg ma, if_neg mb] at hk
    by_cases hc : a.least.k ≠ b.least.k ∨ 100 < a.many + b.many
    · rw [if_pos hc] at hk; exact absurd rfl hk
    · exact ⟨h.1, h.2, Decidable.byContradiction fun e => hc (.inl e), by omega⟩
  · rw [if_pos h] at hk; exact absurd rfl hk
theorem knBoth_assoc {a b : GKn} (hk : (knBoth a b).many ≠ 0) (ma : a.many ≠ 0) (mb : b.many ≠ 0) (h50 : (knBoth a b).many ≤ 50) :
    knBoth (knBoth a b) (knOf a.most) = knBoth a (knBoth b (knOf a.most)) ∧ (knBoth a b).many = a.many + b.many := by
  obtain ⟨ha, hb, hkk, hm⟩ := knBoth_many hk ma mb
  have e1 := knBoth_eq ha hb ma mb hkk hm
  have ka := knOk_nz ha ma
  have kb := knOk_nz hb mb
  have oks := knBoth_ok a b
  unfold inR at ka kb
  have ec : knOf a.most = ⟨1, if a.most.k = 1 then a.most.n else 0, a.most, a.most⟩ := by
    unfold knOf
    rw [if_pos ⟨ka.2.2.2.1, by omega⟩]
  have okc := knOk_of a.most
  have okbc := knBoth_ok b (knOf a.most)
  rw [ec] at okc okbc ⊢
  rw [e1] at h50 oks ⊢
  simp only at h50
  have e2 := knBoth_eq hb okc mb (by simp) (by simp only; omega) (by simp only; omega)
  rw [e2] at okbc ⊢
  have k1 : (minV a.least b.least).k = a.least.k := minV_ok (P := fun v => v.k = a.least.k) (x := a.least) (y := b.least) rfl hkk.symm
  have k2 : (minV b.least a.most).k = a.least.k := minV_ok (P := fun v => v.k = a.least.k) (x := b.least) (y := a.most) hkk.symm (by omega)
  refine ⟨?_, rfl⟩
  rw [knBoth_eq oks okc (by simp only; omega) (by simp) (by simp only; omega) (by simp only; omega),
    knBoth_eq ha okbc ma (by simp only; omega) (by simp only; omega) (by simp only; omega)]
  simp only [GKn.mk.injEq]
  refine ⟨by omega, by omega, minV_assoc _ _ _, maxV_assoc _ _ _⟩
def numV (n : Int) : GVal := if inR n (-9999) 9999 then ⟨1, n, ⟨#[]⟩⟩ else v0
def knTell (k : GKn) (tell : Int) : GVal :=
  if ¬ knOk k then v0 else if tell = 1 then numV k.many else if tell = 2 then (if k.least.k = 1 then numV k.sum else v0) else if tell = 3 then k.least else if tell = 4 then k.most else v0
theorem numV_ok (n : Int) : (numV n).Ok := by
  unfold numV
  split
  · exact .inr (.inl ⟨rfl, by assumption, rfl⟩)
  · exact v0_ok
theorem knOk_ends {k : GKn} (h : knOk k) : k.least.Ok ∧ k.most.Ok ∧ k.least.ord k.most ≤ 0 := by
  by_cases hm : k.many = 0
  · unfold knOk at h
    rw [if_pos hm] at h
    subst h
    exact ⟨v0_ok, v0_ok, by simp only [kn0]; rw [ord_refl]; omega⟩
  · have := knOk_nz h hm
    exact ⟨this.2.2.1, this.2.2.2.1, this.2.2.2.2.2.2.1⟩
theorem knTell_ok (k : GKn) (t : Int) : (knTell k t).Ok := by
  unfold knTell
  split
  · exact v0_ok
  · rename_i h
    have h := knOk_ends (Decidable.byContradiction h)
    repeat' split
    all_goals first | exact numV_ok _ | exact v0_ok | exact h.1 | exact h.2.1
end Go.TH

/-
  TH, part 35: in a list; parts of numbers, in plain Lean.
-/
set_option linter.unusedVariables false
set_option linter.unusedSimpArgs false
namespace Go.TH
open Go
theorem GVal.eq3' {v w : GVal} (h1 : v.k = w.k) (h2 : v.n = w.n) (h3 : v.s = w.s) : v = w := by
  cases v; cases w; simp_all
theorem v0_of {w : GVal} (h : w.Ok) (hk : w.k = 0) : w = v0 := by
  unfold GVal.Ok at h
  obtain ⟨k, n, s⟩ := w
  simp only at hk
  subst hk
  simp at h
  obtain ⟨rfl, hs⟩ := h
  subst hs
  rfl
def badV (v w : GVal) : Bool := !decide w.Ok || (!decide (w.k = v.k) && !decide (w.k = 0))
def inT (v : GVal) (l : GRow) : Int :=
  if ¬ v.Ok ∨ 30 < l.length ∨ l.any (badV v) = true then 2 else if l.length = 0 then 0 else if v.k = 0 then 2 else if v ∈ l then 1 else if v0 ∈ l then 2 else 0
def orT (a b : Int) : Int := if ¬ (inR a 0 2 ∧ inR b 0 2) then -1 else if a = 1 ∨ b = 1 then 1 else if a = 2 ∨ b = 2 then 2 else 0
def outS (v : GVal) (l : GRow) : Int := if v.k = 0 then (if l.length = 0 then 0 else 2) else if v ∈ l then 1 else if v0 ∈ l then 2 else 0
def bad2 (v w : GVal) : Prop := ¬ w.Ok ∨ (v.k ≠ 0 ∧ w.k ≠ 0 ∧ v.k ≠ w.k)
theorem cmp1_eq {v w : GVal} (hv : v.Ok) (hw : w.Ok) (hb : ¬ bad2 v w) : cmpV 1 v w = if v.k = 0 ∨ w.k = 0 then 2 else if v = w then 1 else 0 := by
  rw [cmpV_ok ⟨by omega, by omega⟩ hv hw]
  by_cases h : v.k = 0 ∨ w.k = 0
  · rw [if_pos h, if_pos h]
  · rw [if_neg h, if_neg h]
    have h1 : v.k = w.k := Decidable.byContradiction fun e => hb (.inr ⟨fun a => h (.inl a), fun a => h (.inr a), e⟩)
    rw [if_neg (fun e => e h1)]
    unfold cmpT
    by_cases e : v = w
    · rw [if_pos e, if_pos (.inl ⟨rfl, ord_zero.2 e⟩)]
    · have := mt ord_zero.1 e
      rw [if_neg e, if_neg (by omega)]
theorem outS_snoc {v w : GVal} {l : GRow} (hv : v.Ok) (hw : w.Ok) (hb : ¬ bad2 v w) : orT (outS v l) (cmpV 1 v w) = outS v (l ++ [w]) := by
  rw [cmp1_eq hv hw hb]
  have hr : inR (outS v l) 0 2 := by unfold outS inR; repeat' split <;> omega
  have hr2 : inR (if v.k = 0 ∨ w.k = 0 then 2 else if v = w then 1 else 0 : Int) 0 2 := by unfold inR; repeat' split <;> omega
  unfold orT
  rw [if_neg (fun e => e ⟨hr, hr2⟩)]
  unfold outS
  by_cases h0 : v.k = 0
  · simp only [h0, if_true, true_or, List.length_append, List.length_singleton]
    rw [if_neg (show ¬ l.length + 1 = 0 by omega)]
    split <;> simp
  · simp only [h0, if_false, false_or, List.mem_append, List.mem_singleton]
    by_cases h1 : w.k = 0
    · have e := v0_of hw h1
      subst e
      have hne : ¬ v = v0 := fun e => h0 (by rw [e]; rfl)
      simp only [h1, if_true, hne, or_false, or_true]
      by_cases hm : v ∈ l
      · simp [hm]
      · simp only [hm, if_false]
        split <;> simp
    · have hne : ¬ v0 = w := fun e => h1 (by rw [← e]; rfl)
      simp only [h1, if_false, hne, or_false]
      by_cases hm : v ∈ l
      · simp [hm]
      · by_cases hw2 : v = w
        · simp [hm, hw2]
        · simp only [hm, hw2, if_false, or_self]
          split <;> simp
theorem inT_outS {v : GVal} {l : GRow} (hv : v.Ok) (hl : l.length ≤ 30) (hb : ∀ w ∈ l, ¬ bad2 v w) : outS v l = inT v l := by
  unfold inT
  by_cases hany : l.any (badV v) = true
  · rw [if_pos (.inr (.inr hany))]
    obtain ⟨w, hw, hbw⟩ := List.any_eq_true.1 hany
    have := hb w hw
    unfold badV at hbw
    unfold bad2 at this
    have h0 : v.k = 0 := by
      simp at hbw
      by_cases e : v.k = 0
      · exact e
      · exact absurd (by rcases hbw with h | h; exact .inl h; exact .inr ⟨e, h.2, fun x => h.1 x.symm⟩) this
    unfold outS
    rw [if_pos h0, if_neg (fun e => by rw [List.eq_nil_of_length_eq_zero e] at hw; simp at hw)]
  · rw [if_neg (by rintro (h | h | h); exact h hv; omega; exact hany h)]
    unfold outS
    by_cases h0 : l.length = 0
    · rw [if_pos h0]
      have := List.eq_nil_of_length_eq_zero h0
      subst this
      simp
    · rw [if_neg h0, if_neg h0]
theorem inT_bad {v : GVal} {l : GRow} (h : ∃ w ∈ l, bad2 v w) : inT v l = 2 := by
  unfold inT
  obtain ⟨w, hw, hb⟩ := h
  have : l.any (badV v) = true := List.any_eq_true.2 ⟨w, hw, by
    unfold badV
    rcases hb with h | ⟨h1, h2, h3⟩
    · simp [h]
    · simp [h2, Ne.symm h3]⟩
  rw [if_pos (.inr (.inr this))]
theorem badV_v0 (v : GVal) : badV v v0 = false := by
  unfold badV
  rw [decide_eq_true v0_ok]
  simp [v0]
theorem inT_ok {v : GVal} {l : GRow} (hl : l.length ≤ 30) : inT v l = if ¬ v.Ok ∨ l.any (badV v) = true then 2 else if l.length = 0 then 0 else if v.k = 0 then 2 else if v ∈ l then 1 else if v0 ∈ l then 2 else 0 := by
  unfold inT
  have hc : (¬ v.Ok ∨ 30 < l.length ∨ l.any (badV v) = true) ↔ (¬ v.Ok ∨ l.any (badV v) = true) := by
    constructor
    · rintro (h | h | h)
      · exact .inl h
      · omega
      · exact .inr h
    · rintro (h | h)
      · exact .inl h
      · exact .inr (.inr h)
  simp only [hc]
theorem inT_more {v : GVal} {l : GRow} (hl : l.length < 30) : ((inT v l = 1) ↔ (inT v (l ++ [v0]) = 1)) ∧ inT v (l ++ [v0]) ≠ 0 := by
  have e2 : (l ++ [v0]).length = l.length + 1 := by simp
  rw [inT_ok (by omega), inT_ok (by omega)]
  have e1 : (l ++ [v0]).any (badV v) = l.any (badV v) := by simp [badV_v0]
  rw [e1, e2]
  by_cases h : ¬ v.Ok ∨ l.any (badV v) = true
  · rw [if_pos h, if_pos h]
    exact ⟨Iff.rfl, by decide⟩
  · rw [if_neg h, if_neg h, if_neg (show ¬ l.length + 1 = 0 by omega)]
    by_cases h0 : v.k = 0
    · simp only [if_pos h0]
      split <;> simp
    · have hne : ¬ v = v0 := fun e => h0 (by rw [e]; rfl)
      simp only [if_neg h0, List.mem_append, List.mem_singleton, hne, or_false, or_true, if_true]
      by_cases hm : v ∈ l
      · have : ¬ l.length = 0 := fun e => by rw [List.eq_nil_of_length_eq_zero e] at hm; simp at hm
        simp [hm, this]
      · simp only [if_neg hm]
        repeat' split
        all_goals simp
theorem inT_twice {v w : GVal} {l : GRow} (hl : l.length < 30) (hw : w ∈ l) : inT v (l ++ [w]) = inT v l := by
  have e2 : (l ++ [w]).length = l.length + 1 := by simp
  rw [inT_ok (by omega), inT_ok (by omega)]
  have e1 : (l ++ [w]).any (badV v) = l.any (badV v) := by
    rw [Bool.eq_iff_iff]
    simp only [List.any_append, List.any_cons, List.any_nil, Bool.or_false, Bool.or_eq_true]
    exact ⟨fun h => h.elim id fun h => List.any_eq_true.2 ⟨w, hw, h⟩, .inl⟩
  have hne : ¬ l.length = 0 := fun e => by rw [List.eq_nil_of_length_eq_zero e] at hw; simp at hw
  have m1 : v ∈ l ++ [w] ↔ v ∈ l := by simp; rintro rfl; exact hw
  have m2 : v0 ∈ l ++ [w] ↔ v0 ∈ l := by simp; rintro rfl; exact hw
  rw [e1, e2]
  simp only [m1, m2, if_neg hne, if_neg (show ¬ l.length + 1 = 0 by omega)]
theorem inT_nil {v : GVal} (h : v.Ok) : inT v [] = 0 := by
  unfold inT
  simp [h]
/-! ### Parts of numbers -/
def cutsOk (l : List Int) : Prop := (∀ j (h : j < l.length), inR l[j] (-9999) 9999) ∧ (∀ j (h : j + 1 < l.length), l[j] < l[j + 1]) ∧ l.length ≤ 4
noncomputable instance (l : List Int) : Decidable (cutsOk l) := Classical.propDecidable _
def rises (l : List Int) (a b : Int) : Prop := (∀ j (h : j < l.length), inR l[j] a b) ∧ (∀ j (h : j + 1 < l.length), l[j] < l[j + 1])
noncomputable instance (l : List Int) (a b : Int) : Decidable (rises l a b) := Classical.propDecidable _
theorem cutsOk_iff (l : List Int) : cutsOk l ↔ l.length ≤ 4 ∧ rises l (-9999) 9999 := ⟨fun h => ⟨h.2.2, h.1, h.2.1⟩, fun h => ⟨h.2.1, h.2.2, h.1⟩⟩
/-- How many are not greater. -/
def cntLe (l : List Int) (n : Int) : Nat := (l.filter fun c => !decide (n < c)).length
theorem cntLe_le (l : List Int) (n : Int) : cntLe l n ≤ l.length := List.length_filter_le _ _
theorem rises_lt {l : List Int} (h : ∀ j (h : j + 1 < l.length), l[j] < l[j + 1]) : ∀ (i j : Nat) (hi : i < j) (hj : j < l.length), l[i] < l[j] := by
  intro i j hi hj
  induction j with
  | zero => omega
  | succ j ih =>
    by_cases e : i = j
    · subst e; exact h i hj
    · have := ih (by omega) (by omega)
      have := h j hj
      omega
/-- In what rises, those that are not greater stand first. -/
theorem cntLe_at {l : List Int} (h : ∀ j (h : j + 1 < l.length), l[j] < l[j + 1]) {n : Int} {k : Nat} (hk : k ≤ l.length) (h1 : ∀ j (hj : j < l.length), j < k → l[j] ≤ n) (h2 : ∀ hk : k < l.length, n < l[k]) : cntLe l n = k := by
  have e : l = l.take k ++ l.drop k := (List.take_append_drop k l).symm
  unfold cntLe
  rw [e, List.filter_append]
  have f1 : (l.take k).filter (fun c => !decide (n < c)) = l.take k := by
    rw [List.filter_eq_self]
    intro a ha
    obtain ⟨j, hj, rfl⟩ := List.getElem_of_mem ha
    have hj' : j < k := by simp at hj; omega
    have := h1 j (by omega) hj'
    rw [List.getElem_take]
    simp
    omega
  have f2 : (l.drop k).filter (fun c => !decide (n < c)) = [] := by
    rw [List.filter_eq_nil_iff]
    intro a ha
    obtain ⟨j, hj, rfl⟩ := List.getElem_of_mem ha
    have hj' : j < l.length - k := by simpa using hj
    rw [List.getElem_drop]
    have h3 := h2 (by omega)
    by_cases e : j = 0
    · subst e; simp; omega
    · have := rises_lt h k (k + j) (by omega) (by omega)
      simp
      omega
  rw [f1, f2]
  simp
  omega
theorem cntLe_mono (l : List Int) {a b : Int} (h : a ≤ b) : cntLe l a ≤ cntLe l b := by
  unfold cntLe
  rw [← List.countP_eq_length_filter, ← List.countP_eq_length_filter]
  refine List.countP_mono_left fun c _ hc => ?_
  simp at hc ⊢
  omega
end Go.TH

/-
  TH, part 36: walks that part where the answer is not known.
-/
set_option linter.unusedVariables false
set_option linter.unusedSimpArgs false
namespace Go.TH
open Go
section
variable {P : Program}
inductive NW (P : Program) : Code → (AEx → ASt → Prop) → ASt → Prop
  | of {c : Code} {Q : AEx → ASt → Prop} {s : ASt} (h : AW P c Q s) : NW P c Q s
  | seq {a b : Code} {Q : AEx → ASt → Prop} {s : ASt} (R : ASt → Prop) (h : NW P a (thenQ R Q) s) (h2 : ∀ s', R s' → NW P b Q s') : NW P (.seq a b) Q s
  | fork {c : Operand} {a b : Code} {Q : AEx → ASt → Prop} {s : ASt} (hc : evA s.tmps c = .unk) (h1 : NW P a Q s) (h2 : NW P b Q s) : NW P (.cond c a b) Q s
  | yes0 {c : Operand} {a b : Code} {Q : AEx → ASt → Prop} {s : ASt} (hc : evA s.tmps c = .bool true) (h1 : NW P a Q s) : NW P (.cond c a b) Q s
  | no0 {c : Operand} {a b : Code} {Q : AEx → ASt → Prop} {s : ASt} (hc : evA s.tmps c = .bool false) (h1 : NW P b Q s) : NW P (.cond c a b) Q s
  | weak {c : Code} {Q : AEx → ASt → Prop} {s s0 : ASt} (hw : Weak s s0) (h : NW P c Q s0) : NW P c Q s
theorem NW.sound (hm : P.follows .mixedOrders = true) {c : Code} {Q : AEx → ASt → Prop} {s : ASt} (h : NW P c Q s) : ∀ {base : Nat} {κ : Cx} {a : Act}, St base κ a s →
    ∀ {QQ : Exit → Act → World → Prop}, (∀ e s' κ' a', Q e s' → St base κ' a' s' → Ext base κ κ' → QQ (AEx.ex e) a' κ'.W) → c.wp P QQ a κ.W := by
  induction h with
  | of h => exact h.sound hm
  | seq R h h2 ih1 ih =>
    intro base κ a hs QQ hQ
    refine wp_seq (ih1 hs (fun e s' κ' a' hq hs' hext => ?_))
    cases e with
    | normal => exact ih s' hq hs' (fun e2 s2 κ2 a2 hq2 hs2 hext2 => hQ e2 s2 κ2 a2 hq2 hs2 (hext.trans hext2))
    | exit id => exact hQ (.exit id) s' κ' a' hq hs' hext
    | ret => exact hQ .ret s' κ' a' hq hs' hext
  | @fork c0 _ _ _ _ hc h1 h2 ih1 ih2 =>
    intro base κ a hs QQ hQ
    have hv := evA_rep hs c0
    rw [hc] at hv
    obtain ⟨b, hb⟩ : ∃ b, a.eval c0 = .bool b := by
      generalize a.eval c0 = v at hv
      cases hv
      exact ⟨_, rfl⟩
    cases b with
    | true => exact wp_cond_true hb (ih1 hs hQ)
    | false => exact wp_cond_false hb (ih2 hs hQ)
  | @yes0 c0 _ _ _ _ hc h1 ih1 =>
    intro base κ a hs QQ hQ
    have hv := evA_rep hs c0
    rw [hc] at hv
    exact wp_cond_true hv.bool_inv (ih1 hs hQ)
  | @no0 c0 _ _ _ _ hc h1 ih1 =>
    intro base κ a hs QQ hQ
    have hv := evA_rep hs c0
    rw [hc] at hv
    exact wp_cond_false hv.bool_inv (ih1 hs hQ)
  | weak hw h ih =>
    intro base κ a hs QQ hQ
    obtain ⟨κ1, h1, h2, h3⟩ := hw base κ a hs
    rw [← h1]
    exact ih h2 fun e s' κ' a' hq hs' hext => hQ e s' κ' a' hq hs' (h3.trans hext)
theorem ncall_body (hm : P.follows .mixedOrders = true) {f : FuncId} {fn : Func} (hf : P.funcs[f]? = some fn) (c : Code) (hb : fn.body = some c) {n : Nat} (hn : fn.ntmps = n) {rs : List ResultVar} (hrs : fn.results = rs.toArray)
    (hname : (fn.name == "runtime.NumGoroutine") = false) {args : List AV} {H : AH} {nx : Nat} {r : AV} {H' : AH} {nx' : Nat} (hl : args.length ≤ n)
    (h : NW P c (bodyQ P rs fun r1 H1 nx1 => r1 = r ∧ H1 = H' ∧ nx1 = nx') ⟨initT n args, H, nx⟩) : CallC P f args H nx r H' nx' := by
  rw [← initT_eq n args hl] at h
  obtain ⟨h1, h2⟩ := callQ_of_walk hf hb hn hrs hname (fun {base κ a} hs {QQ} hQ => h.sound hm hs hQ)
  refine ⟨h1, fun base κ vs hi hr => (h2 base κ vs hi hr).mono ?_⟩
  rintro e W' ⟨r1, H1, nx1, ⟨rfl, rfl, rfl⟩, h3⟩
  exact h3
theorem NW.step {a b : Code} {Q : AEx → ASt → Prop} {s : ASt} (h : awp P a (thenQ (NW P b Q) Q) s) : NW P (.seq a b) Q s := .seq _ (.of (.of h)) fun _ h => h
theorem NW.ofw {c : Code} {Q : AEx → ASt → Prop} {s : ASt} (h : awp P c Q s) : NW P c Q s := .of (.of h)
theorem NW.then {a b : Code} {Q : AEx → ASt → Prop} {s : ASt} (h : NW P a (thenQ (NW P b Q) Q) s) : NW P (.seq a b) Q s := .seq _ h fun _ h => h
theorem NW.yes {c : Operand} {a b : Code} {Q : AEx → ASt → Prop} {s : ASt} (hc : evA s.tmps c = .bool true) (h1 : NW P a Q s) : NW P (.cond c a b) Q s := .yes0 hc h1
theorem NW.no {c : Operand} {a b : Code} {Q : AEx → ASt → Prop} {s : ASt} (hc : evA s.tmps c = .bool false) (h1 : NW P b Q s) : NW P (.cond c a b) Q s := .no0 hc h1
@[congr] theorem NW_congr {c : Code} {Q : AEx → ASt → Prop} {s s' : ASt} (h : s = s') : NW P c Q s = NW P c Q s' := by rw [h]
end
end Go.TH

/-
  TH, part 37: parts that are struck out of a row, one after the other.
-/
set_option linter.unusedVariables false
set_option linter.unusedSimpArgs false
namespace Go.TH
open Go
def keptL {α : Type} (p : α → Bool) (l : List α) : List α := l.filter fun a => !p a
section
variable {α : Type} {c : α → List AV} {sz : Nat} {p : α → Bool} {l : List α}
theorem keptL_snoc (a : α) : keptL p (l ++ [a]) = if p a = true then keptL p l else keptL p l ++ [a] := by
  unfold keptL
  rw [List.filter_append]
  cases h : p a <;> simp [h]
theorem List.drop_append_of_le_length' {β : Type} {a b : List β} {k n : Nat} (h : a.length = k) (hk : k ≤ n) : (a ++ b).drop n = b.drop (n - k) := by
  subst h
  rw [List.drop_append, List.drop_of_length_le hk, List.nil_append]
theorem keptL_le : (keptL p l).length ≤ l.length := List.length_filter_le _ _
theorem keptL_mem {a : α} (h : a ∈ keptL p l) : a ∈ l ∧ p a = false := by
  unfold keptL at h
  simpa using h
/-- 'j' parts have been looked at, 'i' of them are kept; they stand in front. -/
structure DelI (c : α → List AV) (sz : Nat) (p : α → Bool) (l : List α) (j i : Nat) (cells : List AV) : Prop where
  hj : j ≤ l.length
  hi : i = (keptL p (l.take j)).length
  front : cells.take (i * sz) = flat c (keptL p (l.take j))
  back : cells.drop (j * sz) = flat c (l.drop j)
  len : cells.length = l.length * sz
theorem DelI.le {j i : Nat} {cells : List AV} (h : DelI c sz p l j i cells) : i ≤ j := by
  have := keptL_le (p := p) (l := l.take j)
  have h1 := h.hi
  have h2 := h.hj
  rw [List.length_take] at this
  omega
theorem DelI.first {j : Nat} (hc : ∀ a, (c a).length = sz) (hj : j < l.length) (hp : p l[j] = true) (hn : ∀ k (hk : k < l.length), k < j → p l[k] = false) : DelI c sz p l (j + 1) j (flat c l) := by
  have e : keptL p (l.take j) = l.take j := by
    unfold keptL
    rw [List.filter_eq_self]
    intro a ha
    obtain ⟨k, hk, rfl⟩ := List.getElem_of_mem ha
    rw [List.getElem_take]
    have : k < j := by simp at hk; omega
    rw [hn k (by omega) this]
    rfl
  have e2 : keptL p (l.take (j + 1)) = l.take j := by
    rw [List.take_succ_eq_append_getElem hj, keptL_snoc, if_pos hp, e]
  refine ⟨by omega, by rw [e2]; simp; omega, by rw [e2, flat_take hc], flat_drop hc l (j + 1), flat_len hc l⟩
theorem DelI.at {j i : Nat} {cells : List AV} (hc : ∀ a, (c a).length = sz) (h : DelI c sz p l j i cells) (hj : j < l.length) : cells.drop (j * sz) = c l[j] ++ flat c (l.drop (j + 1)) := by
  rw [h.back, List.drop_eq_getElem_cons hj, flat_cons]
theorem DelI.skip {j i : Nat} {cells : List AV} (hc : ∀ a, (c a).length = sz) (h : DelI c sz p l j i cells) (hj : j < l.length) (hp : p l[j] = true) : DelI c sz p l (j + 1) i cells := by
  have e : keptL p (l.take (j + 1)) = keptL p (l.take j) := by rw [List.take_succ_eq_append_getElem hj, keptL_snoc, if_pos hp]
  refine ⟨by omega, by rw [e]; exact h.hi, by rw [e]; exact h.front, ?_, h.len⟩
  rw [show (j + 1) * sz = j * sz + sz by rw [Nat.add_mul]; omega, ← List.drop_drop, h.at hc hj, List.drop_left' (hc _)]
theorem DelI.keep {j i : Nat} {cells : List AV} (hc : ∀ a, (c a).length = sz) (h : DelI c sz p l j i cells) (hj : j < l.length) (hp : p l[j] = false) : DelI c sz p l (j + 1) (i + 1) (cells.take (i * sz) ++ c l[j] ++ cells.drop (i * sz + sz)) := by
  have hle := h.le
  have e : keptL p (l.take (j + 1)) = keptL p (l.take j) ++ [l[j]] := by rw [List.take_succ_eq_append_getElem hj, keptL_snoc, if_neg (by rw [hp]; simp)]
  have hl := h.len
  have h1 : i * sz ≤ j * sz := Nat.mul_le_mul_right _ hle
  have h2 : (j + 1) * sz ≤ l.length * sz := Nat.mul_le_mul_right _ hj
  have h3 : (j + 1) * sz = j * sz + sz := by rw [Nat.add_mul]; omega
  have h4 : (i + 1) * sz = i * sz + sz := by rw [Nat.add_mul]; omega
  have ht : (cells.take (i * sz) ++ c l[j]).length = i * sz + sz := by
    rw [List.length_append, hc, List.length_take]
    omega
  refine ⟨by omega, by rw [e]; simp; exact h.hi, ?_, ?_, ?_⟩
  · rw [e, flat_append, flat_cons, flat_nil, List.append_nil, h4, ← ht, List.take_left, h.front]
  · rw [h3, List.drop_append_of_le_length' ht (by omega)]
    rw [List.drop_drop, show i * sz + sz + (j * sz + sz - (i * sz + sz)) = j * sz + sz by omega, ← List.drop_drop, h.at hc hj, List.drop_left' (hc _)]
  · rw [List.length_append, ht, List.length_drop]
    omega
theorem DelI.all {i : Nat} {cells : List AV} (hc : ∀ a, (c a).length = sz) (h : DelI c sz p l l.length i cells) (n : Nat) (z : List AV) : i = (keptL p l).length ∧ cells.take (i * sz) = flat c (keptL p l) := by
  have h1 := h.hi
  have h2 := h.front
  rw [List.take_length] at h1 h2
  exact ⟨h1, h2⟩
end
theorem idxF_spec {α : Type} (p : α → Bool) (l : List α) : (idxF p l = -1 ∧ ∀ j (hj : j < l.length), p l[j] = false) ∨ ∃ (i : Nat) (h : i < l.length), idxF p l = i ∧ p l[i] = true ∧ ∀ j (hj : j < l.length), j < i → p l[j] = false := by
  unfold idxF
  cases h : l.findIdx? p with
  | none =>
    left
    refine ⟨rfl, fun j hj => ?_⟩
    rw [List.findIdx?_eq_none_iff] at h
    exact h _ (List.getElem_mem hj)
  | some i =>
    right
    obtain ⟨h1, h2, h3⟩ := List.findIdx?_eq_some_iff_getElem.1 h
    exact ⟨i, h1, rfl, h2, fun j hj hji => by simpa using h3 j hji⟩
theorem upd_val {H : AH} {id : Nat} {b : ABlk} (h : H id = b) : upd H id b = H := by
  funext j
  unfold upd
  split
  · rename_i e; rw [e, h]
  · rfl
theorem takeEqG {α : Type} {l m : List α} {k : Nat} (h : k < l.length) (h' : k < m.length) (ha : l.take k = m.take k) (hk : l[k] = m[k]) : l.take (k + 1) = m.take (k + 1) := by
  rw [List.take_succ_eq_append_getElem h, List.take_succ_eq_append_getElem h', ha, hk]
theorem takeEndG {α : Type} {l m : List α} {k : Nat} (h : l.length ≤ k) (h' : m.length ≤ k) (ha : l.take k = m.take k) : l = m := by
  rwa [List.take_of_length_le h, List.take_of_length_le h'] at ha
theorem notTake {α : Type} {l : List α} {n : α} {k : Nat} (h : k < l.length) (ha : n ∉ l.take k) (hk : ¬ l[k] = n) : n ∉ l.take (k + 1) := by
  rw [List.take_succ_eq_append_getElem h]
  intro hm
  rcases List.mem_append.1 hm with hm | hm
  · exact ha hm
  · simp at hm; exact hk hm.symm
/-- A law that answers true, its arguments whole. -/
theorem law_callsR {P : Program} {f : FuncId} {as : List AV} (h : CallQ P f as noH 0 fun r _ _ => r = .bool true) {W : World} {vs : List Value} (ht : Tab W.heap.size W) (hr : Reps (entry W) vs as) :
    Calls P f vs.toArray W fun e W' => e = .returned (.bool true) ∧ Go.RowKit.Below W.heap.size W W' := by
  refine (h.2 _ _ vs (entry_inv W ht) hr).mono ?_
  rintro e W' ⟨r, H', nx', rfl, v, κ', rfl, rfl, hrep, hext, _⟩
  obtain rfl := hrep.bool_inv
  exact ⟨rfl, hext.os, hext.tape, hext.output, hext.size, hext.below⟩
theorem In.whole {W : World} {cs : Array Value} {as : List AV} (h : In W cs.toList as) : Reps (entry W) [.agg cs] [.agg as] := by
  have := Rep.agg (W := W) (M := fun _ => none) (F := fun b => b < W.heap.size) cs.toList as h.2.1 h.1 h.2.2
  rw [Array.toArray_toList] at this
  exact Reps.cons this (Reps.nil _)
theorem cI_len1 (a : Int) : (cI a).length = 1 := rfl
theorem keptL_none {α : Type} {p : α → Bool} {l : List α} (h : ∀ j (hj : j < l.length), p l[j] = false) : keptL p l = l := by
  unfold keptL
  rw [List.filter_eq_self]
  intro a ha
  obtain ⟨k, hk, rfl⟩ := List.getElem_of_mem ha
  rw [h k hk]
  rfl
end Go.TH

/-
  TH, part 38: rounds one by one; bounds of what is known.
-/
set_option linter.unusedVariables false
set_option linter.unusedSimpArgs false
namespace Go.TH
open Go
section
variable {P : Program} {b : Code} {Q : AEx → ASt → Prop} {s : ASt}
def UQ (L : ASt → Prop) (Q : AEx → ASt → Prop) : AEx → ASt → Prop
  | .normal, s => L s
  | e, s => Q e s
@[go_sem] theorem UQ_normal {L : ASt → Prop} : UQ L Q .normal s = L s := rfl
@[go_sem] theorem UQ_exit {L : ASt → Prop} {k : Nat} : UQ L Q (.exit k) s = Q (.exit k) s := rfl
@[go_sem] theorem UQ_ret {L : ASt → Prop} : UQ L Q .ret s = Q .ret s := rfl
/-- One round, then the loop again. -/
theorem LoopB.unroll {w : Box (awp P b)} {w2 : Box Q} (h : awp P b (UQ (fun s2 => LoopB (awp P b) Q s2 .mk .mk) Q) s) : LoopB (awp P b) Q s w w2 := by
  obtain ⟨e, s2, h1, h2⟩ := awp_ex b h
  unfold LoopB ALoop
  cases e with
  | normal =>
    obtain ⟨R, n, ⟨s0, hw, hR⟩, hround⟩ := h1
    refine ⟨fun s' n' => R s' n' ∨ (s' = s ∧ n' = n + 1), n + 1, ⟨s, Weak0.toW ⟨wkL_refl _, fun _ => .inl rfl, Nat.le_refl _⟩, .inr ⟨rfl, rfl⟩⟩, ?_⟩
    rintro s' n' (hr | ⟨rfl, rfl⟩)
    · refine awp_mono b (hround s' n' hr) fun e s3 hq => ?_
      cases e with
      | normal =>
        obtain ⟨m, hm, s4, h4, h5⟩ := hq
        exact ⟨m, hm, s4, h4, .inl h5⟩
      | exit k => exact hq
      | ret => exact hq
    · exact h2 _ ⟨n, Nat.lt_succ_self n, s0, hw, .inl hR⟩
  | exit k =>
    refine ⟨fun s' n' => s' = s, 0, ⟨s, Weak0.toW ⟨wkL_refl _, fun _ => .inl rfl, Nat.le_refl _⟩, rfl⟩, ?_⟩
    rintro s' n' rfl
    exact h2 _ h1
  | ret =>
    refine ⟨fun s' n' => s' = s, 0, ⟨s, Weak0.toW ⟨wkL_refl _, fun _ => .inl rfl, Nat.le_refl _⟩, rfl⟩, ?_⟩
    rintro s' n' rfl
    exact h2 _ h1
end
/-! ### Bounds -/
def asksK (k : GKn) (kind : Int) (v : GVal) : Prop := knOk k ∧ 0 < k.many ∧ inR kind 1 4 ∧ v.Ok ∧ v.k = k.least.k
def mayC (kind low high : Int) : Prop := (kind = 1 ∧ low ≤ 0 ∧ 0 ≤ high) ∨ (kind = 2 ∧ (low ≠ 0 ∨ high ≠ 0)) ∨ (kind = 3 ∧ low < 0) ∨ (kind = 4 ∧ low ≤ 0)
def mustC (kind low high : Int) : Prop := (kind = 1 ∧ low = 0 ∧ high = 0) ∨ (kind = 2 ∧ (0 < low ∨ high < 0)) ∨ (kind = 3 ∧ high < 0) ∨ (kind = 4 ∧ high ≤ 0)
def mayH (k : GKn) (kind : Int) (v : GVal) : Prop := asksK k kind v ∧ mayC kind (k.least.ord v) (k.most.ord v)
def mustH (k : GKn) (kind : Int) (v : GVal) : Prop := asksK k kind v ∧ mustC kind (k.least.ord v) (k.most.ord v)
instance (k : GKn) (kind : Int) (v : GVal) : Decidable (asksK k kind v) := by unfold asksK; infer_instance
instance (kind low high : Int) : Decidable (mayC kind low high) := by unfold mayC; infer_instance
instance (kind low high : Int) : Decidable (mustC kind low high) := by unfold mustC; infer_instance
instance (k : GKn) (kind : Int) (v : GVal) : Decidable (mayH k kind v) := by unfold mayH; infer_instance
instance (k : GKn) (kind : Int) (v : GVal) : Decidable (mustH k kind v) := by unfold mustH; infer_instance
def one1 (kind : Int) (w v : GVal) : Int := if cmpV kind w v = 1 then 1 else 0
def manyLo (k : GKn) (kind : Int) (v : GVal) : Int :=
  if mayH k kind v then (if mustH k kind v then k.many else if k.least = k.most ∨ k.many = 1 then one1 kind k.least v else one1 kind k.least v + one1 kind k.most v) else 0
def manyHi (k : GKn) (kind : Int) (v : GVal) : Int :=
  if mayH k kind v then (if mustH k kind v then k.many else if k.least = k.most ∨ k.many = 1 then k.many - (1 - one1 kind k.least v) else k.many - (2 - (one1 kind k.least v + one1 kind k.most v))) else 0
theorem GVal.eq_iff3 {v w : GVal} : v = w ↔ v.k = w.k ∧ v.n = w.n ∧ v.s = w.s := ⟨fun e => by rw [e]; exact ⟨rfl, rfl, rfl⟩, fun e => GVal.eq3' e.1 e.2.1 e.2.2⟩
theorem eqv (v w : GVal) : (decide (v.k = w.k) && (decide (v.n = w.n) && decide (v.s = w.s))) = decide (v = w) := by
  rw [Bool.eq_iff_iff, decide_eq_true_iff, GVal.eq_iff3]
  simp
end Go.TH

/-
  TH, part 39: whether there is room behind an empty slice is nothing to a callee that does not ask.
-/
set_option linter.unusedVariables false
set_option linter.unusedSimpArgs false
namespace Go.TH
open Go
theorem Rep.untight {W : World} {M : Nat → Option Ent} {F : Nat → Prop} {v : Value} {n : Nat} {t : Bool} {cells : List AV} (h : Rep W M F v (.sl n t cells)) : Rep W M F v (.sl n false cells) := by
  obtain ⟨A, c, rfl, hn, _, hc⟩ := (show Rep (Cx.mk W M F).W (Cx.mk W M F).M (Cx.mk W M F).F v (.sl n t cells) from h).sl_inv
  exact (Rep.sl_mk (κ := ⟨W, M, F⟩) hn (fun e => by cases e) hc)
/-- Arguments that say more. -/
theorem QCall.args {P : Program} {f : FuncId} {args args' : List AV} {r : AV} (h : QCall P f args r) (hl : args.length = args'.length) (ha : ∀ (W : World) (M : Nat → Option Ent) (F : Nat → Prop) (j : Nat) (v : Value) (a a' : AV), args[j]? = some a → args'[j]? = some a' → Rep W M F v a' → Rep W M F v a) : QCall P f args' r := by
  intro H nx
  refine ⟨(h H nx).1, fun base κ vs hi hr => (h H nx).2 base κ vs hi ⟨by rw [hr.1, hl], fun j v a h1 h2 => ?_⟩⟩
  have hj : j < args'.length := by rw [← hl]; exact (List.getElem?_eq_some_iff.1 h2).1
  exact ha _ _ _ j v a _ h2 (List.getElem?_eq_getElem hj) (hr.2 j v _ h1 (List.getElem?_eq_getElem hj))
/-- The last argument is an empty slice, tight. -/
theorem QCall.tight1 {P : Program} {f : FuncId} {a r : AV} {n : Nat} {cells : List AV} (h : QCall P f [a, .sl n false cells] r) : QCall P f [a, .sl n true cells] r := by
  refine h.args rfl fun W M F j v x x' h1 h2 hr => ?_
  match j with
  | 0 => simp at h1 h2; subst h1; subst h2; exact hr
  | 1 => simp at h1 h2; subst h1; subst h2; exact hr.untight
  | j + 2 => simp at h1
theorem QCall.tight {P : Program} {f : FuncId} {r : AV} {n : Nat} {cells : List AV} (h : QCall P f [.sl n false cells] r) : QCall P f [.sl n true cells] r := by
  refine h.args rfl fun W M F j v x x' h1 h2 hr => ?_
  match j with
  | 0 => simp at h1 h2; subst h1; subst h2; exact hr.untight
  | j + 1 => simp at h1
end Go.TH

/- TH: tables, logs, tallies, marks, changes that are ok: plain. -/
namespace Go.TH
open Go
def tabOk (t : GTb) : Prop := t.rows.length ≤ 6 ∧ rowsOk t.cols t.rows
noncomputable instance (t : GTb) : Decidable (tabOk t) := Classical.propDecidable _
def tabsOk (l : List GTb) : Prop := l.length ≤ 3 ∧ ∀ t ∈ l, tabOk t
noncomputable instance (l : List GTb) : Decidable (tabsOk l) := Classical.propDecidable _
theorem tabsOk_iff (l : List GTb) : decide (tabsOk l) = (decide (l.length ≤ 3) && !(l.any fun t => !decide (tabOk t))) := by
  rw [Bool.eq_iff_iff, decide_eq_true_iff]
  simp [tabsOk]
theorem tabsOk_take {l : List GTb} (h : tabsOk l) (k : Nat) : tabsOk (l.take k) := ⟨by have := h.1; simp; omega, fun t ht => h.2 t (List.mem_of_mem_take ht)⟩
theorem rowsOk_cols {c : List GCol} {r : List GRow} (h : rowsOk c r) : colsOk c := h.1
/-- All are ok, and each is related to the next one. -/
def chain {α : Type} (P : α → Prop) (R : α → α → Prop) (l : List α) : Prop := (∀ j (h : j < l.length), P l[j]) ∧ ∀ j (h : j + 1 < l.length), R l[j] l[j + 1]
def chK {α : Type} (P : α → Prop) (R : α → α → Prop) (l : List α) (k : Nat) : Prop := (∀ j (h : j < l.length), j < k → P l[j]) ∧ ∀ j (h : j + 1 < l.length), j + 1 < k → R l[j] l[j + 1]
theorem chK.zero {α : Type} {P : α → Prop} {R : α → α → Prop} {l : List α} : chK P R l 0 := ⟨fun j _ h => by omega, fun j _ h => by omega⟩
theorem toNat_pred (k : Nat) : ((k : Int) - 1).toNat = k - 1 := by omega
theorem chK.step {α : Type} {P : α → Prop} {R : α → α → Prop} {l : List α} {k : Nat} (h : chK P R l k) (hk : k < l.length) (hP : P l[k]) (hR : ¬ (0 : Int) < k ∨ ∃ hb : ((k : Int) - 1).toNat < l.length, R l[((k : Int) - 1).toNat] l[k]) : chK P R l (k + 1) := by
  refine ⟨fun j hj hjk => ?_, fun j hj hjk => ?_⟩
  · by_cases e : j = k
    · subst e; exact hP
    · exact h.1 j hj (by omega)
  · by_cases e : j + 1 = k
    · subst e
      rcases hR with h0 | ⟨hb, h1⟩
      · omega
      · have e1 : (((j + 1 : Nat) : Int) - 1).toNat = j := by omega
        simp only [e1] at h1
        exact h1
    · exact h.2 j hj (by omega)
theorem chain.no1 {α : Type} {P : α → Prop} {R : α → α → Prop} {l : List α} {k : Nat} (hk : k < l.length) (h : ¬ P l[k]) : ¬ chain P R l := fun e => h (e.1 k hk)
theorem chain.no2 {α : Type} {P : α → Prop} {R : α → α → Prop} {l : List α} {k : Nat} (hk : k < l.length) (hb : ((k : Int) - 1).toNat < l.length) (h0 : (0 : Int) < k) (h : ¬ R l[((k : Int) - 1).toNat] l[k]) : ¬ chain P R l := fun e => by
  apply h
  have h1 := e.2 (k - 1) (by omega)
  have e2 : k - 1 + 1 = k := by omega
  have e1 : ((k : Int) - 1).toNat = k - 1 := by omega
  simp only [e2] at h1
  simp only [e1]
  exact h1
theorem chK.fin {α : Type} {P : α → Prop} {R : α → α → Prop} {l : List α} {k : Nat} (h : chK P R l k) (hk : l.length ≤ k) : chain P R l := ⟨fun j hj => h.1 j hj (by omega), fun j hj => h.2 j hj (by omega)⟩
theorem chK.left {α : Type} {P : α → Prop} {R : α → α → Prop} {l : List α} {k : Nat} (h : chK P R l k) (hk : k ≤ l.length) (hb : ((k : Int) - 1).toNat < l.length) (h0 : (0 : Int) < k) : P l[((k : Int) - 1).toNat] := h.1 _ hb (by omega)
theorem chain.take {α : Type} {P : α → Prop} {R : α → α → Prop} {l : List α} (h : chain P R l) (k : Nat) : chain P R (l.take k) :=
  ⟨fun j hj => by rw [List.getElem_take]; exact h.1 j (by simp at hj; omega), fun j hj => by rw [List.getElem_take, List.getElem_take]; exact h.2 j (by simp at hj; omega)⟩
theorem chain.nil {α : Type} {P : α → Prop} {R : α → α → Prop} : chain P R [] := ⟨fun j h => by simp at h, fun j h => by simp at h⟩
def tlOk (t : GTl) : Prop := rowOk t.key ∧ t.key.length = 1 ∧ inR t.rows 1 100 ∧ inR t.many 0 t.rows ∧ inR t.sum (-9999 * t.many) (9999 * t.many)
def tlLt (a b : GTl) : Prop := rowOrd a.key b.key < 0
def talsOk (l : List GTl) : Prop := chain tlOk tlLt l
noncomputable instance (l : List GTl) : Decidable (talsOk l) := Classical.propDecidable _
noncomputable instance (t : GTl) : Decidable (tlOk t) := Classical.propDecidable _
theorem rowOrdOk_ok {a b : GRow} (ha : rowOk a) (hb : rowOk b) : rowOrdOk a b = rowOrd a b := by unfold rowOrdOk; rw [if_pos ⟨ha, hb⟩]
def enOk (e : GEn) : Prop := inR e.time 1 40 ∧ wrsOk e.ws
def enLt (a b : GEn) : Prop := a.time < b.time
def logOk (l : List GEn) : Prop := l.length ≤ 12 ∧ chain enOk enLt l
noncomputable instance (l : List GEn) : Decidable (logOk l) := Classical.propDecidable _
theorem logOk_take {l : List GEn} (h : logOk l) (k : Nat) : logOk (l.take k) := ⟨by have := h.1; simp; omega, h.2.take k⟩
def mkP (m : GMk) : Prop := m.v.Ok ∧ inR m.key 0 4 ∧ inR m.born 1 40 ∧ (m.died = 0 ∨ inR m.died (m.born + 1) 40)
def mkEnd (m : GMk) : Int := if m.died = 0 then 41 else m.died
def mkOver (n m : GMk) : Prop := n.key = m.key ∧ n.born < mkEnd m ∧ m.born < mkEnd n
def mkLt (a b : GMk) : Prop := a.v.ord b.v < 0 ∨ (a.v.ord b.v = 0 ∧ (a.key < b.key ∨ (a.key = b.key ∧ a.born < b.born)))
def noOv (l : List GMk) (k : Nat) : Prop := ∀ i j (hi : i < l.length) (hj : j < i), i < k → ¬ mkOver (l[j]'(by omega)) l[i]
def marksOk (l : List GMk) : Prop := l.length ≤ 60 ∧ chain mkP mkLt l ∧ noOv l l.length
noncomputable instance (m : GMk) : Decidable (mkP m) := Classical.propDecidable _
noncomputable instance (a b : GMk) : Decidable (mkLt a b) := Classical.propDecidable _
instance (a b : GMk) : Decidable (mkOver a b) := by unfold mkOver; infer_instance
noncomputable instance (l : List GMk) : Decidable (marksOk l) := Classical.propDecidable _
theorem noOv.zero {l : List GMk} : noOv l 0 := fun i j _ _ h => by omega
theorem noOv.step {l : List GMk} {k : Nat} (h : noOv l k) (hk : k < l.length) (hn : ∀ j (hj : j < k), ¬ mkOver (l[j]'(by omega)) l[k]) : noOv l (k + 1) := fun i j hi hj hik => by
  by_cases e : i = k
  · subst e; exact hn j hj
  · exact h i j hi hj (by omega)
theorem marksOk.no3 {l : List GMk} {k j : Nat} (hk : k < l.length) (hj : j < k) (h : mkOver (l[j]'(by omega)) l[k]) : ¬ marksOk l := fun e => e.2.2 k j hk hj hk h
theorem noOv.mono {l : List GMk} {k j : Nat} (h : noOv l k) (hk : j ≤ k) : noOv l j := fun a b ha hb hj => h a b ha hb (by omega)
theorem marksOk_fin {l : List GMk} {k : Nat} (h : chK mkP mkLt l k) (ho : noOv l k) (hk : l.length ≤ k) (h60 : l.length ≤ 60) : marksOk l := ⟨h60, h.fin hk, ho.mono hk⟩
def mkLtS (a b : GMk) : Prop := valOrd a.v b.v < 0 ∨ (valOrd a.v b.v = 0 ∧ (a.key < b.key ∨ (a.key = b.key ∧ a.born < b.born)))
noncomputable instance (a b : GMk) : Decidable (mkLtS a b) := Classical.propDecidable _
theorem mkLtS_ok {a b : GMk} (oa : a.v.Ok) (ob : b.v.Ok) : mkLtS a b ↔ mkLt a b := by unfold mkLtS mkLt valOrd; rw [if_pos ⟨oa, ob⟩]
def noOvj (l : List GMk) (m : GMk) (j : Nat) : Prop := ∀ i (h : i < l.length), i < j → ¬ mkOver l[i] m
theorem noOvj.zero {l : List GMk} {m : GMk} : noOvj l m 0 := fun i _ h => by omega
theorem noOvj.step {l : List GMk} {m : GMk} {j : Nat} (h : noOvj l m j) (hj : j < l.length) (hn : ¬ mkOver l[j] m) : noOvj l m (j + 1) := fun i hi hij => by
  by_cases e : i = j
  · subst e; exact hn
  · exact h i hi (by omega)
theorem noOv.stepj {l : List GMk} {k j : Nat} (h : noOv l k) (hk : k < l.length) (hn : noOvj l l[k] j) (hj : k ≤ j) : noOv l (k + 1) := h.step hk fun i hi => hn i (by omega) (by omega)
def mkOrd (a b : GMk) : Int := orF [a.v.ord b.v, cmpI a.key b.key, cmpI a.born b.born]
theorem mkOrd_pos {a b : GMk} : 0 < mkOrd a b ↔ ¬ mkLt a b ∧ ¬ (a.v.ord b.v = 0 ∧ a.key = b.key ∧ a.born = b.born) := by
  unfold mkOrd mkLt
  simp only [orF, cmpI]
  repeat' split
  all_goals omega
theorem noOvj_any {l : List GMk} {m : GMk} {k : Nat} (hk : k ≤ l.length) : ((l.take k).any fun n => decide (mkOver n m)) = false ↔ noOvj l m k := by
  rw [List.any_eq_false]
  constructor
  · intro h i hi hik e
    exact h l[i] (by rw [List.mem_iff_getElem]; exact ⟨i, by simp; omega, by rw [List.getElem_take]⟩) (decide_eq_true e)
  · intro h n hn e
    rw [List.mem_iff_getElem] at hn
    obtain ⟨i, hi, rfl⟩ := hn
    rw [List.getElem_take] at e
    exact h i (by simp at hi; omega) (by simp at hi; omega) (of_decide_eq_true e)
end Go.TH

/- TH: the order of rows: plain. -/
namespace Go.TH
open Go
theorem cmpL_neg : ∀ a b : GRow, cmpL GVal.ord b a = - cmpL GVal.ord a b
  | [], [] => rfl
  | [], _ :: _ => rfl
  | _ :: _, [] => rfl
  | v :: l, w :: m => by
    have h := ord_neg v w
    have ih := cmpL_neg l m
    unfold cmpL
    rw [h]
    by_cases e : v.ord w = 0
    · rw [if_pos (by omega), if_pos e, ih]
    · rw [if_neg (by omega), if_neg e]
theorem cmpL_zero : ∀ a b : GRow, cmpL GVal.ord a b = 0 ↔ a = b
  | [], [] => by simp [cmpL]
  | [], _ :: _ => by simp [cmpL]
  | _ :: _, [] => by simp [cmpL]
  | v :: l, w :: m => by
    have ih := cmpL_zero l m
    unfold cmpL
    by_cases e : v.ord w = 0
    · rw [if_pos e, ih]; have := ord_zero.1 e; simp [this]
    · rw [if_neg e]
      have : v ≠ w := fun c => e (ord_zero.2 c)
      simp [e, this]
theorem rowOrd_neg (a b : GRow) : rowOrd b a = - rowOrd a b := cmpL_neg a b
theorem rowOrd_zero (a b : GRow) : rowOrd a b = 0 ↔ a = b := cmpL_zero a b
theorem rowOrdOk_neg (a b : GRow) : rowOrdOk b a = - rowOrdOk a b := by
  unfold rowOrdOk
  by_cases h : rowOk a ∧ rowOk b
  · rw [if_pos h, if_pos ⟨h.2, h.1⟩, rowOrd_neg]
  · rw [if_neg h, if_neg (fun e => h ⟨e.2, e.1⟩)]; rfl
theorem rowOrd_pre : ∀ (a : GRow) (k : Nat), k < a.length → rowOrd (a.take k) a = -1
  | [], k, h => by simp at h
  | v :: l, 0, _ => rfl
  | v :: l, k + 1, h => by
    have ih := rowOrd_pre l k (by simp at h; omega)
    unfold rowOrd at *
    rw [List.take_succ_cons]
    unfold cmpL
    rw [if_pos (ord_refl v)]
    exact ih
theorem rowOk_take {a : GRow} (h : rowOk a) (k : Nat) : rowOk (a.take k) := ⟨by have := h.1; simp; omega, fun v hv => h.2 v (List.mem_of_mem_take hv)⟩
theorem rowOrdOk_pre {a : GRow} (h : rowOk a) {k : Nat} (hk : k < a.length) : rowOrdOk (a.take k) a = -1 := by rw [rowOrdOk_ok (rowOk_take h k) h]; exact rowOrd_pre a k hk
theorem ord_range (v w : GVal) : -1 ≤ v.ord w ∧ v.ord w ≤ 1 := by
  unfold GVal.ord
  simp only [orF, cmpI, cmpS]
  repeat' split
  all_goals omega
theorem cmpL_range : ∀ a b : GRow, -1 ≤ cmpL GVal.ord a b ∧ cmpL GVal.ord a b ≤ 1
  | [], [] => by simp [cmpL]
  | [], _ :: _ => by simp [cmpL]
  | _ :: _, [] => by simp [cmpL]
  | v :: l, w :: m => by
    unfold cmpL
    split
    · exact cmpL_range l m
    · exact ord_range v w
theorem rowOrdOk_range (a b : GRow) : -1 ≤ rowOrdOk a b ∧ rowOrdOk a b ≤ 1 := by
  unfold rowOrdOk
  split
  · exact cmpL_range a b
  · omega
end Go.TH

/-
  TH, part 42: what is one's own all the way down, and its picture.
-/
set_option linter.unusedVariables false
set_option linter.unusedSimpArgs false
namespace Go.TH
open Go
/-- 'ps' is a picture of 'as' in the heap; 'S': the places on the way. fz: what is only read may stand in it. -/
inductive OwnL (fz : Bool) (H : AH) : List Nat → List AV → List AV → Prop
  | nil : OwnL fz H [] [] []
  | leaf {p a : AV} {S : List Nat} {ps as : List AV} (h : (if fz then pureA a else scalA a) = true) (e : p = looseA a) (t : OwnL fz H S ps as) : OwnL fz H S (p :: ps) (a :: as)
  | sl {id ver sz n : Nat} {cells ac : List AV} {S1 S2 S : List Nat} {ps as : List AV} (hl : H id = .live ver ac) (hc : cells.length = n * sz) (h1 : OwnL fz H S1 cells ac) (h2 : OwnL fz H S2 ps as) (hS : S = id :: (S1 ++ S2)) : OwnL fz H S (.sl n false cells :: ps) (.msl id ver sz 0 n :: as)
  | agg {cells ac : List AV} {S1 S2 S : List Nat} {ps as : List AV} (h1 : OwnL fz H S1 cells ac) (h2 : OwnL fz H S2 ps as) (hS : S = S1 ++ S2) : OwnL fz H S (.agg cells :: ps) (.agg ac :: as)
  | tup {cells ac : List AV} {S1 S2 S : List Nat} {ps as : List AV} (h1 : OwnL fz H S1 cells ac) (h2 : OwnL fz H S2 ps as) (hS : S = S1 ++ S2) : OwnL fz H S (.tup cells :: ps) (.tup ac :: as)
variable {fz : Bool} {H H' : AH} {S S1 S2 : List Nat} {ps as p1 p2 a1 a2 : List AV}
theorem OwnL.len (h : OwnL fz H S ps as) : ps.length = as.length := by
  induction h with
  | nil => rfl
  | leaf _ _ _ ih => simp [ih]
  | sl _ _ _ _ _ _ ih => simp [ih]
  | agg _ _ _ _ ih => simp [ih]
  | tup _ _ _ _ ih => simp [ih]
theorem OwnL.congr (h : OwnL fz H S ps as) (he : ∀ i ∈ S, H' i = H i) : OwnL fz H' S ps as := by
  induction h with
  | nil => exact .nil
  | leaf h e t ih => exact .leaf h e (ih he)
  | sl hl hc h1 h2 hS ih1 ih2 =>
    subst hS
    exact .sl (by rw [he _ (by simp)]; exact hl) hc (ih1 fun i hi => he i (by simp [hi])) (ih2 fun i hi => he i (by simp [hi])) rfl
  | agg h1 h2 hS ih1 ih2 => subst hS; exact .agg (ih1 fun i hi => he i (by simp [hi])) (ih2 fun i hi => he i (by simp [hi])) rfl
  | tup h1 h2 hS ih1 ih2 => subst hS; exact .tup (ih1 fun i hi => he i (by simp [hi])) (ih2 fun i hi => he i (by simp [hi])) rfl
theorem OwnL.app (h1 : OwnL fz H S1 p1 a1) (h2 : OwnL fz H S2 p2 a2) : OwnL fz H (S1 ++ S2) (p1 ++ p2) (a1 ++ a2) := by
  induction h1 with
  | nil => exact h2
  | leaf h e t ih => exact .leaf h e ih
  | sl hl hc q1 q2 hS _ ih => subst hS; exact .sl hl hc q1 ih (by simp)
  | agg q1 q2 hS _ ih => subst hS; exact .agg q1 ih (by simp)
  | tup q1 q2 hS _ ih => subst hS; exact .tup q1 ih (by simp)
theorem OwnL.split : ∀ (p1 : List AV) {p2 as : List AV} {S : List Nat}, OwnL fz H S (p1 ++ p2) as → ∃ S1 S2 a1 a2, S = S1 ++ S2 ∧ as = a1 ++ a2 ∧ OwnL fz H S1 p1 a1 ∧ OwnL fz H S2 p2 a2
  | [], p2, as, S, h => ⟨[], S, [], as, rfl, rfl, .nil, h⟩
  | p :: p1, p2, as, S, h => by
    have hh : OwnL fz H S (p :: (p1 ++ p2)) as := h
    cases hh with
    | leaf hq e t =>
      obtain ⟨S1, S2, b1, b2, rfl, rfl, k1, k2⟩ := OwnL.split p1 t
      exact ⟨_, _, _ :: b1, b2, rfl, rfl, .leaf hq e k1, k2⟩
    | sl hl hc q1 q2 hS =>
      obtain ⟨S1, S2, b1, b2, rfl, rfl, k1, k2⟩ := OwnL.split p1 q2
      exact ⟨_ :: (_ ++ S1), S2, _ :: b1, b2, by rw [hS]; simp, rfl, .sl hl hc q1 k1 rfl, k2⟩
    | agg q1 q2 hS =>
      obtain ⟨S1, S2, b1, b2, rfl, rfl, k1, k2⟩ := OwnL.split p1 q2
      exact ⟨_ ++ S1, S2, _ :: b1, b2, by rw [hS]; simp, rfl, .agg q1 k1 rfl, k2⟩
    | tup q1 q2 hS =>
      obtain ⟨S1, S2, b1, b2, rfl, rfl, k1, k2⟩ := OwnL.split p1 q2
      exact ⟨_ ++ S1, S2, _ :: b1, b2, by rw [hS]; simp, rfl, .tup q1 k1 rfl, k2⟩
theorem OwnL.live (h : OwnL false H S ps as) : ∀ i ∈ S, ∃ ver cells, H i = .live ver cells ∧ ownL cells = true := by
  have own : ∀ {S : List Nat} {ps as : List AV}, OwnL false H S ps as → ownL as = true := by
    intro S ps as h
    induction h with
    | nil => rfl
    | leaf h e t ih => simp only [ownL, ownA_scal _ (by simpa using h), ih, Bool.and_self]
    | sl hl hc h1 h2 hS ih1 ih2 => simp only [ownL, ownA, ih2, Bool.and_self]
    | agg h1 h2 hS ih1 ih2 => simp only [ownL, ownA, ih1, ih2, Bool.and_self]
    | tup h1 h2 hS ih1 ih2 => simp only [ownL, ownA, ih1, ih2, Bool.and_self]
  induction h with
  | nil => intro i hi; simp at hi
  | leaf h e t ih => exact ih
  | sl hl hc h1 h2 hS ih1 ih2 =>
    subst hS
    intro i hi
    simp only [List.mem_cons, List.mem_append] at hi
    rcases hi with rfl | hi | hi
    · exact ⟨_, _, hl, own h1⟩
    · exact ih1 i hi
    · exact ih2 i hi
  | agg h1 h2 hS ih1 ih2 =>
    subst hS
    intro i hi
    rcases List.mem_append.1 hi with hi | hi
    · exact ih1 i hi
    · exact ih2 i hi
  | tup h1 h2 hS ih1 ih2 =>
    subst hS
    intro i hi
    rcases List.mem_append.1 hi with hi | hi
    · exact ih1 i hi
    · exact ih2 i hi
theorem OwnL.own (h : OwnL false H S ps as) : ownL as = true := by
  induction h with
  | nil => rfl
  | leaf h e t ih => simp only [ownL, ownA_scal _ (by simpa using h), ih, Bool.and_self]
  | sl hl hc h1 h2 hS ih1 ih2 => simp only [ownL, ownA, ih2, Bool.and_self]
  | agg h1 h2 hS ih1 ih2 => simp only [ownL, ownA, ih1, ih2, Bool.and_self]
  | tup h1 h2 hS ih1 ih2 => simp only [ownL, ownA, ih1, ih2, Bool.and_self]
mutual
theorem scal_pure : ∀ a, scalA a = true → pureA a = true
  | .sl k t cs, h => by
    have : cs = [] := by simpa [scalA] using h
    subst this
    rfl
  | .ro cs, h => by simp [scalA] at h
  | .agg cs, h => by simp only [pureA]; exact scal_pureL cs (by simpa [scalA] using h)
  | .tup cs, h => by simp only [pureA]; exact scal_pureL cs (by simpa [scalA] using h)
  | .fn f cs, h => by simp only [pureA]; exact scal_pureL cs (by simpa [scalA] using h)
  | .bfn f cs, h => by simp only [pureA]; exact scal_pureL cs (by simpa [scalA] using h)
  | .ptr id ver off, h => by simp [scalA] at h
  | .msl id ver sz off m, h => by simp [scalA] at h
  | .int k m, _ => rfl
  | .bool b, _ => rfl
  | .str s, _ => rfl
  | .nilp, _ => rfl
  | .junk, _ => rfl
  | .unk, _ => rfl
theorem scal_pureL : ∀ l, scalL l = true → pureL l = true
  | [], _ => rfl
  | a :: l, h => by
    simp only [scalL, Bool.and_eq_true] at h
    simp only [pureL, scal_pure a h.1, scal_pureL l h.2, Bool.and_self]
end
/-- What is one's own may be looked at. -/
theorem OwnL.look (h : OwnL false H S ps as) : OwnL true H S ps as := by
  induction h with
  | nil => exact .nil
  | leaf h e t ih => exact .leaf (by simpa using scal_pure _ (by simpa using h)) e ih
  | sl hl hc h1 h2 hS ih1 ih2 => exact .sl hl hc ih1 ih2 hS
  | agg h1 h2 hS ih1 ih2 => exact .agg ih1 ih2 hS
  | tup h1 h2 hS ih1 ih2 => exact .tup ih1 ih2 hS
theorem shA_loose (n : Nat) (a : AV) (h : scalA a = true) : looseA (shA n a) = looseA a := by rw [shA_scal n a h]
theorem OwnL.shift {n : Nat} (h : OwnL false H S ps as) (he : ∀ i ∈ S, H' (n + i) = shB n (H i)) : OwnL false H' (S.map (n + ·)) ps (shL n as) := by
  induction h with
  | nil => exact .nil
  | leaf h e t ih => exact .leaf (by rw [shA_scal n _ (by simpa using h)]; exact h) (by rw [shA_loose n _ (by simpa using h)]; exact e) (ih he)
  | sl hl hc h1 h2 hS ih1 ih2 =>
    subst hS
    refine .sl (by rw [he _ (by simp), hl]; rfl) hc (ih1 fun i hi => he i (by simp [hi])) (ih2 fun i hi => he i (by simp [hi])) (by simp)
  | agg h1 h2 hS ih1 ih2 => subst hS; exact .agg (ih1 fun i hi => he i (by simp [hi])) (ih2 fun i hi => he i (by simp [hi])) (by simp)
  | tup h1 h2 hS ih1 ih2 => subst hS; exact .tup (ih1 fun i hi => he i (by simp [hi])) (ih2 fun i hi => he i (by simp [hi])) (by simp)
/-- Plain cells have no places. -/
def plainA : AV → Bool
  | .int _ _ => true
  | .bool _ => true
  | .str _ => true
  | _ => false
theorem loose_plain {p a : AV} (hp : plainA p = true) (e : p = looseA a) : a = p := by
  cases a <;> simp_all [plainA, looseA]
theorem OwnL.plain (h : OwnL fz H S ps as) (hp : ∀ p ∈ ps, plainA p = true) : as = ps ∧ S = [] := by
  induction h with
  | nil => exact ⟨rfl, rfl⟩
  | leaf h e t ih =>
    obtain ⟨i1, i2⟩ := ih fun q hq => hp q (by simp [hq])
    have := loose_plain (hp _ (by simp)) e
    exact ⟨by rw [this, i1], i2⟩
  | sl hl hc h1 h2 hS ih1 ih2 => have := hp _ (List.mem_cons_self ..); simp [plainA] at this
  | agg h1 h2 hS ih1 ih2 => have := hp _ (List.mem_cons_self ..); simp [plainA] at this
  | tup h1 h2 hS ih1 ih2 => have := hp _ (List.mem_cons_self ..); simp [plainA] at this
theorem OwnL.ofPlain : ∀ {l : List AV}, (∀ p ∈ l, plainA p = true) → OwnL fz H [] l l
  | [], _ => .nil
  | p :: l, h => by
    have hp := h p (by simp)
    refine .leaf ?_ ?_ (OwnL.ofPlain fun q hq => h q (by simp [hq]))
    · cases p <;> simp_all [plainA, pureA, scalA]
    · cases p <;> simp_all [plainA, looseA]
theorem OwnL.ofScal : ∀ {l : List AV}, scalL l = true → OwnL fz H [] (l.map looseA) l
  | [], _ => .nil
  | p :: l, h => by
    simp only [scalL, Bool.and_eq_true] at h
    refine .leaf ?_ rfl (OwnL.ofScal h.2)
    cases fz
    · simpa using h.1
    · simpa using scal_pure _ h.1
/-- What is only read may be handed on beside it. -/
theorem OwnL.pure1 {a p : AV} (h : pureA a = true) (e : looseA a = p) (t : OwnL true H S ps as) : OwnL true H S (p :: ps) (a :: as) := .leaf (by simpa using h) e.symm t
/-- The first one. -/
theorem OwnL.uncons {p : AV} (h : OwnL fz H S (p :: ps) as) : ∃ S1 S2 a as', S = S1 ++ S2 ∧ as = a :: as' ∧ OwnL fz H S1 [p] [a] ∧ OwnL fz H S2 ps as' := by
  obtain ⟨S1, S2, b1, b2, e1, rfl, k1, k2⟩ := OwnL.split [p] (p2 := ps) h
  match b1, k1, k1.len with
  | [a], k1, _ => exact ⟨S1, S2, a, b2, e1, rfl, k1, k2⟩
theorem OwnL.unsl {n : Nat} {cells : List AV} {a : AV} (h : OwnL false H S [.sl n false cells] [a]) :
    (∃ id ver sz ac S1, a = .msl id ver sz 0 n ∧ H id = .live ver ac ∧ cells.length = n * sz ∧ OwnL false H S1 cells ac ∧ S = id :: S1) ∨ ∃ t, a = .sl n t [] ∧ cells = [] ∧ S = [] := by
  cases h with
  | leaf h e t =>
    right
    cases a with
    | sl m tt cs =>
      rw [looseA_sl] at e
      injection e with e1 _ e2
      subst e1
      have : cs = [] := by simpa [scalA] using h
      subst this
      cases t
      exact ⟨tt, rfl, by simpa using e2, rfl⟩
    | _ => simp [looseA] at e
  | sl hl hc h1 h2 hS =>
    cases h2
    exact .inl ⟨_, _, _, _, _, rfl, hl, hc, h1, by rw [hS]; simp⟩
/-- A slice whose places lie in a stretch. -/
def OwnR (H : AH) (lo hi : Nat) (p a : AV) : Prop := ∃ S, OwnL false H S [p] [a] ∧ S.Nodup ∧ ∀ i ∈ S, lo ≤ i ∧ i < hi
theorem OwnR.congr {lo hi : Nat} {p a : AV} (h : OwnR H lo hi p a) (he : ∀ i, lo ≤ i → i < hi → H' i = H i) : OwnR H' lo hi p a := by
  obtain ⟨S, h1, h2, h3⟩ := h
  exact ⟨S, h1.congr fun i hi => he i (h3 i hi).1 (h3 i hi).2, h2, h3⟩
theorem OwnR.mono {lo hi lo' hi' : Nat} {p a : AV} (h : OwnR H lo hi p a) (h1 : lo' ≤ lo) (h2 : hi ≤ hi') : OwnR H lo' hi' p a := by
  obtain ⟨S, q1, q2, q3⟩ := h
  exact ⟨S, q1, q2, fun i hi => by have := q3 i hi; omega⟩
theorem OwnR.nilS {lo hi : Nat} {t : Bool} : OwnR H lo hi (.sl 0 false []) (.sl 0 t []) := ⟨[], .leaf rfl rfl .nil, List.nodup_nil, fun i hi => by simp at hi⟩
/-- What grows: its block, and its parts' own places. -/
structure Grow (H : AH) (oid v : Nat) (cells : List AV) (lo hi : Nat) (ps : List AV) : Prop where
  hl : H oid = .live v cells
  ex : ∃ S, OwnL false H S ps cells ∧ S.Nodup ∧ ∀ i ∈ S, i ≠ oid ∧ lo ≤ i ∧ i < hi
theorem Grow.nil {oid v lo hi : Nat} (h : H oid = .live v []) : Grow H oid v [] lo hi [] := ⟨h, [], .nil, List.nodup_nil, fun i hi => by simp at hi⟩
theorem Grow.snoc {oid v v' lo hi hi' : Nat} {cells ps pn an : List AV} (h : Grow H oid v cells lo hi ps) (hle : hi ≤ hi') (hoid : oid < hi) (hlo : lo ≤ hi) {S' : List Nat} (hn : OwnL false H' S' pn an) (hN : S'.Nodup) (hS : ∀ i ∈ S', hi ≤ i ∧ i < hi') (he : ∀ i, i < hi → i ≠ oid → H' i = H i) (hl : H' oid = .live v' (cells ++ an)) :
    Grow H' oid v' (cells ++ an) lo hi' (ps ++ pn) := by
  obtain ⟨_, S, h1, h2, h3⟩ := h
  refine ⟨hl, S ++ S', (h1.congr fun i hi => he i (h3 i hi).2.2 (h3 i hi).1).app hn, ?_, fun i hi => ?_⟩
  · refine List.nodup_append.2 ⟨h2, hN, fun a ha b hb => ?_⟩
    have := (h3 a ha).2.2
    have := (hS b hb).1
    omega
  · rcases List.mem_append.1 hi with hi | hi
    · have := h3 i hi; omega
    · have := hS i hi; omega
theorem Grow.own {oid v lo hi n sz : Nat} {cells ps : List AV} (h : Grow H oid v cells lo hi ps) (hc : ps.length = n * sz) (h1 : lo ≤ oid) (h2 : oid < hi) : OwnR H lo hi (.sl n false ps) (.msl oid v sz 0 n) := by
  obtain ⟨hl, S, q1, q2, q3⟩ := h
  refine ⟨oid :: S, .sl hl hc q1 .nil (by simp), List.nodup_cons.2 ⟨fun hm => (q3 _ hm).1 rfl, q2⟩, fun i hi => ?_⟩
  rcases List.mem_cons.1 hi with rfl | hi
  · exact ⟨h1, h2⟩
  · exact (q3 i hi).2
/-- The picture stands for it, where all that lives is only read. -/
theorem OwnL.reps {base nx : Nat} {κ : Cx} (hi : Inv base κ H nx) {F' : Nat → Prop} {M' : Nat → Option Ent} (hF : ∀ b, κ.F b → F' b) (hL : ∀ b, liveB κ H b → F' b) (h : OwnL fz H S ps as) : ∀ {vs : List Value}, Reps κ vs as → Reps ⟨κ.W, M', F'⟩ vs ps := by
  induction h with
  | nil => intro vs hr; rw [hr.unnil]; exact Reps.nil _
  | leaf h e t ih =>
    rename_i p a S ps as
    intro vs hr
    obtain ⟨v, vs', rfl, r1, r2⟩ := hr.uncons
    have hp : pureA a = true := by
      cases fz
      · exact scal_pure _ (by simpa using h)
      · simpa using h
    have k := snap_rep (M' := M') hi hF hL 0 r1
    rw [snapA_id _ _ _ hp] at k
    refine Reps.cons ?_ (ih r2)
    rw [e]
    exact k.loose
  | sl hl hc h1 h2 hS ih1 ih2 =>
    intro us hr
    obtain ⟨v, vs', rfl, r1, r2⟩ := hr.uncons
    refine Reps.cons ?_ (ih2 r2)
    rcases hi.msl_inv hl r1 with ⟨b, c, cs', T, fz, rfl, hm, hn, hb0, hcap⟩ | ⟨A, b0, rfl, hm, hn⟩
    · obtain ⟨_, _, vs, rest, T', hb, h1', hrs⟩ := hi.place hl hm
      have hca := cellsAt_block (κ := κ) hb h1'
      exact Rep.sl_mk (κ := ⟨κ.W, M', F'⟩) hn (fun h => by cases h) (.inr ⟨_, _, rfl, hL b ⟨_, _, _, _, hl, hm, rfl⟩, hca, ih1 hrs⟩)
    · subst hn
      have : _ = [] := List.eq_nil_of_length_eq_zero (by simpa using hc)
      subst this
      exact .sl0 A 0 0 false (Nat.le_refl _) (fun h => by cases h)
  | agg h1 h2 hS ih1 ih2 =>
    intro us hr
    obtain ⟨v, vs', rfl, r1, r2⟩ := hr.uncons
    refine Reps.cons ?_ (ih2 r2)
    cases r1 with
    | agg vs cells hl h1' hr' =>
      have k := ih1 (vs := vs) ⟨hl, hr'⟩
      exact .agg vs _ k.1 h1' k.2
  | tup h1 h2 hS ih1 ih2 =>
    intro us hr
    obtain ⟨v, vs', rfl, r1, r2⟩ := hr.uncons
    refine Reps.cons ?_ (ih2 r2)
    cases r1 with
    | tup vs as hl hr' =>
      have k := ih1 (vs := vs) ⟨hl, hr'⟩
      exact .tup vs _ k.1 k.2
/-- What one hands over, and what a callee sees of it. -/
def Pict (H : AH) (args ps : List AV) : Prop := ∀ (base nx : Nat) (κ : Cx), Inv base κ H nx → ∀ (F' : Nat → Prop) (M' : Nat → Option Ent), (∀ b, κ.F b → F' b) → (∀ b, liveB κ H b → F' b) → ∀ vs : List Value, Reps κ vs args → Reps ⟨κ.W, M', F'⟩ vs ps
theorem Pict.nil : Pict H [] [] := fun _ _ _ _ _ _ _ _ vs h => by rw [h.unnil]; exact Reps.nil _
theorem OwnL.pict (h : OwnL fz H S ps as) : Pict H as ps := fun base nx κ hi F' M' hF hL vs hr => h.reps hi hF hL hr
theorem OwnR.pict {lo hi : Nat} {p a : AV} (h : OwnR H lo hi p a) : Pict H [a] [p] := by obtain ⟨S, h, _⟩ := h; exact h.pict
theorem Pict.snap (d : Nat) (args : List AV) : Pict H args (args.map (snapA d H)) := fun base nx κ hi F' M' hF hL vs hr => snap_reps hi hF hL d hr
theorem Pict.pure {a : AV} (h : pureA a = true) : Pict H [a] [a] := by
  have := Pict.snap (H := H) 0 [a]
  simpa [snapA_id 0 H a h] using this
theorem Pict.cons {a p : AV} {as ps : List AV} (h1 : Pict H [a] [p]) (h2 : Pict H as ps) : Pict H (a :: as) (p :: ps) := fun base nx κ hi F' M' hF hL vs hr => by
  obtain ⟨v, vs', rfl, r1, r2⟩ := hr.uncons
  exact Reps.cons ((h1 base nx κ hi F' M' hF hL [v] (Reps.cons r1 (Reps.nil _))).2 0 v p rfl rfl) (h2 base nx κ hi F' M' hF hL vs' r2)
/-- CALLED ON A PICTURE of what is the caller's own: a plain answer leaves it as it is. -/
theorem callC_pic {P : Program} {f : FuncId} {args : List AV} {nx : Nat} {r : AV} (ha : Pict H args ps) (h : QCall P f ps r) (hs : scalA r = true) : CallC P f args H nx r H nx := by
  refine ⟨(h noH 0).1, fun base κ vs hi hr => ?_⟩
  have hF0 : ∀ b, (κ.F b ∨ liveB κ H b) → b < κ.W.heap.size := by
    rintro b (hb | ⟨id, ver, cells, e, h1, h2, h3⟩)
    · exact hi.hF b hb
    · obtain ⟨e', he', _, hh⟩ := hi.live id ver cells h1
      rw [h2] at he'
      cases he'
      exact hh.lt h3
  have hi0 : Inv κ.W.heap.size ⟨κ.W, fun _ => none, fun b => κ.F b ∨ liveB κ H b⟩ noH 0 := ⟨hF0, Nat.le_refl _, (fun _ _ => rfl), (fun id ver cells h => by cases h), (fun i j ei ej b _ h _ _ _ => by cases h), hi.tab.up hi.hbase⟩
  have hr0 : Reps ⟨κ.W, fun _ => none, fun b => κ.F b ∨ liveB κ H b⟩ vs ps := ha _ _ _ hi _ _ (fun b hb => .inl hb) (fun b hb => .inr hb) _ hr
  refine ((h noH 0).2 _ _ vs hi0 hr0).mono ?_
  rintro e W' ⟨v, κ', rfl, rfl, hrep, hext, hinv⟩
  have ev : Ev κ ⟨κ'.W, κ.M, κ.F⟩ := ⟨fun b hb => ⟨hb, (hext.ev.fr b (.inl hb)).2⟩, fun id e he => ⟨e, he, .inr rfl⟩, hext.ev.shp⟩
  refine ⟨v, ⟨κ'.W, κ.M, κ.F⟩, rfl, rfl, hrep.scal hs, ?_, ?_⟩
  · exact ⟨ev, hext.os, hext.tape, hext.output, hext.size, fun b hb => hext.below b (Nat.lt_of_lt_of_le hb hi.hbase), fun b hb => .inl hb⟩
  · refine ⟨fun b hb => Nat.lt_of_lt_of_le (hi.hF b hb) hext.size, Nat.le_trans hi.hbase hext.size, hi.hM, fun id ver cells hl => ?_, hi.inj, hi.tab.keep fun b hb => hext.below b (Nat.lt_of_lt_of_le hb hi.hbase)⟩
    obtain ⟨e, he, hv, hh⟩ := hi.live id ver cells hl
    exact ⟨e, he, hv, hh.ev ev (fun b hb _ hn hc => hn hc) (fun b hb => hext.below b (hh.lt hb))⟩
theorem CallB.pic {P : Program} {f : FuncId} {args : List AV} {nx : Nat} {r : AV} {K : AV → AH → Nat → Prop} {w : Box K} (ha : Pict H args ps) (h : QCall P f ps r) (hs : scalA r = true) (k : K r H nx) : CallB P f args H nx K w := ⟨⟨_, _, _, callC_pic ha h hs, k⟩⟩
theorem Pict.mask {S : Nat → Bool} {H H2 : AH} {args ps : List AV} (hm : maskH S H2 = maskH S H) (hS : Pict (maskH S H) args ps) : Pict H2 args ps := fun base nx κ hi F' M' hF hL vs hr =>
  hS base nx κ (by rw [← hm]; exact hi.sub (mask_sub S H2)) F' M' hF (fun b hb => hL b (by
    obtain ⟨id, ver, cells, e, h1, h2, h3⟩ := hb
    rw [← hm] at h1
    rcases mask_sub S H2 id with e2 | e2
    · exact ⟨id, ver, cells, e, by rw [← e2]; exact h1, h2, h3⟩
    · rw [e2] at h1; cases h1)) vs hr
/-- A call on a picture, in a region that draws; what it sees lies outside what the region writes. -/
theorem DCallB.pic {P : Program} {S : Nat → Bool} {H : AH} {g : FuncId} {args ps : List AV} {r : AV} {K : AV → Prop} {w : Box K} (ha : Pict (maskH S H) args ps) (h : QCall P g ps r) (hs : scalA r = true) (k : K r) : DCallB P (.fn g []) args S H K w :=
  ⟨⟨r, by
    rw [List.append_nil]
    exact fun H2 nx2 hm => callC_pic (Pict.mask hm ha) h hs, k⟩⟩
/-- What is not needed any more. -/
theorem CallC.kill {P : Program} {f : FuncId} {args : List AV} {nx : Nat} {r : AV} {H1 H2 : AH} {n1 : Nat} (h : CallC P f args H nx r H1 n1) (hk : ∀ i, H2 i = H1 i ∨ H2 i = .dead) : CallC P f args H nx r H2 n1 := by
  refine ⟨h.1, fun base κ vs hi hr => (h.2 base κ vs hi hr).mono ?_⟩
  rintro e W' ⟨v, κ', rfl, rfl, hrep, hext, hinv⟩
  refine ⟨v, κ', rfl, rfl, hrep, hext, hinv.hF, hinv.hbase, hinv.hM, fun id ver cells hl => ?_, fun i j ei ej b hij h1 h2 h3 h4 => ?_, hinv.tab⟩
  · rcases hk id with e | e
    · exact hinv.live id ver cells (by rw [← e]; exact hl)
    · rw [e] at hl; cases hl
  · rcases hinv.inj i j ei ej b hij h1 h2 h3 h4 with e | e
    · left; rcases hk i with e' | e' <;> simp_all
    · right; rcases hk j with e' | e' <;> simp_all
/-- And the answer is the caller's own, too. -/
theorem callC_picnew {P : Program} {f : FuncId} {args : List AV} {nx : Nat} {r : AV} {H1 : AH} {n1 : Nat} (ha : Pict H args ps) (h : CallC P f ps noH 0 r H1 n1) (ho : ownA r = true)
    (hO : ∀ i ver cells, H1 i = .live ver cells → ownL cells = true) {H2 : AH} (g1 : ∀ i, i < nx → H2 i = H i) (g2 : ∀ i, i < n1 → H2 (nx + i) = shB nx (H1 i)) (g3 : ∀ i, nx + n1 ≤ i → H2 i = H i ∨ H2 i = .dead) :
    CallC P f args H nx (shA nx r) H2 (nx + n1) := by
  refine ⟨h.1, fun base κ vs hi hr => ?_⟩
  have live : ∀ b, liveB κ H b → b < κ.W.heap.size := by
    rintro b ⟨id, ver, cells, e, h1, h2, h3⟩
    obtain ⟨e', he', _, hh⟩ := hi.live id ver cells h1
    rw [h2] at he'
    cases he'
    exact hh.lt h3
  have hF0 : ∀ b, (κ.F b ∨ liveB κ H b) → b < κ.W.heap.size := fun b hb => hb.elim (hi.hF b) (live b)
  have hi0 : Inv κ.W.heap.size ⟨κ.W, fun _ => none, fun b => κ.F b ∨ liveB κ H b⟩ noH 0 := ⟨hF0, Nat.le_refl _, (fun _ _ => rfl), (fun id ver cells h => by cases h), (fun i j ei ej b _ h _ _ _ => by cases h), hi.tab.up hi.hbase⟩
  have hr0 : Reps ⟨κ.W, fun _ => none, fun b => κ.F b ∨ liveB κ H b⟩ vs ps := ha _ _ _ hi _ _ (fun b hb => .inl hb) (fun b hb => .inr hb) _ hr
  refine (h.2 _ _ vs hi0 hr0).mono ?_
  rintro e W' ⟨v, κ', rfl, rfl, hrep, hext, hinv⟩
  have hMs : ∀ i e, κ'.M i = some e → (fun i => if i < nx then κ.M i else κ'.M (i - nx)) (nx + i) = some e := by
    intro i e he
    have : ¬ nx + i < nx := by omega
    simp only [if_neg this, Nat.add_sub_cancel_left, he]
  have hlt : ∀ id e, κ.M id = some e → id < nx := fun id e he => Nat.lt_of_not_le fun h => by rw [hi.hM id h] at he; cases he
  have ev : Ev κ ⟨κ'.W, fun i => if i < nx then κ.M i else κ'.M (i - nx), κ.F⟩ :=
    ⟨fun b hb => ⟨hb, (hext.ev.fr b (.inl hb)).2⟩, fun id e he => ⟨e, by simp only [if_pos (hlt id e he), he], .inr rfl⟩, hext.ev.shp⟩
  refine ⟨v, ⟨κ'.W, fun i => if i < nx then κ.M i else κ'.M (i - nx), κ.F⟩, rfl, rfl, hrep.shift hMs ho, ?_, ?_⟩
  · exact ⟨ev, hext.os, hext.tape, hext.output, hext.size, fun b hb => hext.below b (Nat.lt_of_lt_of_le hb hi.hbase), fun b hb => .inl hb⟩
  · -- what lives behind it
    have old : ∀ {id ver cells}, id < nx → H2 id = .live ver cells → H id = .live ver cells := fun h1 h2 => by rw [← g1 _ h1]; exact h2
    have new : ∀ {id ver cells}, ¬ id < nx → H2 id = .live ver cells → ∃ cells0, H1 (id - nx) = .live ver cells0 ∧ cells = shL nx cells0 := by
      intro id ver cells h1 h2
      by_cases h3 : nx + n1 ≤ id
      · rcases g3 id h3 with h4 | h4
        · rw [h4] at h2
          obtain ⟨e, he, _⟩ := hi.live id ver cells h2
          rw [hi.hM id (by omega)] at he
          cases he
        · rw [h4] at h2; cases h2
      · have := g2 (id - nx) (by omega)
        rw [show nx + (id - nx) = id by omega, h2] at this
        cases hh : H1 (id - nx) with
        | dead => rw [hh] at this; cases this
        | live v0 c0 =>
          rw [hh] at this
          simp only [shB, ABlk.live.injEq] at this
          obtain ⟨rfl, rfl⟩ := this
          exact ⟨c0, rfl, rfl⟩
    refine ⟨fun b hb => Nat.lt_of_lt_of_le (hi.hF b hb) hext.size, Nat.le_trans hi.hbase hext.size, fun id hid => ?_, fun id ver cells hl => ?_, fun i j ei ej b hij h1 h2 h3 h4 => ?_, hi.tab.keep fun b hb => hext.below b (Nat.lt_of_lt_of_le hb hi.hbase)⟩
    · have : ¬ id < nx := by omega
      simp only [if_neg this]
      exact hinv.hM _ (by omega)
    · by_cases hid : id < nx
      · obtain ⟨e, he, hv, hh⟩ := hi.live id ver cells (old hid hl)
        exact ⟨e, by simp only [if_pos hid, he], hv, hh.ev ev (fun b hb _ hn hc => hn hc) (fun b hb => hext.below b (hh.lt hb))⟩
      · obtain ⟨c0, hc0, rfl⟩ := new hid hl
        obtain ⟨e, he, hv, hh⟩ := hinv.live _ _ _ hc0
        refine ⟨e, by simp only [if_neg hid, he], hv, ?_⟩
        unfold Held at *
        cases hb : e.blk with
        | none => rw [hb] at hh; simp only at hh ⊢; rw [hh]; rfl
        | some b =>
          rw [hb] at hh
          obtain ⟨q1, q2, us, rest, T, q3, q4, q5⟩ := hh
          refine ⟨Nat.le_trans hi.hbase q1, fun hc => ?_, us, rest, T, q3, q4, ?_⟩
          · have := hi.hF b hc
            omega
          · refine ⟨by rw [shL_map]; simp [q5.1], fun j u a e1 e2 => ?_⟩
            rw [shL_map, List.getElem?_map] at e2
            cases hc : c0[j]? with
            | none => rw [hc] at e2; cases e2
            | some x => rw [hc] at e2; cases e2; exact (q5.2 j u x e1 hc).shift hMs (ownL_get (hO _ _ _ hc0) hc)
    · -- no block twice
      simp only at h1 h2
      have mixed : ∀ {i j : Nat} {ei ej : Ent}, i < nx → ¬ j < nx → κ.M i = some ei → κ'.M (j - nx) = some ej → ei.blk = some b → ej.blk = some b → H2 i = .dead ∨ H2 j = .dead := by
        intro i j ei ej hi' hj' h1 h2 h3 h4
        cases hd : H2 i with
        | dead => exact .inl rfl
        | live v1 c1 =>
          cases hd2 : H2 j with
          | dead => exact .inr rfl
          | live v2 c2 =>
            exfalso
            obtain ⟨e, he, _, hh⟩ := hi.live _ _ _ (old hi' hd)
            rw [h1] at he
            cases he
            have l1 := hh.lt h3
            obtain ⟨c0, hc0, rfl⟩ := new hj' hd2
            obtain ⟨e, he, _, hh⟩ := hinv.live _ _ _ hc0
            rw [h2] at he
            cases he
            unfold Held at hh
            rw [h4] at hh
            have := hh.1
            omega
      by_cases hi1 : i < nx
      · rw [if_pos hi1] at h1
        by_cases hj1 : j < nx
        · rw [if_pos hj1] at h2
          rw [g1 i hi1, g1 j hj1]
          exact hi.inj i j ei ej b hij h1 h2 h3 h4
        · rw [if_neg hj1] at h2
          exact mixed hi1 hj1 h1 h2 h3 h4
      · rw [if_neg hi1] at h1
        by_cases hj1 : j < nx
        · rw [if_pos hj1] at h2
          exact (mixed hj1 hi1 h2 h1 h4 h3).symm
        · rw [if_neg hj1] at h2
          rcases hinv.inj (i - nx) (j - nx) ei ej b (by omega) h1 h2 h3 h4 with h | h
          · left
            cases hd : H2 i with
            | dead => rfl
            | live v1 c1 => obtain ⟨c0, hc0, _⟩ := new hi1 hd; rw [h] at hc0; cases hc0
          · right
            cases hd : H2 j with
            | dead => rfl
            | live v1 c1 => obtain ⟨c0, hc0, _⟩ := new hj1 hd; rw [h] at hc0; cases hc0
/-- What is made anew may be looked at from then on. -/
theorem QCall.own {P : Program} {f : FuncId} {args : List AV} {p : AV} (hp : pureL args = true) (h : ACallD P f args noH 0 fun r H' n' => OwnR H' 0 n' p r) : QCall P f args p := by
  intro H nx
  refine ⟨h.toA.1, fun base κ vs hi hr => ?_⟩
  -- the callee's own state
  have hi0 : Inv κ.W.heap.size ⟨κ.W, fun _ => none, κ.F⟩ noH 0 := ⟨hi.hF, Nat.le_refl _, (fun _ _ => rfl), (fun id ver cells h => by cases h), (fun i j ei ej b _ h _ _ _ => by cases h), hi.tab.up hi.hbase⟩
  have hr0 : Reps ⟨κ.W, fun _ => none, κ.F⟩ vs args := ⟨hr.1, fun j v a h1 h2 => (hr.2 j v a h1 h2).pure (pureL_get hp h2)⟩
  obtain ⟨r0, H0, n0, hc, hown⟩ := h
  obtain ⟨S, hO, _, _⟩ := hown
  refine (hc.2 _ _ vs hi0 hr0).mono ?_
  rintro e W' ⟨v, κ', rfl, rfl, hrep, hext, hinv⟩
  let F2 : Nat → Prop := fun b => κ'.F b ∨ liveB κ' H0 b
  have newF : ∀ b, F2 b → κ.F b ∨ κ.W.heap.size ≤ b := by
    rintro b (hb | ⟨id, ver, cells, e, h1, h2, h3⟩)
    · exact hext.newF b hb
    · obtain ⟨e', he', _, hh⟩ := hinv.live id ver cells h1
      rw [h2] at he'
      cases he'
      unfold Held at hh
      rw [h3] at hh
      exact .inr hh.1
  have ev : Ev κ ⟨κ'.W, κ.M, F2⟩ := ⟨fun b hb => ⟨.inl (hext.ev.fr b hb).1, (hext.ev.fr b hb).2⟩, fun id e he => ⟨e, he, .inr rfl⟩, hext.ev.shp⟩
  refine ⟨v, ⟨κ'.W, κ.M, F2⟩, rfl, rfl, (hO.reps (κ := κ') (F' := F2) (M' := κ.M) hinv (fun b hb => .inl hb) (fun b hb => .inr hb) (vs := [v]) (Reps.cons hrep (Reps.nil _))).2 0 v _ rfl rfl, ?_, ?_⟩
  · refine ⟨ev, hext.os, hext.tape, hext.output, hext.size, fun b hb => hext.below b (Nat.lt_of_lt_of_le hb hi.hbase), fun b hb => ?_⟩
    rcases newF b hb with h' | h'
    · exact .inl h'
    · exact .inr (Nat.le_trans hi.hbase h')
  · refine ⟨fun b hb => ?_, Nat.le_trans hi.hbase hext.size, hi.hM, fun id ver cells hl => ?_, hi.inj, hi.tab.keep fun b hb => hext.below b (Nat.lt_of_lt_of_le hb hi.hbase)⟩
    · rcases hb with hb | ⟨id, ver, cells, e, h1, h2, h3⟩
      · exact hinv.hF b hb
      · obtain ⟨e', he', _, hh⟩ := hinv.live id ver cells h1
        rw [h2] at he'
        cases he'
        exact hh.lt h3
    · obtain ⟨e, he, hv, hh⟩ := hi.live id ver cells hl
      refine ⟨e, he, hv, hh.ev ev (fun b hb _ hn hc => ?_) (fun b hb => hext.below b (hh.lt hb))⟩
      rcases newF b hc with h' | h'
      · exact hn h'
      · have := hh.lt hb
        omega
theorem OwnL.untup {qs : List AV} {a : AV} (h : OwnL false H S [.tup qs] [a]) : ∃ bs, a = .tup bs ∧ OwnL false H S qs bs := by
  cases h with
  | leaf h e t =>
    cases a with
    | tup cs =>
      rw [looseA_tup] at e
      injection e with e
      cases t
      exact ⟨cs, rfl, by rw [e]; exact OwnL.ofScal (by simpa [scalA] using h)⟩
    | _ => simp [looseA] at e
  | tup h1 h2 hS => cases h2; exact ⟨_, rfl, by rw [hS]; simpa using h1⟩
theorem OwnL.unagg {qs : List AV} {a : AV} (h : OwnL false H S [.agg qs] [a]) : ∃ bs, a = .agg bs ∧ OwnL false H S qs bs := by
  cases h with
  | leaf h e t =>
    cases a with
    | agg cs =>
      rw [looseA_agg] at e
      injection e with e
      cases t
      exact ⟨cs, rfl, by rw [e]; exact OwnL.ofScal (by simpa [scalA] using h)⟩
    | _ => simp [looseA] at e
  | agg h1 h2 hS => cases h2; exact ⟨_, rfl, by rw [hS]; simpa using h1⟩
/-- Made anew by a callee that only reads. -/
theorem ACallD.fresh {P : Program} {f : FuncId} {args : List AV} {nx : Nat} {Q : AV → AH → Nat → Prop} {p : AV} (ha : Pict H args ps)
    (h : ACallD P f ps noH 0 fun r H1 n1 => OwnR H1 0 n1 p r)
    (k : ∀ r H2 n2, OwnR H2 nx n2 p r → nx ≤ n2 → (∀ i, i < nx → H2 i = H i) → Q r H2 n2) : ACallD P f args H nx Q := by
  obtain ⟨r, H1, n1, h1, S1, hO, hN, hlt⟩ := h
  have h2 : CallC P f ps noH 0 r (fun i => if i ∈ S1 then H1 i else .dead) n1 := h1.kill fun i => by
    by_cases e : i ∈ S1
    · left; simp [e]
    · right; simp [e]
  have hO' : OwnL false (fun i => if i ∈ S1 then H1 i else .dead) S1 [p] [r] := hO.congr fun i hi => by simp [hi]
  have ho : ownA r = true := by have := hO.own; simpa [ownL] using this
  have hO2 : ∀ i ver cells, (fun i => if i ∈ S1 then H1 i else ABlk.dead) i = .live ver cells → ownL cells = true := by
    intro i ver cells e
    by_cases hi : i ∈ S1
    · obtain ⟨v', c', e1, e2⟩ := hO'.live i hi
      simp only [hi, if_true] at e e1
      rw [e] at e1
      cases e1
      exact e2
    · simp [hi] at e
  let H2 : AH := fun i => if i < nx then H i else if i < nx + n1 then shB nx ((fun i => if i ∈ S1 then H1 i else ABlk.dead) (i - nx)) else H i
  have hc := callC_picnew (nx := nx) ha h2 ho hO2 (H2 := H2) (fun i hi => by simp [H2, hi]) (fun i hi => by
    have e1 : ¬ nx + i < nx := by omega
    have e2 : nx + i < nx + n1 := by omega
    simp only [H2, e1, e2, if_false, if_true, Nat.add_sub_cancel_left]) (fun i hi => by
    left
    have e1 : ¬ i < nx := by omega
    have e2 : ¬ i < nx + n1 := by omega
    simp only [H2, e1, e2, if_false])
  have hsh := hO'.shift (H' := H2) (n := nx) fun i hi => by
    have e1 : ¬ nx + i < nx := by omega
    have e2 : nx + i < nx + n1 := by have := hlt i hi; omega
    simp only [H2, e1, e2, if_false, if_true, Nat.add_sub_cancel_left]
  refine ⟨_, _, _, hc, k _ _ _ ⟨_, hsh, ?_, ?_⟩ (by omega) (fun i hi => by simp [H2, hi])⟩
  · exact List.Pairwise.map (R := (· ≠ ·)) _ (fun a b hab => by simp; omega) hN
  · intro i hi
    obtain ⟨j, hj, rfl⟩ := List.mem_map.1 hi
    have := hlt j hj
    omega
theorem CallB.fresh {P : Program} {f : FuncId} {args : List AV} {nx : Nat} {K : AV → AH → Nat → Prop} {w : Box K} {p : AV} (ha : Pict H args ps)
    (h : ACallD P f ps noH 0 fun r H1 n1 => OwnR H1 0 n1 p r)
    (k : ∀ r H2 n2, OwnR H2 nx n2 p r → nx ≤ n2 → (∀ i, i < nx → H2 i = H i) → K r H2 n2) : CallB P f args H nx K w := ⟨ACallD.fresh ha h k⟩
end Go.TH

/-
  TH, part 43: marks: plain.
-/
set_option linter.unusedVariables false
set_option linter.unusedSimpArgs false
namespace Go.TH
open Go
/-- The digits of a number. -/
def digL (n : Nat) : List UInt8 := if h : n = 0 then [] else digL (n / 10) ++ [UInt8.ofNat (48 + n % 10)]
termination_by n
decreasing_by omega
def mText (k : Int) : ByteArray := if k ≤ 0 then ⟨#[109, 48]⟩ else ⟨(109 :: digL k.toNat).toArray⟩
theorem digL_zero : digL 0 = [] := by unfold digL; simp
theorem digL_pos {n : Nat} (h : 0 < n) : digL n = digL (n / 10) ++ [UInt8.ofNat (48 + n % 10)] := by
  conv => lhs; unfold digL
  rw [dif_neg (by omega)]
theorem digL_le (n : Nat) : (digL n).length ≤ n := by
  induction n using Nat.strongRecOn with
  | ind n ih =>
    by_cases h : 0 < n
    · rw [digL_pos h]
      have := ih (n / 10) (by omega)
      simp
      omega
    · obtain rfl : n = 0 := by omega
      rw [digL_zero]
      exact Nat.le_refl 0
theorem dig_size {k n : Int} {o : ByteArray} (h : digL k.toNat = digL n.toNat ++ o.data.toList) : o.size ≤ k.toNat := by
  have e := congrArg List.length h
  have := digL_le k.toNat
  have e2 : o.size = o.data.toList.length := by rw [Array.length_toList]; rfl
  rw [List.length_append] at e
  omega
theorem dig_step {k n : Int} {o : ByteArray} (h : digL k.toNat = digL n.toNat ++ o.data.toList) (h0 : 0 < n) : digL k.toNat = digL (n / 10).toNat ++ (bytesA [.int .u8 (IntKind.u8.wrap (48 + n % 10))] ++ o).data.toList := by
  rw [h, digL_pos (by omega)]
  have e1 : n.toNat / 10 = (n / 10).toNat := by omega
  have e2 : (bytesA [.int .u8 (IntKind.u8.wrap (48 + n % 10))]).data.toList = [UInt8.ofNat (48 + n.toNat % 10)] := by
    have : IntKind.u8.wrap (48 + n % 10) = 48 + n % 10 := by rw [IntKind.wrap_u8]; omega
    have e3 : (48 + n % 10).toNat = 48 + n.toNat % 10 := by omega
    rw [this, ← e3]
    rfl
  rw [e1, ByteArray.data_append, Array.toList_append, e2]
  simp
section
variable {α : Type}
/-- The marks of 'n' parts from 'k' on, 'w' numbers a part. -/
def mks (mk : Int → α) (w : Int) (n : Nat) (k : Int) : List α := (List.range n).map fun i : Nat => mk (k + w * (i : Int))
@[simp] theorem mks_len (mk : Int → α) (w : Int) (n : Nat) (k : Int) : (mks mk w n k).length = n := by simp [mks]
@[simp] theorem mks_get (mk : Int → α) (w : Int) (n : Nat) (k : Int) {i : Nat} (h : i < (mks mk w n k).length) : (mks mk w n k)[i] = mk (k + w * i) := by simp [mks]
/-- The first ones of one list, the others of another one. -/
def mixL (a l : List α) (i : Nat) : List α := a.take i ++ l.drop i
theorem mixL_zero (a l : List α) : mixL a l 0 = l := by simp [mixL]
theorem mixL_all {a l : List α} {n : Nat} (h1 : a.length = n) (h2 : l.length = n) : mixL a l n = a := by
  subst h1
  simp [mixL, List.drop_eq_nil_of_le (Nat.le_of_eq h2)]
theorem mixL_len {a l : List α} (h : a.length = l.length) (i : Nat) : (mixL a l i).length = l.length := by simp [mixL]; omega
theorem mixL_at {a l : List α} (h : a.length = l.length) {i : Nat} (hi : i < l.length) : mixL a l i = a.take i ++ l[i] :: l.drop (i + 1) := by
  rw [mixL, List.drop_eq_getElem_cons hi]
theorem mixL_step {a l : List α} (h : a.length = l.length) {i : Nat} (hi : i < a.length) : mixL a l (i + 1) = a.take i ++ a[i] :: l.drop (i + 1) := by
  rw [mixL, List.take_add_one, List.getElem?_eq_getElem hi]
  simp only [Option.toList_some, List.append_assoc, List.cons_append, List.nil_append]
end
theorem flat_mix_len {α : Type} {c : α → List AV} {sz : Nat} (hc : ∀ a, (c a).length = sz) {a l : List α} (h : a.length = l.length) (i : Nat) : (flat c (mixL a l i)).length = l.length * sz := by rw [flat_len hc, mixL_len h]
theorem flat_mix_set {α : Type} {c : α → List AV} {sz : Nat} (hc : ∀ a, (c a).length = sz) {a l : List α} (h : a.length = l.length) {i : Nat} (hi : i < a.length) {L : List AV} (hL : L = c a[i]) :
    (flat c (mixL a l i)).take (i * sz) ++ L ++ (flat c (mixL a l i)).drop (i * sz + sz) = flat c (mixL a l (i + 1)) := by
  subst hL
  have hl : (a.take i).length = i := by simp; omega
  have e1 : (flat c (a.take i)).length = i * sz := by rw [flat_len hc, hl]
  have hi' : i < l.length := by omega
  rw [mixL_at h hi', mixL_step h hi, flat_append, flat_append, flat_cons, flat_cons, ← e1, List.take_left, ← hc l[i], ← List.append_assoc, ← List.length_append, List.drop_left, List.append_assoc]
/-- Cells written anew, one after the other. -/
def setL (l : List AV) (m : Nat) (xs : List AV) : List AV := l.take m ++ xs ++ l.drop (m + xs.length)
theorem setL_len {l : List AV} {m : Nat} {xs : List AV} (h : m + xs.length ≤ l.length) : (setL l m xs).length = l.length := by
  simp [setL]; omega
theorem setL_snoc {l : List AV} {m : Nat} {xs : List AV} {x : AV} (h : m + xs.length < l.length) : (setL l m xs).take (m + xs.length) ++ [x] ++ (setL l m xs).drop (m + xs.length + 1) = setL l m (xs ++ [x]) := by
  have e : (l.take m ++ xs).length = m + xs.length := by simp; omega
  have e2 : (setL l m xs).take (m + xs.length) = l.take m ++ xs := by unfold setL; rw [← e, List.take_left]
  have e3 : (setL l m xs).drop (m + xs.length + 1) = l.drop (m + xs.length + 1) := by
    unfold setL
    rw [← e, ← List.drop_drop, List.drop_left, List.drop_drop, e]
  rw [e2, e3]
  unfold setL
  simp only [List.length_append, List.length_cons, List.length_nil, List.append_assoc, ← Nat.add_assoc, Nat.add_zero]
theorem put_1 {l : List AV} {m : Nat} {x : AV} (h : m + 1 ≤ l.length) : l.take m ++ [x] ++ l.drop (m + 1) = setL l m [x] := rfl
theorem put_1z {l : List AV} {x : AV} (h : 1 ≤ l.length) : [x] ++ l.drop 1 = setL l 0 [x] := rfl
theorem put_2 {l : List AV} {m : Nat} {a x : AV} (h : m + 2 ≤ l.length) : (setL l m [a]).take (m + 1) ++ [x] ++ (setL l m [a]).drop (m + 1 + 1) = setL l m [a, x] := setL_snoc (xs := [a]) (by simp only [List.length_cons, List.length_nil]; omega)
theorem setL_len1 {l : List AV} {m : Nat} {a : AV} (h : m + 1 ≤ l.length) : (setL l m [a]).length = l.length := setL_len (by simp only [List.length_cons, List.length_nil]; omega)
theorem put_3 {l : List AV} {m : Nat} {a b x : AV} (h : m + 3 ≤ l.length) : (setL l m [a, b]).take (m + 2) ++ [x] ++ (setL l m [a, b]).drop (m + 2 + 1) = setL l m [a, b, x] := setL_snoc (xs := [a, b]) (by simp only [List.length_cons, List.length_nil]; omega)
theorem setL_len2 {l : List AV} {m : Nat} {a b : AV} (h : m + 2 ≤ l.length) : (setL l m [a, b]).length = l.length := setL_len (by simp only [List.length_cons, List.length_nil]; omega)
theorem put_4 {l : List AV} {m : Nat} {a b c x : AV} (h : m + 4 ≤ l.length) : (setL l m [a, b, c]).take (m + 3) ++ [x] ++ (setL l m [a, b, c]).drop (m + 3 + 1) = setL l m [a, b, c, x] := setL_snoc (xs := [a, b, c]) (by simp only [List.length_cons, List.length_nil]; omega)
theorem setL_len3 {l : List AV} {m : Nat} {a b c : AV} (h : m + 3 ≤ l.length) : (setL l m [a, b, c]).length = l.length := setL_len (by simp only [List.length_cons, List.length_nil]; omega)
theorem put_5 {l : List AV} {m : Nat} {a b c d x : AV} (h : m + 5 ≤ l.length) : (setL l m [a, b, c, d]).take (m + 4) ++ [x] ++ (setL l m [a, b, c, d]).drop (m + 4 + 1) = setL l m [a, b, c, d, x] := setL_snoc (xs := [a, b, c, d]) (by simp only [List.length_cons, List.length_nil]; omega)
theorem setL_len4 {l : List AV} {m : Nat} {a b c d : AV} (h : m + 4 ≤ l.length) : (setL l m [a, b, c, d]).length = l.length := setL_len (by simp only [List.length_cons, List.length_nil]; omega)
theorem put_6 {l : List AV} {m : Nat} {a b c d e x : AV} (h : m + 6 ≤ l.length) : (setL l m [a, b, c, d, e]).take (m + 5) ++ [x] ++ (setL l m [a, b, c, d, e]).drop (m + 5 + 1) = setL l m [a, b, c, d, e, x] := setL_snoc (xs := [a, b, c, d, e]) (by simp only [List.length_cons, List.length_nil]; omega)
theorem setL_len5 {l : List AV} {m : Nat} {a b c d e : AV} (h : m + 5 ≤ l.length) : (setL l m [a, b, c, d, e]).length = l.length := setL_len (by simp only [List.length_cons, List.length_nil]; omega)
theorem put_7 {l : List AV} {m : Nat} {a b c d e f x : AV} (h : m + 7 ≤ l.length) : (setL l m [a, b, c, d, e, f]).take (m + 6) ++ [x] ++ (setL l m [a, b, c, d, e, f]).drop (m + 6 + 1) = setL l m [a, b, c, d, e, f, x] := setL_snoc (xs := [a, b, c, d, e, f]) (by simp only [List.length_cons, List.length_nil]; omega)
theorem setL_len6 {l : List AV} {m : Nat} {a b c d e f : AV} (h : m + 6 ≤ l.length) : (setL l m [a, b, c, d, e, f]).length = l.length := setL_len (by simp only [List.length_cons, List.length_nil]; omega)
theorem setL_mix {α : Type} {c : α → List AV} {sz : Nat} (hc : ∀ a, (c a).length = sz) {a l : List α} (h : a.length = l.length) {i : Nat} (hi : i < a.length) {L : List AV} (hL : L = c a[i]) : setL (flat c (mixL a l i)) (i * sz) L = flat c (mixL a l (i + 1)) := by
  have := flat_mix_set hc h hi hL
  unfold setL
  rwa [hL, hc, ← hL]
theorem setL_mix1 {α : Type} {c : α → List AV} {a l : List α} (h : a.length = l.length) {i : Nat} (hi : i < a.length) {L : List AV} (hL : L = c a[i]) (hc : ∀ a, (c a).length = 1) : setL (flat c (mixL a l i)) i L = flat c (mixL a l (i + 1)) := by
  have := setL_mix hc h hi hL
  rwa [Nat.mul_one] at this
/-- A slice without parts. -/
def Empty0 (H : AH) (a : AV) : Prop := (∃ t, a = .sl 0 t []) ∨ ∃ id ver sz, a = .msl id ver sz 0 0 ∧ H id = .live ver []
theorem flat_plain {α : Type} {c : α → List AV} (hp : ∀ a, ∀ p ∈ c a, plainA p = true) (l : List α) : ∀ p ∈ flat c l, plainA p = true := by
  intro p h
  obtain ⟨a, _, h2⟩ := List.mem_flatMap.1 h
  exact hp a p h2
theorem OwnR.flat {α : Type} {c : α → List AV} {sz : Nat} (hc : ∀ a, (c a).length = sz) (hp : ∀ a, ∀ p ∈ c a, plainA p = true) {H : AH} {l : List α} {id ver lo hi : Nat} (hH : H id = .live ver (flat c l)) (h1 : lo ≤ id) (h2 : id < hi) : OwnR H lo hi (.sl l.length false (flat c l)) (.msl id ver sz 0 l.length) :=
  ⟨[id], .sl hH (flat_len hc l) (OwnL.ofPlain (flat_plain hp l)) .nil (by simp), by simp, fun i hi => by simp at hi; omega⟩
theorem mark_flat {P : Program} {f : FuncId} {α : Type} {c : α → List AV} {sz : Nat} (hc : ∀ a, (c a).length = sz) (hp : ∀ a, ∀ p ∈ c a, plainA p = true) (hsz : 0 < sz) {mk : Int → α} {w : Int} {H : AH} {S : List Nat} {nx : Nat} {a : AV} (l : List α) (k : Int)
    (hz : ∀ a, Empty0 H a → ACallD P f [a, .int .i64 k] H nx (fun r H' nx' => r = .int .i64 k ∧ H' = H ∧ nx' = nx))
    (h0 : ∀ id ver, H id = .live ver (flat c l) → ACallD P f [.msl id ver sz 0 l.length, .int .i64 k] H nx (fun r H' nx' => r = .int .i64 (k + w * l.length) ∧ H' = upd H id (.live ver (flat c (mks mk w l.length k))) ∧ nx' = nx))
    (hO : OwnL false H S [.sl l.length false (flat c l)] [a]) :
    ACallD P f [a, .int .i64 k] H nx (fun r H' nx' => r = .int .i64 (k + w * l.length) ∧ OwnL false H' S [.sl (mks mk w l.length k).length false (flat c (mks mk w l.length k))] [a] ∧ (∀ i, i ∉ S → H' i = H i) ∧ nx' = nx) := by
  have zero : l = [] → Empty0 H a → ACallD P f [a, .int .i64 k] H nx (fun r H' nx' => r = .int .i64 (k + w * l.length) ∧ OwnL false H' S [.sl (mks mk w l.length k).length false (flat c (mks mk w l.length k))] [a] ∧ (∀ i, i ∉ S → H' i = H i) ∧ nx' = nx) := by
    intro e he
    subst e
    refine (hz a he).mono fun r H' nx' ⟨e1, e2, e3⟩ => ?_
    subst e2
    exact ⟨by rw [e1]; simp, by simpa [mks] using hO, fun _ _ => rfl, e3⟩
  rcases hO.unsl with ⟨id, ver, sz', ac, S1, rfl, hl, hlen, h1, rfl⟩ | ⟨t, rfl, e1, rfl⟩
  · obtain ⟨rfl, rfl⟩ := h1.plain (flat_plain hp l)
    by_cases hn : 0 < l.length
    · have hs : sz' = sz := by
        rw [flat_len hc] at hlen
        exact (Nat.eq_of_mul_eq_mul_left hn hlen).symm
      subst hs
      refine (h0 id ver hl).mono fun r H' nx' ⟨e1, e2, e3⟩ => ?_
      subst e2
      have k1 : OwnL false (upd H id (.live ver (flat c (mks mk w l.length k)))) [id] [.sl (mks mk w l.length k).length false (flat c (mks mk w l.length k))] [.msl id ver sz' 0 (mks mk w l.length k).length] :=
        .sl (upd_same ..) (flat_len hc _) (OwnL.ofPlain (flat_plain hp _)) .nil (by simp)
      exact ⟨e1, by simpa using k1, fun i hi => upd_ne _ _ (by simpa using hi), e3⟩
    · obtain rfl : l = [] := List.eq_nil_of_length_eq_zero (by omega)
      exact zero rfl (.inr ⟨id, ver, _, rfl, hl⟩)
  · have hl0 : l = [] := by
      have := flat_len hc l
      rw [e1] at this
      have h2 : l.length * sz = 0 := this.symm
      rcases Nat.mul_eq_zero.1 h2 with h3 | h3
      · exact List.eq_nil_of_length_eq_zero h3
      · omega
    subst hl0
    exact zero rfl (.inl ⟨t, rfl⟩)
end Go.TH
