/-
  TH, part 26: loops over what stands in the frame; empty slices that get a place; what a callee keeps.
-/
import Derived.Test.YtbhibkochjfdfaaTh25
set_option linter.unusedVariables false
set_option linter.unusedSimpArgs false
namespace Go.TH
open Go

/-- Some slots of a frame, kept or put anew; the others are forgotten. Told by gaps. -/
def kT : List AV → List (Nat × Option AV) → List AV
  | [], _ => []
  | _ :: T, [] => .junk :: kT T []
  | a :: T, (0, o) :: l => o.getD a :: kT T l
  | _ :: T, (n + 1, o) :: l => .junk :: kT T ((n, o) :: l)
theorem kT_nil {l : List (Nat × Option AV)} : kT [] l = [] := by cases l <;> rfl
theorem kT_end {a : AV} {T : List AV} : kT (a :: T) [] = .junk :: kT T [] := rfl
theorem kT_keep {a : AV} {T : List AV} {l : List (Nat × Option AV)} : kT (a :: T) ((0, none) :: l) = a :: kT T l := rfl
theorem kT_put {a b : AV} {T : List AV} {l : List (Nat × Option AV)} : kT (a :: T) ((0, some b) :: l) = b :: kT T l := rfl
theorem kT_gap {a : AV} {T : List AV} {n : Nat} {o : Option AV} {l : List (Nat × Option AV)} : kT (a :: T) ((n + 1, o) :: l) = .junk :: kT T ((n, o) :: l) := rfl
section
variable {body : (AEx → ASt → Prop) → ASt → Prop} {Q : AEx → ASt → Prop} {w : Box body} {w2 : Box Q} {T : List AV} {H : AH} {nx : Nat}
theorem LoopB.vary {ι : Type} (up : ι → List (Nat × Option AV)) (Hf : ι → AH) (nf : ι → Nat) (μ : ι → Nat) (G : ι → Prop) (i : ι) (h0 : Weak ⟨T, H, nx⟩ ⟨kT T (up i), Hf i, nf i⟩) (hG : G i)
    (step : ∀ i, G i → body (LQ (fun i => ⟨kT T (up i), Hf i, nf i⟩) μ G i Q) ⟨kT T (up i), Hf i, nf i⟩) : LoopB body Q ⟨T, H, nx⟩ w w2 :=
  LoopB.intro _ μ G i h0 hG step
theorem LoopB.weak {s0 s : ASt} (hw : Weak s s0) (h : LoopB body Q s0 .mk .mk) : LoopB body Q s w w2 := by
  obtain ⟨R, n, ⟨s1, h1, h2⟩, h3⟩ := h
  exact ⟨R, n, ⟨s1, hw.trans h1, h2⟩, h3⟩
theorem Weak.go {T T0 : List AV} {H H0 : AH} {nx nx0 : Nat} (h : wkL T T0) (hh : ∀ id, H0 id = H id ∨ H0 id = .dead) (hn : nx ≤ nx0) : Weak ⟨T, H, nx⟩ ⟨T0, H0, nx0⟩ := Weak0.toW ⟨h, hh, hn⟩
theorem Weak.eq {T T0 : List AV} {H H0 : AH} {nx nx0 : Nat} (h : wkL T T0) (hh : H0 = H) (hn : nx ≤ nx0) : Weak ⟨T, H, nx⟩ ⟨T0, H0, nx0⟩ := Weak0.toW ⟨h, fun id => .inl (by rw [hh]), hn⟩
/-- An empty slice gets a place of its own. -/
theorem Weak.nil (k sz : Nat) (h : T[k]? = some (.sl 0 true [])) : Weak ⟨T, H, nx⟩ ⟨T.set k (.msl nx 0 sz 0 0), upd H nx (.live 0 []), nx + 1⟩ := by
  intro base κ a hs
  let κ' : Cx := ⟨κ.W, fun i => if i = nx then some ⟨0, none⟩ else κ.M i, κ.F⟩
  have hne : ∀ id e, κ.M id = some e → id ≠ nx := fun id e he h => by subst h; rw [hs.inv.hM _ (Nat.le_refl _)] at he; cases he
  have ev : Ev κ κ' := ⟨fun b hb => ⟨hb, rfl⟩, fun id e he => ⟨e, by simp [κ', hne id e he, he], .inr rfl⟩, fun b cs T fz hb => ⟨cs, fz, hb, rfl⟩⟩
  refine ⟨κ', rfl, ⟨⟨hs.inv.hF, hs.inv.hbase, fun id hid => ?_, fun id ver cells hl => ?_, fun i j ei ej b hij h1 h2 h3 h4 => ?_⟩, ?_, hs.defers⟩, ⟨ev, rfl, rfl, rfl, Nat.le_refl _, fun _ _ => rfl, fun _ h => .inl h⟩⟩
  · have : id ≠ nx := by simp only at hid; omega
    simp only [κ', if_neg this]
    exact hs.inv.hM id (by simp only at hid ⊢; omega)
  · by_cases hi : id = nx
    · subst hi
      simp only [upd_same] at hl
      cases hl
      exact ⟨⟨0, none⟩, by simp [κ'], rfl, rfl⟩
    · simp only [upd_ne _ _ hi] at hl
      obtain ⟨e, he, hv, hh⟩ := hs.inv.live id ver cells hl
      exact ⟨e, by simp [κ', hi, he], hv, hh.ev ev (fun _ _ _ h => h) (fun _ _ => rfl)⟩
  · simp only [κ'] at h1 h2
    split at h1
    · cases h1; cases h3
    · split at h2
      · cases h2; cases h4
      · rename_i hi hj
        have := hs.inv.inj i j ei ej b hij h1 h2 h3 h4
        simpa [upd_ne _ _ hi, upd_ne _ _ hj] using this
  · have hr := hs.tmps.ev ev
    refine ⟨by simp [hr.1], fun j v x h1 h2 => ?_⟩
    simp only [List.getElem?_set] at h2
    split at h2
    · rename_i hkj
      subst hkj
      split at h2
      · cases h2
        have h3 := hr.2 k v _ h1 h
        obtain ⟨A, c, rfl, hc, ht, _⟩ := h3.sl_inv
        obtain rfl := ht rfl
        exact .mslNil A nx 0 sz 0 none (by simp [κ'])
      · cases h2
    · exact hr.2 j v x h1 h2
end

/-! ### What is kept behind a call, reckoned -/
section
variable {nx d : Nat} {L : List (Nat × Nat)} {H : AH}
theorem keepA_mapRef (d : Nat) : ∀ a, keepA nx L H d a = mapRef (keepR nx L H d) a := fun _ => rfl
theorem mapRefL_keep (cs : List AV) : mapRefL (keepR nx L H d) cs = cs.map (keepA nx L H d) := by rw [mapRefL_map]; rfl
@[go_sem] theorem keepA_int {k : IntKind} {n : Int} : keepA nx L H d (.int k n) = .int k n := rfl
@[go_sem] theorem keepA_bool {b : Bool} : keepA nx L H d (.bool b) = .bool b := rfl
@[go_sem] theorem keepA_str {b : ByteArray} : keepA nx L H d (.str b) = .str b := rfl
@[go_sem] theorem keepA_nilp : keepA nx L H d .nilp = .nilp := rfl
@[go_sem] theorem keepA_tup {cs : List AV} : keepA nx L H d (.tup cs) = .tup (cs.map (keepA nx L H d)) := by simp only [keepA, mapRef]; rw [mapRefL_keep]
@[go_sem] theorem keepA_agg {cs : List AV} : keepA nx L H d (.agg cs) = .agg (cs.map (keepA nx L H d)) := by simp only [keepA, mapRef]; rw [mapRefL_keep]
@[go_sem] theorem keepA_sl {n : Nat} {t : Bool} {cs : List AV} : keepA nx L H d (.sl n t cs) = .sl n t (cs.map (keepA nx L H d)) := by simp only [keepA, mapRef]; rw [mapRefL_keep]
@[go_sem] theorem keepA_ro {cs : List AV} : keepA nx L H d (.ro cs) = .ro (cs.map (keepA nx L H d)) := by simp only [keepA, mapRef]; rw [mapRefL_keep]
@[go_sem] theorem placeL_nil {k id ver : Nat} : placeL [] k id ver = none := rfl
@[go_sem] theorem placeL_cons {p : Nat × Nat} {r : List (Nat × Nat)} {k id ver : Nat} : placeL (p :: r) k id ver = if p.1 = id ∧ p.2 = ver then some k else placeL r (k + 1) id ver := rfl
def keepM1 (o : Option Nat) (b : ABlk) (nx : Nat) (L : List (Nat × Nat)) (H : AH) (d : Nat) (id ver sz off n : Nat) : AV :=
  if id < nx then .msl id ver sz off n else match o with
    | some k => .msl k 0 sz off n
    | none => match b with
      | .live v cells => if v = ver then .sl n false (((cells.drop off).take (n * sz)).map (keepA nx L H d)) else .junk
      | .dead => .junk
@[go_sem] theorem keepA_msl {id ver sz off n : Nat} : keepA nx L H (d + 1) (.msl id ver sz off n) = keepM1 (placeL L nx id ver) (H id) nx L H d id ver sz off n := by
  simp only [keepA, mapRef, keepR, derefA, keepM1]; rfl
@[go_sem] theorem keepM1_some {k : Nat} {b : ABlk} {id ver sz off n : Nat} (h : ¬ id < nx) : keepM1 (some k) b nx L H d id ver sz off n = .msl k 0 sz off n := by simp [keepM1, h]
@[go_sem] theorem keepM1_none {v : Nat} {cells : List AV} {id ver sz off n : Nat} (h : ¬ id < nx) : keepM1 none (.live v cells) nx L H d id ver sz off n = if v = ver then .sl n false (((cells.drop off).take (n * sz)).map (keepA nx L H d)) else .junk := by
  simp [keepM1, h]
theorem keepA_pure {a : AV} (h : pureA a = true) : keepA nx L H d a = a := mapRef_id _ a h
theorem map_keep : ∀ {l : List AV}, pureL l = true → l.map (keepA nx L H d) = l
  | [], _ => rfl
  | a :: l, h => by
    simp only [pureL, Bool.and_eq_true] at h
    rw [List.map_cons, keepA_pure h.1, map_keep h.2]
end
/-- The old places, but for one. -/
def OldW (nx rid : Nat) (H' H : AH) : Prop := ∀ i, i < nx → i ≠ rid → H' i = H i
def OldR (nx rid : Nat) (H' H : AH) (X : ABlk) : Prop := ∀ i, i < nx → H' i = if i = rid then X else H i
section
variable {nx rid j : Nat} {H' H : AH} {X b : ABlk}
theorem OldW.refl : OldW nx rid H H := fun _ _ _ => rfl
theorem OldW.new (hj : nx ≤ j) (h : OldW nx rid H' H) : OldW nx rid (upd H' j b) H := fun i hi hr => by rw [upd_ne _ _ (by omega)]; exact h i hi hr
theorem OldW.rd (h : OldW nx rid H' H) : OldW nx rid (upd H' rid b) H := fun i hi hr => by rw [upd_ne _ _ hr]; exact h i hi hr
theorem OldR.base (h : H rid = X) : OldR nx rid H H X := fun i _ => by split <;> simp_all
theorem OldR.set (h : OldW nx rid H' H) : OldR nx rid (upd H' rid X) H X := fun i hi => by
  simp only [upd]
  split
  · rfl
  · rename_i hr; exact h i hi hr
theorem OldR.new (hj : nx ≤ j) (h : OldR nx rid H' H X) : OldR nx rid (upd H' j b) H X := fun i hi => by rw [upd_ne _ _ (by omega)]; exact h i hi
end
/-- No old place is written. -/
def OldN (nx : Nat) (H' H : AH) : Prop := ∀ i, i < nx → H' i = H i
theorem OldN.refl {nx : Nat} {H : AH} : OldN nx H H := fun _ _ => rfl
theorem OldN.new {nx j : Nat} {H' H : AH} {b : ABlk} (hj : nx ≤ j) (h : OldN nx H' H) : OldN nx (upd H' j b) H := fun i hi => by rw [upd_ne _ _ (by omega)]; exact h i hi
section
variable {P : Program} {f : FuncId} {args : List AV} {H : AH} {nx : Nat} {Q : AV → AH → Nat → Prop}
/-- All that is new is only read from then on. -/
theorem ACallD.fin0 (d : Nat) (h : ACallD P f args H nx fun r H' nx' => OldN nx H' H ∧ Q (keepA nx [] H' d r) H nx) : ACallD P f args H nx Q :=
  h.keep fun r H' nx' ⟨h1, h4⟩ => ⟨[], d, H, ⟨fun p hp => by simp at hp, by simp⟩, ⟨fun i hi => .inr ⟨(h1 i hi).symm, .inl (h1 i hi)⟩, fun k p hp => by simp at hp, fun i hi => .inr rfl⟩, by simpa using h4⟩
/-- .. but for one place, which is kept. -/
theorem ACallD.fin1 (d : Nat) (h : ACallD P f args H nx fun r H' nx' => ∃ id ver cs, OldN nx H' H ∧ nx ≤ id ∧ H' id = .live ver cs ∧
      Q (keepA nx [(id, ver)] H' d r) (upd H nx (.live 0 (cs.map (keepA nx [(id, ver)] H' d)))) (nx + 1)) : ACallD P f args H nx Q :=
  h.keep fun r H' nx' ⟨id, ver, cs, h1, h2, h3, h4⟩ => ⟨[(id, ver)], d, upd H nx (.live 0 (cs.map (keepA nx [(id, ver)] H' d))), ⟨fun p hp => by simp at hp; subst hp; exact ⟨h2, cs, h3⟩, by simp⟩,
    ⟨fun i hi => .inr ⟨by rw [upd_ne _ _ (by omega)]; exact (h1 i hi).symm, .inl (h1 i hi)⟩, fun k p hp => by
      cases k with
      | zero => simp at hp; subst hp; exact .inr ⟨cs, h3, by simp [upd]⟩
      | succ k => simp at hp, fun i hi => .inr (upd_ne _ _ (by simp at hi; omega))⟩, by simpa using h4⟩
/-- The same, where one old place is written. -/
theorem ACallD.finR (d rid : Nat) (hrid : rid < nx) (h : ACallD P f args H nx fun r H' nx' => ∃ ver cells, OldR nx rid H' H (.live ver cells) ∧ pureL cells = true ∧ Q (keepA nx [] H' d r) (upd H rid (.live ver cells)) nx) : ACallD P f args H nx Q :=
  h.keep fun r H' nx' ⟨ver, cells, h1, h2, h4⟩ => ⟨[], d, upd H rid (.live ver cells), ⟨fun p hp => by simp at hp, by simp⟩, ⟨fun i hi => .inr ⟨(h1 i hi).symm, by
      rw [h1 i hi]
      split
      · exact .inr ⟨_, _, rfl, h2⟩
      · exact .inl rfl⟩, fun k p hp => by simp at hp, fun i hi => .inr (upd_ne _ _ (by simp at hi; omega))⟩, by simpa using h4⟩
theorem ACallD.finR1 (d rid : Nat) (hrid : rid < nx) (h : ACallD P f args H nx fun r H' nx' => ∃ w cells id ver cs, OldR nx rid H' H (.live w cells) ∧ pureL cells = true ∧ nx ≤ id ∧ H' id = .live ver cs ∧
      Q (keepA nx [(id, ver)] H' d r) (upd (upd H rid (.live w cells)) nx (.live 0 (cs.map (keepA nx [(id, ver)] H' d)))) (nx + 1)) : ACallD P f args H nx Q :=
  h.keep fun r H' nx' ⟨w, cells, id, ver, cs, h1, h2, g1, g2, h4⟩ => ⟨[(id, ver)], d, upd (upd H rid (.live w cells)) nx (.live 0 (cs.map (keepA nx [(id, ver)] H' d))), ⟨fun p hp => by simp at hp; subst hp; exact ⟨g1, cs, g2⟩, by simp⟩,
    ⟨fun i hi => .inr ⟨by rw [upd_ne _ _ (by omega)]; exact (h1 i hi).symm, by
      rw [h1 i hi]
      split
      · exact .inr ⟨_, _, rfl, h2⟩
      · exact .inl rfl⟩, fun k p hp => by
      cases k with
      | zero => simp at hp; subst hp; exact .inr ⟨cs, g2, by simp [upd]⟩
      | succ k => simp at hp, fun i hi => .inr (by rw [upd_ne _ _ (by simp at hi; omega), upd_ne _ _ (by simp at hi; omega)])⟩, by simpa using h4⟩
end
end Go.TH
