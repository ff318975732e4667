/- The framework of this proof, part 4: abstract values and what they stand for in a world. -/
import Derived.Test.YtipoefabimcbdaaDoorTf3
/-
  TH, part 44: what is seen of versions, of an index: plain.
-/
set_option linter.unusedVariables false
set_option linter.unusedSimpArgs false
namespace Go.TH
open Go
def GVer.at (v : GVer) (time : Int) : Prop := v.born ≤ time ∧ (v.died = 0 ∨ time < v.died)
instance (v : GVer) (time : Int) : Decidable (v.at time) := by unfold GVer.at; infer_instance
def seenF (l : List GVer) (key time : Int) : Option GVer := l.find? fun v => decide (v.key = key ∧ v.at time)
noncomputable def seenV (l : List GVer) (key time : Int) : Option GVer := if versOk l then seenF l key time else none
noncomputable def seenRow (l : List GVer) (key time : Int) : GRow := ((seenV l key time).map GVer.row).getD []
noncomputable def seenIs (l : List GVer) (key time : Int) : Bool := (seenV l key time).isSome
theorem find_at {α : Type} {p : α → Bool} {l : List α} {k : Nat} (h : k < l.length) (hp : p l[k] = true) (hn : ∀ j (hj : j < l.length), j < k → p l[j] = false) : l.find? p = some l[k] := by
  rw [List.find?_eq_some_iff_getElem]
  exact ⟨hp, k, h, rfl, fun j hj => by rw [hn j (by omega) hj]; rfl⟩
theorem find_none {α : Type} {p : α → Bool} {l : List α} (hn : ∀ j (hj : j < l.length), p l[j] = false) : l.find? p = none := by
  rw [List.find?_eq_none]
  intro x hx
  obtain ⟨j, hj, rfl⟩ := List.getElem_of_mem hx
  rw [hn j hj]
  simp
theorem seenF_at {l : List GVer} {key time : Int} {k : Nat} (h : k < l.length) (hp : l[k].key = key ∧ l[k].at time) (hn : ∀ j (hj : j < l.length), j < k → ¬ (l[j].key = key ∧ l[j].at time)) : seenF l key time = some l[k] :=
  find_at h (decide_eq_true hp) fun j hj hjk => decide_eq_false (hn j hj hjk)
theorem seenF_none {l : List GVer} {key time : Int} (hn : ∀ j (hj : j < l.length), ¬ (l[j].key = key ∧ l[j].at time)) : seenF l key time = none :=
  find_none fun j hj => decide_eq_false (hn j hj)
theorem seenF_mem {l : List GVer} {key time : Int} {v : GVer} (h : seenF l key time = some v) : v ∈ l ∧ v.key = key ∧ v.at time := by
  have h1 := List.mem_of_find?_eq_some h
  have h2 := List.find?_some h
  exact ⟨h1, by simpa using h2⟩
theorem seenF_len {l : List GVer} {key time : Int} (h : ∀ v ∈ l, v.row.length ≤ 1048576) : ((seenF l key time).getD ⟨0, 0, 0, []⟩).row.length ≤ 1048576 := by
  cases e : seenF l key time with
  | none => simp
  | some v => exact h v (seenF_mem e).1
theorem seenV_no {l : List GVer} {key time : Int} (h : ¬ versOk l) : seenV l key time = none := if_neg h
theorem seenV_ok {l : List GVer} {key time : Int} (h : versOk l) : seenV l key time = seenF l key time := if_pos h
theorem seenV_nil {l : List GVer} {key time : Int} (h : l.length = 0) : seenV l key time = none := by
  unfold seenV
  split
  · exact seenF_none fun j hj => by omega
  · rfl
theorem seenRow_b {l : List GVer} {key time : Int} {P : GRow → Prop} (h0 : P []) (h : ∀ v ∈ l, P v.row) : P (seenRow l key time) := by
  unfold seenRow seenV
  split
  · cases e : seenF l key time with
    | none => exact h0
    | some v => exact h v (seenF_mem e).1
  · exact h0
/-- Strips. -/
theorem filter_step {α : Type} {p : α → Bool} {l : List α} {k : Nat} (h : k < l.length) : (l.take (k + 1)).filter p = (l.take k).filter p ++ if p l[k] then [l[k]] else [] := by
  rw [List.take_add_one, List.getElem?_eq_getElem h, List.filter_append]
  simp [List.filter_cons]
theorem filter_le {α : Type} (p : α → Bool) (l : List α) (k : Nat) : ((l.take k).filter p).length ≤ k := Nat.le_trans (List.length_filter_le ..) (by simp; omega)
def sweptP (time : Int) (m : GVer) : Bool := decide (m.died = 0 ∨ time < m.died)
def GVer.kept (time : Int) (v : GVer) : Prop := v.died = 0 ∨ time < v.died
instance (time : Int) (v : GVer) : Decidable (v.kept time) := by unfold GVer.kept; infer_instance
noncomputable def sweptL (l : List GVer) (time : Int) : List GVer := if versOk l then l.filter (sweptP time) else []
noncomputable def rowsK (l : List GVer) (time : Int) : Nat → List GRow
  | 0 => []
  | k + 1 => rowsK l time k ++ if seenIs l k time then [seenRow l k time] else []
noncomputable def rowsAtL (l : List GVer) (time : Int) : List GRow := rowsK l time 5
theorem rowsK_succ (l : List GVer) (time : Int) (k : Nat) : rowsK l time (k + 1) = rowsK l time k ++ if seenIs l k time then [seenRow l k time] else [] := rfl
theorem rowsK_len (l : List GVer) (time : Int) : ∀ k, (rowsK l time k).length ≤ k
  | 0 => Nat.le_refl _
  | k + 1 => by
    have := rowsK_len l time k
    rw [rowsK_succ]
    split <;> simp <;> omega
theorem rowsK_all {l : List GVer} {time : Int} {P : GRow → Prop} (h : ∀ v ∈ l, P v.row) : ∀ {k : Nat}, ∀ r ∈ rowsK l time k, P r
  | 0, r, hr => by simp [rowsK] at hr
  | k + 1, r, hr => by
    rw [rowsK_succ] at hr
    rcases List.mem_append.1 hr with hr | hr
    · exact rowsK_all h r hr
    · split at hr
      · rename_i hs
        simp at hr
        subst hr
        unfold seenIs at hs
        unfold seenRow
        cases e : seenV l k time with
        | none => rw [e] at hs; simp at hs
        | some v =>
          have : v ∈ l := by
            unfold seenV at e
            split at e
            · exact (seenF_mem e).1
            · cases e
          exact h v this
      · simp at hr
theorem sweptL_len {l : List GVer} {time : Int} {N : Nat} (h : l.length ≤ N) : (sweptL l time).length ≤ N := by
  unfold sweptL; split
  · exact Nat.le_trans (List.length_filter_le ..) h
  · simp
theorem sweptL_all {l : List GVer} {time : Int} {P : GVer → Prop} (h : ∀ v ∈ l, P v) : ∀ v ∈ sweptL l time, P v := fun v hv => by
  unfold sweptL at hv
  split at hv
  · exact h v (List.mem_filter.1 hv).1
  · simp at hv
def GMk.at (v : GMk) (time : Int) : Prop := v.born ≤ time ∧ (v.died = 0 ∨ time < v.died)
instance (v : GMk) (time : Int) : Decidable (v.at time) := by unfold GMk.at; infer_instance
/-- Of the first ones, those that are taken. -/
structure Flt {α β : Type} (c : β → List AV) (g : α → β) (p : α → Bool) (l : List α) (k : Nat) (cells : List AV) (m : Nat) : Prop where
  c : cells = flat c (((l.take k).filter p).map g)
  n : m = ((l.take k).filter p).length
section
variable {α β : Type} {c : β → List AV} {g : α → β} {p : α → Bool} {l : List α} {k : Nat} {cells : List AV} {m : Nat}
theorem Flt.zero : Flt c g p l 0 [] 0 := ⟨by simp [flat], by simp⟩
theorem Flt.le (h : Flt c g p l k cells m) : m ≤ k := by rw [h.n]; exact filter_le p l k
theorem Flt.len {sz : Nat} (hc : ∀ b, (c b).length = sz) (h : Flt c g p l k cells m) : cells.length = m * sz := by
  rw [h.c, flat_len hc, h.n]; simp
theorem Flt.yes (h : Flt c g p l k cells m) (hk : k < l.length) (hp : p l[k] = true) {xs : List AV} (hx : xs = c (g l[k])) : Flt c g p l (k + 1) (cells ++ xs) (m + 1) := by
  obtain ⟨h1, h2⟩ := h
  refine ⟨?_, ?_⟩
  · rw [filter_step hk, if_pos hp, List.map_append, flat_append, h1, hx]; simp [flat]
  · rw [filter_step hk, if_pos hp, h2]; simp
theorem Flt.no (h : Flt c g p l k cells m) (hk : k < l.length) (hp : p l[k] = false) : Flt c g p l (k + 1) cells m := by
  obtain ⟨h1, h2⟩ := h
  have : ¬ p l[k] = true := by rw [hp]; exact Bool.false_ne_true
  exact ⟨by rw [filter_step hk, if_neg this, h1]; simp, by rw [filter_step hk, if_neg this, h2]; simp⟩
theorem Flt.fin (h : Flt c g p l k cells m) (hk : l.length ≤ k) : cells = flat c ((l.filter p).map g) ∧ m = ((l.filter p).map g).length := by
  obtain ⟨h1, h2⟩ := h
  rw [List.take_of_length_le hk] at h1 h2
  exact ⟨h1, by simpa using h2⟩
end
theorem OwnR.tup2 {H : AH} {lo hi : Nat} {p q r : AV} (h : OwnR H lo hi (.tup [p, q]) r) (hq : plainA q = true) : ∃ a, r = .tup [a, q] ∧ OwnR H lo hi p a := by
  obtain ⟨S, hO, hN, hr⟩ := h
  obtain ⟨bs, rfl, hb⟩ := hO.untup
  obtain ⟨S1, S2, a, as', rfl, rfl, h1, h2⟩ := hb.uncons
  obtain ⟨rfl, rfl⟩ := h2.plain (fun x hx => by simp at hx; subst hx; exact hq)
  exact ⟨a, rfl, S1, h1, by simpa using hN, fun i hi => hr i (by simp [hi])⟩
theorem OwnR.tup2mk {H : AH} {lo hi : Nat} {p q a : AV} (h : OwnR H lo hi p a) (hq : plainA q = true) : OwnR H lo hi (.tup [p, q]) (.tup [a, q]) := by
  obtain ⟨S, hO, hN, hr⟩ := h
  exact ⟨S, .tup (S1 := S) (S2 := []) (by simpa using hO.app (OwnL.ofPlain (l := [q]) (fun x hx => by simp at hx; subst hx; exact hq))) .nil (by simp), hN, hr⟩
def mkSweptP (time : Int) (m : GMk) : Bool := decide (m.died = 0 ∨ time < m.died)
theorem marksOk_at {l : List GMk} (h : marksOk l) (i : Nat) (hi : i < l.length) : l[i].v.Ok := (h.2.1.1 i hi).1
theorem Pict.msl {α : Type} {c : α → List AV} {sz : Nat} (hc : ∀ a, (c a).length = sz) (hp : ∀ a, pureL (c a) = true) {H : AH} {id ver : Nat} {l : List α} {rest : List AV} (h : H id = .live ver (flat c l ++ rest)) : Pict H [.msl id ver sz 0 l.length] [.sl l.length false (flat c l)] := by
  have := Pict.snap (H := H) 1 [.msl id ver sz 0 l.length]
  simp only [List.map, snapA_msl, h, snapM_live, if_true, List.drop_zero] at this
  rw [← flat_len hc, List.take_left, map_snap 0 H (flat_pure hp l)] at this
  exact this
theorem mask_eq {H H' : AH} {n : Nat} (h : ∀ i, i < n → H' i = H i) : maskH (fun i => decide (n ≤ i)) H' = maskH (fun i => decide (n ≤ i)) H := by
  funext i
  by_cases e : n ≤ i
  · simp [maskH, e]
  · simp [maskH, e, h i (by omega)]
theorem mask_lo {H : AH} {n i : Nat} (h : i < n) : maskH (fun i => decide (n ≤ i)) H i = H i := maskH_out (by simp; omega)
theorem ECallB.fresh {P : Program} {f : FuncId} {args ps : List AV} {T : List AV} {H : AH} {nx : Nat} {K : AV → AH → Nat → Prop} {w : Box K} {p : AV} (ha : Pict H args ps)
    (h : ACallD P f ps noH 0 fun r H1 n1 => OwnR H1 0 n1 p r)
    (k : ∀ r H2 n2, OwnR H2 nx n2 p r → nx ≤ n2 → (∀ i, i < nx → H2 i = H i) → K r H2 n2) : ECallB P (.fn f []) args ⟨T, H, nx⟩ K w :=
  ECallB.law (Q := K) (ACallD.fresh ha h k) fun _ _ _ h => h
def mkFindP (v : GVal) (time : Int) (m : GMk) : Bool := decide (m.v = v ∧ m.born ≤ time ∧ (m.died = 0 ∨ time < m.died))
def mkBetwP (lo hi : GVal) (time : Int) (m : GMk) : Bool := decide (0 ≤ m.v.ord lo ∧ m.v.ord hi ≤ 0 ∧ m.born ≤ time ∧ (m.died = 0 ∨ time < m.died))
noncomputable def mkFind (l : List GMk) (v : GVal) (time : Int) : List Int := if marksOk l ∧ v.Ok then (l.filter (mkFindP v time)).map GMk.key else []
noncomputable def mkBetw (l : List GMk) (lo hi : GVal) (time : Int) : List Int := if marksOk l ∧ lo.Ok ∧ hi.Ok then (l.filter (mkBetwP lo hi time)).map GMk.key else []
noncomputable def mkSwept (l : List GMk) (time : Int) : List GMk := if marksOk l then l.filter (mkSweptP time) else []
theorem mkFind_len {l : List GMk} {v : GVal} {time : Int} {N : Nat} (h : l.length ≤ N) : (mkFind l v time).length ≤ N := by
  unfold mkFind; split
  · rw [List.length_map]; exact Nat.le_trans (List.length_filter_le ..) h
  · simp
theorem mkBetw_len {l : List GMk} {lo hi : GVal} {time : Int} {N : Nat} (h : l.length ≤ N) : (mkBetw l lo hi time).length ≤ N := by
  unfold mkBetw; split
  · rw [List.length_map]; exact Nat.le_trans (List.length_filter_le ..) h
  · simp
theorem mkSwept_len {l : List GMk} {time : Int} {N : Nat} (h : l.length ≤ N) : (mkSwept l time).length ≤ N := by
  unfold mkSwept; split
  · exact Nat.le_trans (List.length_filter_le ..) h
  · simp
def mkGVal (k : Int) : GVal := ⟨k, (k + 1), mText (k + 2)⟩
def mkGMk (k : Int) : GMk := ⟨⟨k, (k + 1), mText (k + 2)⟩, (k + 3), (k + 4), (k + 5)⟩
def mkGAk (k : Int) : GAk := ⟨k, (k + 1), (k + 2)⟩
def mkGCol (k : Int) : GCol := ⟨k, decide ((k + 1) % 3 = 0)⟩
def mkI (k : Int) : Int := k
def mkBo (k : Int) : Bool := decide (k % 3 = 0)
end Go.TH

/-
  TH, part 45: lists of parts that have places of their own.
-/
set_option linter.unusedVariables false
set_option linter.unusedSimpArgs false
namespace Go.TH
open Go
section
variable {α : Type}
/-- Marks of parts of different sizes. -/
def genL (mk : Nat → Int → α) (w : Nat → Int) : List Nat → Int → List α
  | [], _ => []
  | n :: ns, k => mk n k :: genL mk w ns (k + w n)
def gcnt (w : Nat → Int) : List Nat → Int
  | [] => 0
  | n :: ns => w n + gcnt w ns
@[simp] theorem genL_len (mk : Nat → Int → α) (w : Nat → Int) : ∀ (ns : List Nat) (k : Int), (genL mk w ns k).length = ns.length
  | [], k => rfl
  | n :: ns, k => by simp [genL, genL_len mk w ns]
theorem genL_get (mk : Nat → Int → α) (w : Nat → Int) : ∀ (ns : List Nat) (k : Int) (i : Nat) (h : i < (genL mk w ns k).length) (h' : i < ns.length), (genL mk w ns k)[i] = mk ns[i] (k + gcnt w (ns.take i))
  | [], k, i, h, h' => by simp at h'
  | n :: ns, k, 0, h, h' => by simp [genL, gcnt]
  | n :: ns, k, i + 1, h, h' => by
    simp only [genL, List.getElem_cons_succ, List.take_succ_cons, gcnt]
    rw [genL_get mk w ns (k + w n) i (by simpa [genL] using h) (by simpa using h'), Int.add_assoc]
theorem gcnt_app (w : Nat → Int) : ∀ (a b : List Nat), gcnt w (a ++ b) = gcnt w a + gcnt w b
  | [], b => by simp [gcnt]
  | n :: a, b => by simp [gcnt, gcnt_app w a b, Int.add_assoc]
theorem gcnt_succ (w : Nat → Int) {ns : List Nat} {i : Nat} (h : i < ns.length) : gcnt w (ns.take (i + 1)) = gcnt w (ns.take i) + w ns[i] := by
  rw [List.take_add_one, List.getElem?_eq_getElem h, gcnt_app]
  simp [gcnt]
theorem gcnt_bound {w : Nat → Int} {B : Int} : ∀ {ns : List Nat}, (∀ n ∈ ns, 0 ≤ w n ∧ w n ≤ B) → 0 ≤ gcnt w ns ∧ gcnt w ns ≤ ns.length * B
  | [], h => by simp [gcnt]
  | n :: ns, h => by
    have h1 := h n (by simp)
    have h2 := gcnt_bound (ns := ns) fun m hm => h m (by simp [hm])
    simp only [gcnt, List.length_cons]
    have : ((ns.length + 1 : Nat) : Int) * B = ns.length * B + B := by push_cast; rw [Int.add_mul]; simp
    omega
theorem gcnt_bound2 {w : Nat → Int} {B : Int} {N : Nat} {ns : List Nat} (hB : 0 ≤ B) (hl : ns.length ≤ N) (h : ∀ n ∈ ns, 0 ≤ w n ∧ w n ≤ B) (i : Nat) : 0 ≤ gcnt w (ns.take i) ∧ gcnt w (ns.take i) ≤ N * B := by
  have h1 := gcnt_bound (w := w) (B := B) (ns := ns.take i) fun n hn => h n (List.mem_of_mem_take hn)
  have h2 : (((ns.take i).length : Nat) : Int) * B ≤ (N : Int) * B := Int.mul_le_mul_of_nonneg_right (by simp; omega) hB
  omega
end
variable {H H' : AH} {S : List Nat} {lo hi : Nat}
/-- From places one by one to a stretch. -/
theorem ACallD.stretch {P : Program} {f : FuncId} {args : List AV} {nx : Nat} {Q : AV → Prop} {p p' a : AV}
    (h0 : ∀ S, OwnL false H S [p] [a] → S.Nodup → ACallD P f args H nx (fun r H' nx' => Q r ∧ OwnL false H' S [p'] [a] ∧ (∀ i, i ∉ S → H' i = H i) ∧ nx' = nx)) (h : OwnR H lo hi p a) :
    ACallD P f args H nx (fun r H' nx' => Q r ∧ OwnR H' lo hi p' a ∧ (∀ i, ¬ (lo ≤ i ∧ i < hi) → H' i = H i) ∧ nx' = nx) := by
  obtain ⟨S, hO, hN, hr⟩ := h
  exact (h0 S hO hN).mono fun r H' nx' ⟨e1, e2, e3, e4⟩ => ⟨e1, ⟨S, e2, hN, hr⟩, fun i hi => e3 i fun hm => hi (hr i hm), e4⟩
theorem OwnL.top {cells : List AV} {id ver sz n : Nat} (h : OwnL false H S [.sl n false cells] [.msl id ver sz 0 n]) : ∃ ac, H id = .live ver ac := by
  rcases h.unsl with ⟨id', ver', sz', ac, S0, e, hl, _⟩ | ⟨t, e, _, _⟩
  · cases e; exact ⟨ac, hl⟩
  · cases e
theorem OwnL.plain1 {x : AV} {ps ai : List AV} (hx : plainA x = true) (h : OwnL false H S (x :: ps) ai) : ∃ as, ai = x :: as ∧ OwnL false H S ps as := by
  obtain ⟨S1, S2, a, as, rfl, rfl, h1, h2⟩ := h.uncons
  obtain ⟨e1, rfl⟩ := h1.plain fun p hp => by simp at hp; subst hp; exact hx
  simp at e1
  subst e1
  exact ⟨as, rfl, by simpa using h2⟩
theorem OwnL.one {q : AV} {ai : List AV} (h : OwnL false H S [q] ai) : ∃ a, ai = [a] ∧ OwnL false H S [q] [a] := by
  have := h.len
  match ai, this, h with
  | [a], _, h => exact ⟨a, rfl, h⟩
theorem OwnL.plain3 {x y z : Int} {q : AV} {ai : List AV} (h : OwnL false H S [.int .i64 x, .int .i64 y, .int .i64 z, q] ai) : ∃ ra, ai = [.int .i64 x, .int .i64 y, .int .i64 z, ra] ∧ OwnL false H S [q] [ra] := by
  obtain ⟨a1, e1, h1⟩ := h.plain1 rfl
  obtain ⟨a2, e2, h2⟩ := h1.plain1 rfl
  obtain ⟨a3, e3, h3⟩ := h2.plain1 rfl
  obtain ⟨a, e4, h4⟩ := h3.one
  exact ⟨a, by rw [e1, e2, e3, e4], h4⟩
theorem OwnL.plains {x y z : Int} {q ra : AV} (h : OwnL false H S [q] [ra]) : OwnL false H S [.int .i64 x, .int .i64 y, .int .i64 z, q] [.int .i64 x, .int .i64 y, .int .i64 z, ra] :=
  .leaf rfl rfl (.leaf rfl rfl (.leaf rfl rfl h))
theorem setL_mid {b1 p xs r : List AV} {m : Nat} (hb : b1.length = m) (hp : p.length = xs.length) : setL (b1 ++ (p ++ r)) m xs = b1 ++ (xs ++ r) := by
  subst hb
  unfold setL
  rw [List.take_left, ← hp, ← List.drop_drop, List.drop_left, List.drop_left, List.append_assoc]
theorem getD_mid {b1 xs r : List AV} {a : AV} {m n : Nat} (hb : b1.length = m) (hx : xs.length = n) : (b1 ++ (xs ++ a :: r)).getD (m + n) .junk = a := by
  subst hb hx
  rw [List.getD, List.getElem?_append_right (by omega), List.getElem?_append_right (by omega)]
  simp
/-- One part of a list, with its places, and what is left. -/
structure Open1 {α : Type} (c : α → List AV) (H : AH) (id ver : Nat) (L : List α) (i : Nat) (S : List Nat) (b1 ai b3 : List AV) (S1 Si S3 : List Nat) : Prop where
  hl : H id = .live ver (b1 ++ (ai ++ b3))
  o1 : OwnL false H S1 (flat c (L.take i)) b1
  oi : ∀ h : i < L.length, OwnL false H Si (c L[i]) ai
  o3 : OwnL false H S3 (flat c (L.drop (i + 1))) b3
  e : S = id :: (S1 ++ (Si ++ S3))
theorem OwnL.open1 {α : Type} {c : α → List AV} {L : List α} {id ver sz n : Nat} (h : OwnL false H S [.sl n false (flat c L)] [.msl id ver sz 0 n]) {i : Nat} (hi : i < L.length) :
    ∃ b1 ai b3 S1 Si S3, Open1 c H id ver L i S b1 ai b3 S1 Si S3 := by
  rcases h.unsl with ⟨id', ver', sz', ac, S0, e, hl, hlen, h1, rfl⟩ | ⟨t, e, _, _⟩
  · cases e
    have e2 : flat c L = flat c (L.take i) ++ (c L[i] ++ flat c (L.drop (i + 1))) := by
      rw [← flat_cons, ← flat_append, ← List.drop_eq_getElem_cons hi, List.take_append_drop]
    rw [e2] at h1
    obtain ⟨S1, T, b1, t, rfl, rfl, k1, k2⟩ := OwnL.split _ h1
    obtain ⟨Si, S3, ai, b3, rfl, rfl, k3, k4⟩ := OwnL.split _ k2
    exact ⟨b1, ai, b3, S1, Si, S3, hl, k1, fun _ => k3, k4, rfl⟩
  · cases e
theorem Open1.close {α : Type} {c : α → List AV} {L : List α} {id ver i sz n : Nat} {b1 ai b3 : List AV} {S1 Si S3 : List Nat} (h : Open1 c H id ver L i S b1 ai b3 S1 Si S3) (hi : i < L.length) (hN : S.Nodup) {y : α} {ai' : List AV} {Si' : List Nat}
    (hc : ∀ a, (c a).length = sz) (hn : n = L.length) (h1 : H' id = .live ver (b1 ++ (ai' ++ b3))) (h2 : ∀ j, j ∈ S1 ∨ j ∈ S3 → H' j = H j) (h3 : OwnL false H' Si' (c y) ai') :
    OwnL false H' (id :: (S1 ++ (Si' ++ S3))) [.sl n false (flat c (L.take i ++ y :: L.drop (i + 1)))] [.msl id ver sz 0 n] := by
  refine .sl h1 ?_ (?_ : OwnL false H' (S1 ++ (Si' ++ S3)) _ _) .nil (by simp)
  · rw [flat_len hc, hn]
    congr 1
    simp
    omega
  · rw [flat_append, flat_cons]
    exact (h.o1.congr fun j hj => h2 j (.inl hj)).app (h3.app (h.o3.congr fun j hj => h2 j (.inr hj)))
theorem mixL_get {α : Type} {a l : List α} (h : a.length = l.length) {i : Nat} (hi : i < l.length) (h2 : i < (mixL a l i).length) : (mixL a l i)[i] = l[i] := by
  simp only [mixL_at h hi]
  rw [List.getElem_append_right (by simp; omega)]
  have : i - (a.take i).length = 0 := by simp; omega
  simp only [this, List.getElem_cons_zero]
theorem mixL_parts {α : Type} {a l : List α} (h : a.length = l.length) {i : Nat} (hi : i < a.length) : (mixL a l i).take i ++ a[i] :: (mixL a l i).drop (i + 1) = mixL a l (i + 1) := by
  have hl : (a.take i).length = i := by simp; omega
  have e1 : (mixL a l i).take i = a.take i := by
    unfold mixL
    rw [List.take_append_of_le_length (by omega), List.take_take, Nat.min_self]
  have e2 : (mixL a l i).drop (i + 1) = l.drop (i + 1) := by
    unfold mixL
    rw [List.drop_append, hl, List.drop_of_length_le (by omega), List.nil_append, List.drop_drop]
    congr 1
    omega
  rw [e1, e2, mixL_step h hi]
theorem Open1.nd {α : Type} {c : α → List AV} {H : AH} {id ver i : Nat} {L : List α} {S : List Nat} {b1 ai b3 : List AV} {S1 Si S3 : List Nat} (o : Open1 c H id ver L i S b1 ai b3 S1 Si S3) (hN : S.Nodup) : id ∉ Si ∧ id ∉ S1 ∧ id ∉ S3 ∧ Si.Nodup ∧ ∀ j, j ∈ S1 ∨ j ∈ S3 → j ∉ Si := by
  rw [o.e, List.nodup_cons, List.nodup_append, List.nodup_append] at hN
  obtain ⟨h1, h2, ⟨h3, h4, h5⟩, h6⟩ := hN
  simp only [List.mem_append, not_or] at h1
  refine ⟨h1.2.1, h1.1, h1.2.2, h3, fun j hj hm => ?_⟩
  rcases hj with hj | hj
  · exact h6 j hj j (by simp [hm]) rfl
  · exact h5 j hm j hj rfl
theorem mark_nest {P : Program} {f : FuncId} {α : Type} {c : α → List AV} {sz : Nat} (hc : ∀ a, (c a).length = sz) (hsz : 0 < sz) {nx : Nat} {a R : AV} (l l' : List α) (hl : l'.length = l.length) (k : Int) (hR : l = [] → R = .int .i64 k)
    (hz : ∀ a, Empty0 H a → ACallD P f [a, .int .i64 k] H nx (fun r H' nx' => r = .int .i64 k ∧ H' = H ∧ nx' = nx))
    (h0 : ∀ id ver, OwnL false H S [.sl l.length false (flat c l)] [.msl id ver sz 0 l.length] → ACallD P f [.msl id ver sz 0 l.length, .int .i64 k] H nx (fun r H' nx' => r = R ∧ OwnL false H' S [.sl l'.length false (flat c l')] [.msl id ver sz 0 l.length] ∧ (∀ i, i ∉ S → H' i = H i) ∧ nx' = nx))
    (hO : OwnL false H S [.sl l.length false (flat c l)] [a]) :
    ACallD P f [a, .int .i64 k] H nx (fun r H' nx' => r = R ∧ OwnL false H' S [.sl l'.length false (flat c l')] [a] ∧ (∀ i, i ∉ S → H' i = H i) ∧ nx' = nx) := by
  have zero : l = [] → Empty0 H a → ACallD P f [a, .int .i64 k] H nx (fun r H' nx' => r = R ∧ OwnL false H' S [.sl l'.length false (flat c l')] [a] ∧ (∀ i, i ∉ S → H' i = H i) ∧ nx' = nx) := by
    intro e he
    subst e
    obtain rfl : l' = [] := List.eq_nil_of_length_eq_zero hl
    refine (hz a he).mono fun r H' nx' ⟨e1, e2, e3⟩ => ?_
    subst e2
    exact ⟨by rw [e1, hR rfl], hO, fun _ _ => rfl, e3⟩
  have hO2 := hO
  rcases hO.unsl with ⟨id, ver, sz', ac, S1, rfl, hl', hlen, h1, rfl⟩ | ⟨t, rfl, e1, rfl⟩
  · by_cases hn : 0 < l.length
    · have hs : sz' = sz := by
        rw [flat_len hc] at hlen
        exact (Nat.eq_of_mul_eq_mul_left hn hlen).symm
      subst hs
      exact h0 id ver hO2
    · obtain rfl : l = [] := List.eq_nil_of_length_eq_zero (by omega)
      have : ac = [] := List.eq_nil_of_length_eq_zero h1.len.symm
      subst this
      exact zero rfl (.inr ⟨id, ver, _, rfl, hl'⟩)
  · have hl0 : l = [] := by
      have := flat_len hc l
      rw [e1] at this
      have h2 : l.length * sz = 0 := this.symm
      rcases Nat.mul_eq_zero.1 h2 with h3 | h3
      · exact List.eq_nil_of_length_eq_zero h3
      · omega
    subst hl0
    exact zero rfl (.inl ⟨t, rfl⟩)
theorem OwnL.cellsA {n : Nat} {cells : List AV} {a : AV} (h : OwnL false H S [.sl n false cells] [a]) : cellsA H a = some [a] := by
  rcases h.unsl with ⟨id, ver, sz, ac, S0, rfl, hl, _⟩ | ⟨t, rfl, _⟩
  · simp [TH.cellsA, hl]
  · rfl
theorem OwnL.zeros {α : Type} {c : α → List AV} {zz : α} {z : List AV} (h : OwnL false H [] (c zz) z) : ∀ n : Nat, OwnL false H [] (flat c (List.replicate n zz)) (List.replicate n z).flatten
  | 0 => .nil
  | n + 1 => by
    rw [List.replicate_succ, flat_cons, List.replicate_succ, List.flatten_cons]
    exact h.app (OwnL.zeros h n)
theorem Grow.len {oid v : Nat} {cells ps : List AV} (h : Grow H oid v cells lo hi ps) : cells.length = ps.length := by
  obtain ⟨_, S, h1, _⟩ := h
  exact h1.len.symm
theorem flat_succ {α : Type} {c : α → List AV} {l : List α} {k : Nat} (h : k < l.length) : flat c (l.take (k + 1)) = flat c (l.take k) ++ c l[k] := by
  rw [List.take_add_one, List.getElem?_eq_getElem h, flat_append]
  simp [flat]
theorem put_set {α : Type} {l : List α} {m : Nat} {x : α} (h : m < l.length) : l.take m ++ [x] ++ l.drop (m + 1) = l.set m x := by
  rw [List.set_eq_take_append_cons_drop, if_pos h]; simp
theorem flat_set {α : Type} {c : α → List AV} {sz : Nat} (hc : ∀ a, (c a).length = sz) {l : List α} {i j : Nat} (hi : i < l.length) (hj : j < sz) {y : AV} {b : α} (hb : c b = (c l[i]).set j y) : (flat c l).set (i * sz + j) y = flat c (l.set i b) := by
  have e1 : flat c l = flat c (l.take i) ++ (c l[i] ++ flat c (l.drop (i + 1))) := by
    rw [← flat_cons, ← flat_append, ← List.drop_eq_getElem_cons hi, List.take_append_drop]
  have hl : (flat c (l.take i)).length = i * sz := by rw [flat_len hc]; congr 1; simp; omega
  rw [e1, List.set_append_right _ _ (by omega), hl, Nat.add_sub_cancel_left, List.set_append_left _ _ (by rw [hc]; exact hj), ← hb, List.set_eq_take_append_cons_drop, if_pos hi, flat_append, flat_cons]
theorem FlatL.cell {α : Type} {c : α → List AV} {P : α → Prop} {cells : List AV} {n sz : Nat} (hc : ∀ a, (c a).length = sz) (h : FlatL c P cells n) {i m : Nat} (j : Nat) (hm : m = i * sz + j) (hi : i < n) (hj : j < sz) {x : AV} (hx : pureA x = true) (f : α → α) (hf : ∀ a, c (f a) = (c a).set j (looseA x)) (hP : ∀ a, P a → P (f a)) :
    FlatL c P (cells.take m ++ [x] ++ cells.drop (m + 1)) n := by
  have hlen := h.len hc
  obtain ⟨hp, l, e, rfl, hl⟩ := h
  have hm2 : m < cells.length := by
    rw [hlen, hm]
    have : (i + 1) * sz ≤ l.length * sz := Nat.mul_le_mul_right _ hi
    rw [Nat.add_mul] at this
    omega
  rw [put_set hm2]
  refine ⟨?_, l.set i (f l[i]), ?_, by simp, fun a ha => ?_⟩
  · have : ∀ (l : List AV) (m : Nat), pureL l = true → pureL (l.set m x) = true := by
      intro l
      induction l with
      | nil => intro m h; exact h
      | cons a l ih =>
        intro m h
        simp only [pureL, Bool.and_eq_true] at h
        cases m with
        | zero => simp only [List.set_cons_zero, pureL, hx, h.2, Bool.and_self]
        | succ m => simp only [List.set_cons_succ, pureL, h.1, ih m h.2, Bool.and_self]
    exact this cells m hp
  · rw [List.map_set, e, hm, flat_set hc hi hj (hf _)]
  · rcases List.mem_or_eq_of_mem_set ha with ha | rfl
    · exact hl a ha
    · exact hP _ (hl _ (List.getElem_mem hi))
theorem Flat.cell {α : Type} {c : α → List AV} {P : α → Prop} {l : List α} {sz : Nat} (hc : ∀ a, (c a).length = sz) (hl : ∀ a ∈ l, P a) {i m : Nat} (j : Nat) (hm : m = i * sz + j) (hi : i < l.length) (hj : j < sz) {x : AV} (b : α) (hb : c b = (c l[i]).set j x) (hP : P b) :
    Flat c P ((flat c l).take m ++ [x] ++ (flat c l).drop (m + 1)) l.length := by
  have hm2 : m < (flat c l).length := by
    rw [flat_len hc, hm]
    have : (i + 1) * sz ≤ l.length * sz := Nat.mul_le_mul_right _ hi
    rw [Nat.add_mul] at this
    omega
  rw [put_set hm2]
  refine ⟨l.set i b, by rw [hm, flat_set hc hi hj hb], by simp, fun a ha => ?_⟩
  rcases List.mem_or_eq_of_mem_set ha with ha | rfl
  · exact hl a ha
  · exact hP
theorem FlatL.cat2 {α : Type} {c : α → List AV} {P : α → Prop} {cells : List AV} {n : Nat} (h : FlatL c P cells n) : FlatL c P (cells ++ cells) (n + n) := by
  obtain ⟨hp, h2⟩ := h
  exact ⟨by rw [pureL_append, hp]; rfl, by rw [List.map_append]; exact h2.cat h2⟩
def midOf : AV → Nat
  | .msl id _ _ _ _ => id
  | _ => 0
def mverOf : AV → Nat
  | .msl _ v _ _ _ => v
  | _ => 0
@[go_sem] theorem midOf_msl {id ver sz off n : Nat} : midOf (.msl id ver sz off n) = id := rfl
@[go_sem] theorem mverOf_msl {id ver sz off n : Nat} : mverOf (.msl id ver sz off n) = ver := rfl
theorem OwnR.agg2 {S1 S2 : List Nat} {p q a b : AV} (h1 : OwnL false H S1 [p] [a]) (h2 : OwnL false H S2 [q] [b]) (n1 : S1.Nodup) (n2 : S2.Nodup) (r1 : ∀ i ∈ S1, lo ≤ i ∧ i < hi) (r2 : ∀ i ∈ S2, lo ≤ i ∧ i < hi) (hd : ∀ i ∈ S1, i ∈ S2 → False) : OwnR H lo hi (.agg [p, q]) (.agg [a, b]) := by
  refine ⟨S1 ++ S2, .agg (S1 := S1 ++ S2) (S2 := []) (h1.app h2) .nil (by simp), List.nodup_append.2 ⟨n1, n2, fun a ha b hb e => hd a ha (e ▸ hb)⟩, fun i hi => ?_⟩
  rcases List.mem_append.1 hi with hi | hi
  · exact r1 i hi
  · exact r2 i hi
theorem OwnR.unagg2 {p q a : AV} (h : OwnR H lo hi (.agg [p, q]) a) : ∃ x y, a = .agg [x, y] := by
  obtain ⟨S, hO, _, _⟩ := h
  obtain ⟨bs, rfl, hb⟩ := hO.unagg
  obtain ⟨S1, S2, x, as', rfl, rfl, h1, h2⟩ := hb.uncons
  obtain ⟨y, rfl, _⟩ := h2.one
  exact ⟨x, y, rfl⟩
end Go.TH

/-
  TH, part 46: versions, plain: what is seen is seen once; what is left out; the last turn.
-/
set_option linter.unusedVariables false
set_option linter.unusedSimpArgs false
namespace Go.TH
open Go
theorem ordP_trans {a b c : GVer} (hb : b.Ok) (h1 : ordP a b) (h2 : ordP b c) : ordP a c := by
  unfold ordP GVer.Ok inR at *
  omega
theorem versOk_pair {l : List GVer} (h : versOk l) : ∀ {j i : Nat} (hi : i < j) (hj : j < l.length), ordP l[i] l[j]
  | 0, i, hi, hj => by omega
  | j + 1, i, hi, hj => by
    by_cases e : i = j
    · subst e; exact h.2.1 i hj
    · exact ordP_trans (h.1 j (by omega)) (versOk_pair h (by omega) (by omega)) (h.2.1 j hj)
theorem versOk_cut {l : List GVer} (h : versOk l) {k : Nat} (hk : k < l.length) : versOk (l.take k ++ l.drop (k + 1)) := by
  have hlen : (l.take k ++ l.drop (k + 1)).length = l.length - 1 := by simp; omega
  have get : ∀ j (hj : j < (l.take k ++ l.drop (k + 1)).length), ∃ (i : Nat) (hi : i < l.length), (l.take k ++ l.drop (k + 1))[j] = l[i] ∧ i = if j < k then j else j + 1 := by
    intro j hj
    by_cases e : j < k
    · refine ⟨j, by omega, ?_, by rw [if_pos e]⟩
      rw [List.getElem_append_left (by simp; omega)]
      simp
    · refine ⟨j + 1, by omega, ?_, by rw [if_neg e]⟩
      rw [List.getElem_append_right (by simp; omega)]
      simp only [List.getElem_drop, List.length_take, Nat.min_eq_left (Nat.le_of_lt hk)]
      congr 1
      omega
  refine ⟨fun j hj => ?_, fun j hj => ?_, by have := h.2.2; omega⟩
  · obtain ⟨i, hi, e, _⟩ := get j hj
    rw [e]
    exact h.1 i hi
  · obtain ⟨i, hi, e, e1⟩ := get j (by omega)
    obtain ⟨i2, hi2, e2, e3⟩ := get (j + 1) hj
    rw [e, e2]
    refine versOk_pair h ?_ hi2
    rw [e1, e3]
    split <;> split <;> omega
theorem seen_once {l : List GVer} (h : versOk l) {key time : Int} {i j : Nat} (hi : i < l.length) (hj : j < l.length) (h1 : l[i].key = key ∧ l[i].at time) (h2 : l[j].key = key ∧ l[j].at time) : i = j := by
  unfold GVer.at at h1 h2
  rcases Nat.lt_trichotomy i j with e | e | e
  · have := versOk_pair h e hj
    unfold ordP at this
    omega
  · exact e
  · have := versOk_pair h e hi
    unfold ordP at this
    omega
theorem seenF_uniq {l : List GVer} (h : versOk l) {key time : Int} {k : Nat} (hk : k < l.length) (h1 : l[k].key = key ∧ l[k].at time) : seenF l key time = some l[k] :=
  seenF_at hk h1 fun j hj hjk h2 => by have := seen_once h hj hk h2 h1; omega
theorem seen_zero {l : List GVer} (h : versOk l) (key : Int) : seenV l key 0 = none := by
  rw [seenV_ok h, seenF_none]
  intro j hj h1
  have := h.1 j hj
  unfold GVer.at at h1
  unfold GVer.Ok inR at this
  omega
theorem find_congr {α : Type} {p q : α → Bool} : ∀ {l : List α}, (∀ a ∈ l, p a = q a) → l.find? p = l.find? q
  | [], _ => rfl
  | a :: l, h => by
    rw [List.find?_cons, List.find?_cons, h a (by simp), find_congr (l := l) fun b hb => h b (by simp [hb])]
/-- How many are seen among the first ones. -/
def cntAt (l : List GVer) (key time : Int) (k : Nat) (n : Int) : Prop := (n = 0 ∧ ∀ (j : Nat) (h : j < l.length), j < k → ¬ (l[j].key = key ∧ l[j].at time)) ∨ (n = 1 ∧ ∃ (j : Nat) (h : j < l.length), j < k ∧ l[j].key = key ∧ l[j].at time)
theorem cntAt.zero {l : List GVer} {key time : Int} : cntAt l key time 0 0 := .inl ⟨rfl, fun j h hj => by omega⟩
theorem cntAt.le {l : List GVer} {key time : Int} {k : Nat} {n : Int} (h : cntAt l key time k n) : 0 ≤ n ∧ n ≤ 1 := by rcases h with h | h <;> omega
theorem cntAt.yes {l : List GVer} {key time : Int} {k : Nat} {n : Int} (h : cntAt l key time k n) (hv : versOk l) (hk : k < l.length) (hp : l[k].key = key ∧ l[k].at time) : cntAt l key time (k + 1) (n + 1) := by
  rcases h with ⟨h1, h2⟩ | ⟨h1, j, hj, hjk, h2⟩
  · exact .inr ⟨by omega, k, hk, by omega, hp⟩
  · have := seen_once hv hj hk h2 hp
    omega
theorem cntAt.no {l : List GVer} {key time : Int} {k : Nat} {n : Int} (h : cntAt l key time k n) (hk : k < l.length) (hp : ¬ (l[k].key = key ∧ l[k].at time)) : cntAt l key time (k + 1) n := by
  rcases h with ⟨h1, h2⟩ | ⟨h1, j, hj, hjk, h2⟩
  · refine .inl ⟨h1, fun j hj hjk => ?_⟩
    by_cases e : j = k
    · subst e; exact hp
    · exact h2 j hj (by omega)
  · exact .inr ⟨h1, j, hj, by omega, h2⟩
theorem cntAt.fin {l : List GVer} {key time : Int} {n : Int} (h : cntAt l key time l.length n) (hv : versOk l) : seenIs l key time = decide (n = 1) := by
  unfold seenIs
  rw [seenV_ok hv]
  rcases h with ⟨h1, h2⟩ | ⟨h1, j, hj, hjk, h2⟩
  · rw [seenF_none fun j hj => h2 j hj hj, h1]; rfl
  · rw [seenF_uniq hv hj h2, h1]; rfl
end Go.TH

/-
  TH, part 47: batches, plain.
-/
set_option linter.unusedVariables false
set_option linter.unusedSimpArgs false
namespace Go.TH
open Go
def colOk (n : Nat) (c : GRow) : Prop := c.length = n ∧ ∀ v ∈ c, v.Ok
noncomputable instance (n : Nat) (c : GRow) : Decidable (colOk n c) := Classical.propDecidable _
def batchOk (b : GBt) : Prop := b.cols.length ≤ 4 ∧ b.picked.length ≤ 4 ∧ ∀ c ∈ b.cols, colOk b.picked.length c
noncomputable instance (b : GBt) : Decidable (batchOk b) := Classical.propDecidable _
theorem batchOk_iff (b : GBt) : decide (batchOk b) = (decide (b.cols.length ≤ 4) && decide (b.picked.length ≤ 4) && !(b.cols.any fun c => !decide (colOk b.picked.length c))) := by
  rw [Bool.eq_iff_iff, decide_eq_true_iff]
  simp [batchOk, and_assoc]
theorem colOk_iff (n : Nat) (c : GRow) : decide (colOk n c) = (decide (c.length = n) && !(c.any fun v => !decide v.Ok)) := by
  rw [Bool.eq_iff_iff, decide_eq_true_iff]
  simp [colOk]
abbrev zV : GVal := ⟨0, 0, ⟨#[]⟩⟩
def bRow (b : GBt) (n : Nat) : GRow := b.cols.map fun c => c.getD n zV
noncomputable def bRowsK (b : GBt) : Nat → List GRow
  | 0 => []
  | k + 1 => bRowsK b k ++ if b.picked.getD k false then [bRow b k] else []
noncomputable def bRows (b : GBt) : List GRow := if batchOk b then bRowsK b b.picked.length else []
theorem bRowsK_len (b : GBt) : ∀ k, (bRowsK b k).length ≤ k
  | 0 => Nat.le_refl _
  | k + 1 => by
    have := bRowsK_len b k
    rw [bRowsK]
    split <;> simp <;> omega
theorem bRowsK_all {b : GBt} {P : GRow → Prop} (h : ∀ n, P (bRow b n)) : ∀ {k : Nat}, ∀ r ∈ bRowsK b k, P r
  | 0, r, hr => by simp [bRowsK] at hr
  | k + 1, r, hr => by
    rw [bRowsK] at hr
    rcases List.mem_append.1 hr with hr | hr
    · exact bRowsK_all h r hr
    · split at hr
      · simp at hr; subst hr; exact h k
      · simp at hr
theorem bRow_take {b : GBt} {n k : Nat} (hk : k < b.cols.length) (hn : n < (b.cols[k]).length) : flat GVal.c ((b.cols.take (k + 1)).map fun c => c.getD n zV) = flat GVal.c ((b.cols.take k).map fun c => c.getD n zV) ++ GVal.c (b.cols[k])[n] := by
  have e : (b.cols[k]).getD n zV = (b.cols[k])[n] := by simp [List.getD, hn]
  rw [List.take_add_one, List.getElem?_eq_getElem hk, Option.toList_some, List.map_append, flat_append]
  congr 1
  show flat GVal.c [(b.cols[k]).getD n zV] = _
  rw [e]
  simp [flat]
end Go.TH

/-
  TH, part 48: rows whose neighbours are not the same, plain.
-/
set_option linter.unusedVariables false
set_option linter.unusedSimpArgs false
namespace Go.TH
open Go
def nbK (l : List GRow) : Nat → List GRow
  | 0 => []
  | k + 1 => nbK l k ++ if k = 0 ∨ l[k - 1]? ≠ l[k]? then (l[k]?).toList else []
theorem nbK_yes {l : List GRow} {k : Nat} (hk : k < l.length) (h : k = 0 ∨ l[k - 1]? ≠ l[k]?) : nbK l (k + 1) = nbK l k ++ [l[k]] := by
  rw [nbK, if_pos h, List.getElem?_eq_getElem hk]; rfl
theorem nbK_no {l : List GRow} {k : Nat} (h : ¬ (k = 0 ∨ l[k - 1]? ≠ l[k]?)) : nbK l (k + 1) = nbK l k := by
  rw [nbK, if_neg h, List.append_nil]
theorem nbK_len (l : List GRow) : ∀ k, (nbK l k).length ≤ k
  | 0 => Nat.le_refl _
  | k + 1 => by
    have := nbK_len l k
    rw [nbK]
    split
    · cases l[k]? <;> simp <;> omega
    · simp; omega
theorem nbK_mem {l : List GRow} : ∀ {k : Nat}, ∀ r ∈ nbK l k, r ∈ l
  | 0, r, h => by simp [nbK] at h
  | k + 1, r, h => by
    rw [nbK] at h
    rcases List.mem_append.1 h with h | h
    · exact nbK_mem r h
    · split at h
      · cases e : l[k]? with
        | none => rw [e] at h; simp at h
        | some a => rw [e] at h; simp at h; subst h; exact List.mem_of_getElem? e
      · simp at h
theorem nb_ne {l : List GRow} {k : Nat} (hk : k < l.length) (h0 : 0 < k) : (l[k - 1]? ≠ l[k]?) ↔ l[k - 1]'(by omega) ≠ l[k] := by
  rw [List.getElem?_eq_getElem hk, List.getElem?_eq_getElem (by omega)]
  simp
/-- So far all differ. -/
theorem nbK_all {l : List GRow} : ∀ {k : Nat}, k ≤ l.length → (∀ j, 0 < j → j < k → l[j - 1]? ≠ l[j]?) → nbK l k = l.take k
  | 0, _, _ => by simp [nbK]
  | k + 1, hk, h => by
    rw [nbK_yes (by omega) (by
      by_cases e : k = 0
      · exact .inl e
      · exact .inr (h k (by omega) (by omega))), nbK_all (by omega) fun j h0 hj => h j h0 (by omega), List.take_add_one, List.getElem?_eq_getElem (by omega)]
    rfl
def rowLe (a b : GRow) : Prop := rowOrd a b ≤ 0
def srtd (l : List GRow) : Prop := chain rowOk rowLe l
noncomputable instance (l : List GRow) : Decidable (srtd l) := Classical.propDecidable _
noncomputable def nbOnce (l : List GRow) : List GRow := if srtd l then nbK l l.length else []
def leAll (l : List GRow) : Prop := ∀ j (h : j + 1 < l.length), rowLe l[j] l[j + 1]
noncomputable instance (l : List GRow) : Decidable (leAll l) := Classical.propDecidable _
theorem srtd_iff (l : List GRow) : decide (srtd l) = (!(l.any fun r => !decide (rowOk r)) && decide (leAll l)) := by
  have e : (l.any fun r => !decide (rowOk r)) = false ↔ ∀ (j : Nat) (h : j < l.length), rowOk l[j] := by
    rw [List.any_eq_false]
    refine ⟨fun h j hj => ?_, fun h r hr => ?_⟩
    · have := h _ (List.getElem_mem hj)
      simpa using this
    · obtain ⟨j, hj, rfl⟩ := List.getElem_of_mem hr
      simpa using h j hj
  rw [Bool.eq_iff_iff, decide_eq_true_iff, Bool.and_eq_true, Bool.not_eq_true', e, decide_eq_true_iff]
  exact Iff.rfl
theorem nb_mid {l nb : List GRow} {kk p : Nat} (hk : nb.length = kk) (h1 : kk ≤ p) (hp : p < l.length) : (flat cR (nb ++ l.drop kk)).getD p .junk = rowA l[p] := by
  have hlen : p < (nb ++ l.drop kk).length := by simp; omega
  rw [cR_getD hlen]
  congr 1
  rw [List.getElem_append_right (by omega)]
  simp only [List.getElem_drop]
  congr 1
  omega
theorem nb_put {l nb : List GRow} {kk : Nat} {y : GRow} (hk : nb.length = kk) (h1 : kk < l.length) : (flat cR (nb ++ l.drop kk)).take kk ++ [rowA y] ++ (flat cR (nb ++ l.drop kk)).drop (kk + 1) = flat cR (nb ++ [y] ++ l.drop (kk + 1)) := by
  have hc : ∀ l : List GRow, flat cR l = l.map rowA := fun l => by induction l with
    | nil => rfl
    | cons a l ih => rw [flat_cons, ih]; rfl
  subst hk
  simp only [hc, List.map_append, List.map_cons, List.map_nil]
  rw [List.drop_eq_getElem_cons h1, List.map_cons]
  have := setL_mid (b1 := nb.map rowA) (p := [rowA l[nb.length]]) (xs := [rowA y]) (r := (l.drop (nb.length + 1)).map rowA) (m := nb.length) (by simp) rfl
  unfold setL at this
  rw [List.append_assoc (List.map rowA nb) [rowA y]]
  exact this
theorem nb_len {l nb : List GRow} {kk : Nat} (hk : nb.length = kk) (h1 : kk ≤ l.length) : (flat cR (nb ++ l.drop kk)).length = l.length := by
  rw [cR_flen]; simp; omega
end Go.TH

/-
  TH, part 49: kinds of expressions, plain.
-/
set_option linter.unusedVariables false
set_option linter.unusedSimpArgs false
namespace Go.TH
open Go
def stepK (cols : List GCol) (st : List Int) (p : GPt) : Option (List Int) :=
  if (p.k ≠ 1 ∧ p.v ≠ zV) ∨ (p.k ≠ 2 ∧ p.k ≠ 4 ∧ p.n ≠ 0) then none
  else if p.k = 1 then (if p.v.Ok ∧ p.v.k ≠ 0 then some (st ++ [p.v.k]) else none)
  else if p.k = 2 then (if 0 ≤ p.n ∧ p.n ≤ (cols.length : Int) - 1 then some (st ++ [(cols.getD p.n.toNat ⟨0, false⟩).k]) else none)
  else if p.k = 3 then (if 1 < st.length ∧ st.getD (st.length - 1) 0 = 1 ∧ st.getD (st.length - 2) 0 = 1 then some (st.take (st.length - 2) ++ [1]) else none)
  else if p.k = 4 then (if 1 < st.length ∧ st.getD (st.length - 1) 0 = st.getD (st.length - 2) 0 ∧ 1 ≤ p.n ∧ p.n ≤ 4 then some (st.take (st.length - 2) ++ [3]) else none)
  else if p.k = 5 ∨ p.k = 6 then (if 1 < st.length ∧ st.getD (st.length - 1) 0 = 3 ∧ st.getD (st.length - 2) 0 = 3 then some (st.take (st.length - 2) ++ [3]) else none)
  else if p.k = 7 then (if 0 < st.length ∧ st.getD (st.length - 1) 0 = 3 then some st else none)
  else if p.k = 8 then (if 0 < st.length then some (st.take (st.length - 1) ++ [3]) else none)
  else none
def runK (cols : List GCol) : List GPt → List Int → Option (List Int)
  | [], st => some st
  | p :: e, st => (stepK cols st p).bind (runK cols e)
def endK : Option (List Int) → Int
  | some [k] => k
  | _ => -1
noncomputable def exprKind (cols : List GCol) (e : List GPt) : Int := if colsOk cols ∧ e.length ≤ 12 then endK (runK cols e []) else -1
theorem cI_getD {l : List Int} {i : Nat} (h : i < l.length) : (flat cI l).getD i .junk = .int .i64 (l.getD i 0) := by
  have h2 := cI_fat h
  have h3 : (flat cI l).getD i .junk = ((flat cI l).drop i).getD 0 .junk := by simp [List.getD]
  rw [h3, h2]
  simp [List.getD, h]
theorem cI_map (l : List Int) : flat cI l = l.map (AV.int .i64) := by
  induction l with
  | nil => rfl
  | cons a l ih => rw [flat_cons, ih]; rfl
theorem cI_take (l : List Int) (k : Nat) : (flat cI l).take k = flat cI (l.take k) := by rw [cI_map, cI_map, List.map_take]
theorem cI_snoc (l : List Int) (x : Int) : flat cI l ++ [.int .i64 x] = flat cI (l ++ [x]) := by rw [flat_append]; rfl
/-- What a step says. -/
def StepQ (H : AH) (nx id : Nat) (cols : List GCol) (st : List Int) (p : GPt) (r : AV) (H' : AH) (nx' : Nat) : Prop :=
  ∃ (v' : Nat) (st' : List Int) (b : Bool), r = .tup [.msl id v' 1 0 st'.length, .bool b] ∧ H' id = .live v' (flat cI st') ∧ (∀ i, i < nx → i ≠ id → H' i = H i) ∧ nx ≤ nx' ∧ st'.length ≤ st.length + 1 ∧ stepK cols st p = if b then some st' else none
theorem StepQ.same {H H' : AH} {nx nx' id v : Nat} {cols : List GCol} {st : List Int} {p : GPt} {b : Bool} (hH : H' id = .live v (flat cI st)) (hf : ∀ i, i < nx → i ≠ id → H' i = H i) (hn : nx ≤ nx') (h : stepK cols st p = if b then some st else none) :
    StepQ H nx id cols st p (.tup [.msl id v 1 0 st.length, .bool b]) H' nx' := ⟨v, st, b, rfl, hH, hf, hn, by omega, h⟩
theorem StepQ.snoc {H H2 : AH} {nx nx' id v' len : Nat} {cols : List GCol} {st l : List Int} {x : Int} {p : GPt} {b : Bool} (hl : len = l.length + 1) (hs : l.length ≤ st.length) (hf : ∀ i, i < nx → i ≠ id → H2 i = H i) (hn : nx ≤ nx') (h : stepK cols st p = if b then some (l ++ [x]) else none) :
    StepQ H nx id cols st p (.tup [.msl id v' 1 0 len, .bool b]) (upd H2 id (.live v' (flat cI l ++ [.int .i64 x]))) nx' := by
  refine ⟨v', l ++ [x], b, ?_, ?_, ?_, hn, ?_, h⟩
  · rw [hl, List.length_append]; rfl
  · rw [upd_same, cI_snoc]
  · intro i h1 h2; rw [upd_ne _ _ h2]; exact hf i h1 h2
  · rw [List.length_append]; simp; omega
theorem runK_append (cols : List GCol) : ∀ (a b : List GPt) (st : List Int), runK cols (a ++ b) st = (runK cols a st).bind (runK cols b)
  | [], b, st => rfl
  | p :: a, b, st => by
    show (stepK cols st p).bind (runK cols (a ++ b)) = ((stepK cols st p).bind (runK cols a)).bind (runK cols b)
    cases h : stepK cols st p with
    | none => rfl
    | some s => exact runK_append cols a b s
theorem runK_succ {cols : List GCol} {e : List GPt} {k : Nat} (h : k < e.length) (st : List Int) : runK cols (e.take (k + 1)) st = (runK cols (e.take k) st).bind fun s => stepK cols s e[k] := by
  rw [List.take_succ_eq_append_getElem h, runK_append]
  cases runK cols (e.take k) st with
  | none => rfl
  | some s =>
    show (stepK cols s e[k]).bind (runK cols []) = stepK cols s e[k]
    cases stepK cols s e[k] <;> rfl
theorem runK_dead {cols : List GCol} {e : List GPt} (k : Nat) {st : List Int} (h : runK cols (e.take k) st = none) : runK cols e st = none := by
  have := runK_append cols (e.take k) (e.drop k) st
  rw [List.take_append_drop, h] at this
  exact this
/-- How far a run has come. -/
structure RunQ (cols : List GCol) (e : List GPt) (k : Nat) (cells : List AV) (m : Nat) (b : Bool) : Prop where
  ex : ∃ st, cells = flat cI st ∧ m = st.length ∧ m ≤ k ∧ runK cols (e.take k) [] = if b then some st else none
theorem RunQ.nil {cols : List GCol} {e : List GPt} : RunQ cols e 0 [] 0 true := ⟨[], rfl, rfl, Nat.le_refl _, rfl⟩
theorem RunQ.yes {cols : List GCol} {e : List GPt} {k : Nat} {st st' : List Int} {b : Bool} (h : k < e.length) (hr : runK cols (e.take k) [] = some st) (hs : stepK cols st e[k] = if b then some st' else none) (hl : st.length ≤ k) (hl2 : st'.length ≤ st.length + 1) : RunQ cols e (k + 1) (flat cI st') st'.length b :=
  ⟨st', rfl, rfl, by omega, by rw [runK_succ h, hr]; exact hs⟩
def pTakes (p : GPt) : Nat := if 3 ≤ p.k ∧ p.k ≤ 6 then 2 else if p.k = 7 ∨ p.k = 8 then 1 else 0
def pTells (cols : List GCol) (p : GPt) : Prop :=
  (p.k = 1 ∧ p.n = 0 ∧ p.v.Ok ∧ p.v.k ≠ 0) ∨ (p.k = 2 ∧ inR p.n 0 ((cols.length : Int) - 1) ∧ p.v = zV) ∨ (p.k = 4 ∧ inR p.n 1 4 ∧ p.v = zV) ∨ ((p.k = 3 ∨ p.k = 5 ∨ p.k = 6 ∨ p.k = 7 ∨ p.k = 8) ∧ p.n = 0 ∧ p.v = zV)
def pKind (cols : List GCol) (p : GPt) (l : List Int) : Int × Bool :=
  if p.k = 1 then (p.v.k, true) else if p.k = 2 then ((cols.getD p.n.toNat ⟨0, false⟩).k, true)
  else if p.k = 3 then (1, !(l.any fun k => decide (k ≠ 1))) else if p.k = 4 then (3, decide (l.getD 0 0 = l.getD 1 0))
  else if p.k = 8 then (3, true) else (3, !(l.any fun k => decide (k ≠ 3)))
instance {cols : List GCol} {p : GPt} : Decidable (pTells cols p) := by unfold pTells; infer_instance
theorem drop_two {l : List Int} (h : 2 ≤ l.length) : l.drop (l.length - 2) = [l.getD (l.length - 2) 0, l.getD (l.length - 1) 0] := by
  have h1 : l.length - 2 < l.length := by omega
  have h2 : l.length - 2 + 1 < l.length := by omega
  rw [List.drop_eq_getElem_cons h1, List.drop_eq_getElem_cons h2, List.drop_eq_nil_of_le (by omega)]
  have e : l.length - 1 = l.length - 2 + 1 := by omega
  rw [e]
  simp [List.getD, h1, h2]
theorem drop_one {l : List Int} (h : 1 ≤ l.length) : l.drop (l.length - 1) = [l.getD (l.length - 1) 0] := by
  have h1 : l.length - 1 < l.length := by omega
  rw [List.drop_eq_getElem_cons h1, List.drop_eq_nil_of_le (by omega)]
  simp [List.getD, h1]
theorem take_last {l : List Int} {x : Int} (h : 1 ≤ l.length) (hx : l.getD (l.length - 1) 0 = x) : l.take (l.length - 1) ++ [x] = l := by
  rw [← hx, ← drop_one h, List.take_append_drop]
theorem stepK_eq (cols : List GCol) (st : List Int) (p : GPt) : stepK cols st p = if pTells cols p ∧ pTakes p ≤ st.length ∧ (pKind cols p (st.drop (st.length - pTakes p))).2 = true then some (st.take (st.length - pTakes p) ++ [(pKind cols p (st.drop (st.length - pTakes p))).1]) else none := by
  by_cases c1 : p.k = 1
  · have e1 : pTakes p = 0 := by unfold pTakes; rw [if_neg (by omega), if_neg (by omega)]
    have e2 : pKind cols p (st.drop (st.length - 0)) = (p.v.k, true) := by unfold pKind; rw [if_pos c1]
    have e3 : pTells cols p ↔ p.n = 0 ∧ p.v.Ok ∧ p.v.k ≠ 0 := by unfold pTells; constructor <;> intro h <;> first | (rcases h with h | h | h | h <;> first | exact h.2 | (exfalso; have := h.1; omega)) | exact .inl ⟨c1, h⟩
    rw [e1, e2]
    unfold stepK
    rw [if_pos c1]
    simp only [e3]
    by_cases c2 : p.n = 0 <;> simp_all
  by_cases c2 : p.k = 2
  · have e1 : pTakes p = 0 := by unfold pTakes; rw [if_neg (by omega), if_neg (by omega)]
    have e2 : pKind cols p (st.drop (st.length - 0)) = ((cols.getD p.n.toNat ⟨0, false⟩).k, true) := by unfold pKind; rw [if_neg c1, if_pos c2]
    have e3 : pTells cols p ↔ inR p.n 0 ((cols.length : Int) - 1) ∧ p.v = zV := by unfold pTells; constructor <;> intro h <;> first | (rcases h with h | h | h | h <;> first | exact h.2 | (exfalso; have := h.1; omega)) | exact .inr (.inl ⟨c2, h⟩)
    rw [e1, e2]
    unfold stepK
    rw [if_neg c1, if_pos c2]
    simp only [e3]
    unfold inR
    by_cases c3 : p.v = zV <;> simp_all
  by_cases c3 : p.k = 3
  · have e1 : pTakes p = 2 := by unfold pTakes; rw [if_pos (by omega)]
    have e3 : pTells cols p ↔ p.n = 0 ∧ p.v = zV := by unfold pTells; constructor <;> intro h <;> first | (rcases h with h | h | h | h <;> first | exact h.2 | (exfalso; have := h.1; omega)) | exact .inr (.inr (.inr ⟨by omega, h⟩))
    rw [e1]
    unfold stepK pKind
    simp only [e3]
    by_cases c4 : 2 ≤ st.length
    · rw [drop_two c4]
      by_cases c5 : p.v = zV <;> by_cases c6 : p.n = 0 <;> by_cases c7 : st.getD (st.length - 1) 0 = 1 <;> by_cases c8 : st.getD (st.length - 2) 0 = 1 <;> simp_all <;> omega
    · have z0 : (1 < st.length) = False := eq_false (by omega)
      have z1 : (2 ≤ st.length) = False := eq_false (by omega)
      clear c4
      simp [z0, z1, c3]
  by_cases c4 : p.k = 4
  · have e1 : pTakes p = 2 := by unfold pTakes; rw [if_pos (by omega)]
    have e3 : pTells cols p ↔ inR p.n 1 4 ∧ p.v = zV := by unfold pTells; constructor <;> intro h <;> first | (rcases h with h | h | h | h <;> first | exact h.2 | (exfalso; have := h.1; omega)) | exact .inr (.inr (.inl ⟨by omega, h⟩))
    rw [e1]
    unfold stepK pKind
    simp only [e3]
    unfold inR
    by_cases c5 : 2 ≤ st.length
    · rw [drop_two c5]
      have c5' : 1 < st.length := by omega
      by_cases c5 : p.v = zV <;> by_cases c6 : 1 ≤ p.n <;> by_cases c9 : p.n ≤ 4 <;> by_cases c7 : st.getD (st.length - 1) 0 = st.getD (st.length - 2) 0 <;> simp_all <;> omega
    · have z0 : (1 < st.length) = False := eq_false (by omega)
      have z1 : (2 ≤ st.length) = False := eq_false (by omega)
      clear c5
      simp [z0, z1, c4]
  by_cases c5 : p.k = 5 ∨ p.k = 6
  · have e1 : pTakes p = 2 := by unfold pTakes; rw [if_pos (by omega)]
    have e3 : pTells cols p ↔ p.n = 0 ∧ p.v = zV := by unfold pTells; constructor <;> intro h <;> first | (rcases h with h | h | h | h <;> first | exact h.2 | (exfalso; have := h.1; omega)) | exact .inr (.inr (.inr ⟨by omega, h⟩))
    have c8 : ¬ p.k = 8 := by omega
    rw [e1]
    unfold stepK pKind
    simp only [e3]
    by_cases c9 : 2 ≤ st.length
    · rw [drop_two c9]
      have c4' : 1 < st.length := by omega
      by_cases c5 : p.v = zV <;> by_cases c6 : p.n = 0 <;> by_cases c7 : st.getD (st.length - 1) 0 = 3 <;> by_cases c8 : st.getD (st.length - 2) 0 = 3 <;> simp_all
    · have z0 : (1 < st.length) = False := eq_false (by omega)
      have z1 : (2 ≤ st.length) = False := eq_false (by omega)
      simp [z0, z1, c1, c2, c3, c4, c5]
  by_cases c7 : p.k = 7
  · have e1 : pTakes p = 1 := by unfold pTakes; rw [if_neg (by omega), if_pos (by omega)]
    have e3 : pTells cols p ↔ p.n = 0 ∧ p.v = zV := by unfold pTells; constructor <;> intro h <;> first | (rcases h with h | h | h | h <;> first | exact h.2 | (exfalso; have := h.1; omega)) | exact .inr (.inr (.inr ⟨by omega, h⟩))
    rw [e1]
    unfold stepK pKind
    simp only [e3]
    by_cases c4 : 1 ≤ st.length
    · rw [drop_one c4]
      by_cases c9 : st.getD (st.length - 1) 0 = 3
      · have z2 := take_last c4 c9
        have z0 : (0 < st.length) = True := eq_true (by omega)
        have z1 : (1 ≤ st.length) = True := eq_true (by omega)
        rw [List.getD_eq_getElem?_getD] at c9
        by_cases c5 : p.v = zV <;> by_cases c6 : p.n = 0 <;> simp [z0, z1, c7, c9, c5, c6, z2]
      · by_cases c5 : p.v = zV <;> by_cases c6 : p.n = 0 <;> simp_all
    · have z0 : (0 < st.length) = False := eq_false (by omega)
      have z1 : (1 ≤ st.length) = False := eq_false (by omega)
      simp [z0, z1, c7]
  by_cases c8 : p.k = 8
  · have e1 : pTakes p = 1 := by unfold pTakes; rw [if_neg (by omega), if_pos (by omega)]
    have e3 : pTells cols p ↔ p.n = 0 ∧ p.v = zV := by unfold pTells; constructor <;> intro h <;> first | (rcases h with h | h | h | h <;> first | exact h.2 | (exfalso; have := h.1; omega)) | exact .inr (.inr (.inr ⟨by omega, h⟩))
    rw [e1]
    unfold stepK pKind
    simp only [e3]
    by_cases c4 : 1 ≤ st.length
    · have z0 : (0 < st.length) = True := eq_true (by omega)
      have z1 : (1 ≤ st.length) = True := eq_true (by omega)
      by_cases c5 : p.v = zV <;> by_cases c6 : p.n = 0 <;> simp [z0, z1, c8, c5, c6]
    · have z0 : (0 < st.length) = False := eq_false (by omega)
      have z1 : (1 ≤ st.length) = False := eq_false (by omega)
      simp [z0, z1, c8]
  have e3 : ¬ pTells cols p := by unfold pTells; omega
  rw [if_neg (fun h => e3 h.1)]
  unfold stepK
  simp [c1, c2, c3, c4, c5, c7, c8]
theorem cI_pure1 : ∀ a, pureL (cI a) = true := fun _ => rfl
theorem Pict.mslI {H : AH} {id ver off n i : Nat} {l : List Int} (h : H id = .live ver (flat cI l)) (ho : off = i) (hn : n = l.length - i) : Pict H [.msl id ver 1 off n] [intsA (l.drop i)] := by
  subst ho hn
  have := Pict.snap (H := H) 1 [.msl id ver 1 off (l.length - off)]
  have e : (flat cI l).drop off = flat cI (l.drop off) := by have := flat_drop cI_len1 l off; rw [Nat.mul_one] at this; exact this
  have e2 : (flat cI (l.drop off)).take ((l.length - off) * 1) = flat cI (l.drop off) := by
    rw [List.take_of_length_le]
    rw [flat_len cI_len1, List.length_drop]
    omega
  simp only [List.map, snapA_msl, h, snapM_live, if_true] at this
  rw [e, e2, map_snap 0 H (flat_pure cI_pure1 _)] at this
  unfold intsA
  rw [List.length_drop]
  exact this
theorem RunQ.to {cols : List GCol} {e : List GPt} {k n : Nat} {st : List Int} {x : Int} (h : k < e.length) (hr : runK cols (e.take k) [] = some st) (hl : st.length ≤ k) (hn : n ≤ st.length) (hs : stepK cols st e[k] = some (st.take n ++ [x])) : RunQ cols e (k + 1) (flat cI (st.take n) ++ [.int .i64 x]) (n + 1) true := by
  have := RunQ.yes (b := true) h hr hs hl (by simp; omega)
  rw [cI_snoc]
  have e2 : (st.take n ++ [x]).length = n + 1 := by simp; omega
  rw [e2] at this
  exact this
end Go.TH

/-
  TH, part 50: what an expression must be, plain.
-/
set_option linter.unusedVariables false
set_option linter.unusedSimpArgs false
namespace Go.TH
open Go
structure GFt where
  no : Bool
  nt : Bool
  nf : Bool
def zF : GFt := ⟨false, false, false⟩
def GFt.c (v : GFt) : List AV := [.bool v.no, .bool v.nt, .bool v.nf]
@[simp] theorem GFt.len (v : GFt) : (GFt.c v).length = 3 := rfl
@[simp] theorem GFt.pure (v : GFt) : pureL (GFt.c v) = true := rfl
@[go_sem] theorem GFt.flen (l : List GFt) : (flat GFt.c l).length = l.length * 3 := flat_len GFt.len l
@[go_sem] theorem GFt.fat {l : List GFt} {i : Nat} (h : i < l.length) : (flat GFt.c l).drop (i * 3) = .bool l[i].no :: .bool l[i].nt :: .bool l[i].nf :: flat GFt.c (l.drop (i + 1)) := flat_at GFt.len h
@[go_sem] theorem GFt.keepL {nx d : Nat} {L : List (Nat × Nat)} {H : AH} {l : List GFt} : (flat GFt.c l).map (keepA nx L H d) = flat GFt.c l := map_keep (flat_pure GFt.pure l)
@[go_sem] theorem GFt.snapL {d : Nat} {H : AH} {l : List GFt} : (flat GFt.c l).map (snapA d H) = flat GFt.c l := map_snap d H (flat_pure GFt.pure l)
@[go_sem] theorem GFt.takeL {l : List GFt} : (flat GFt.c l).take (l.length * 3) = flat GFt.c l := takeAll (by rw [flat_len GFt.len]; omega)
def factsA (l : List GFt) : AV := .sl l.length false (flat GFt.c l)
@[simp] theorem factsA_pure (l : List GFt) : pureA (factsA l) = true := by simp [factsA, pureA, flat_pure GFt.pure]
theorem GFt.at {l : List GFt} {i j : Nat} (h : i < l.length) (hj : j < 3) : (flat GFt.c l).getD (i * 3 + j) .junk = (GFt.c (l.getD i zF)).getD j .junk := by
  have e : (flat GFt.c l).getD (i * 3 + j) .junk = ((flat GFt.c l).drop (i * 3)).getD j .junk := by simp [List.getD, List.getElem?_drop]
  have e2 : l.getD i zF = l[i] := by simp [List.getD, h]
  rw [e, e2, flat_at GFt.len h]
  match j, hj with
  | 0, _ => rfl
  | 1, _ => rfl
  | 2, _ => rfl
theorem GFt.at0 {l : List GFt} {i : Nat} (h : i < l.length) : (flat GFt.c l).getD (i * 3) .junk = .bool (l.getD i zF).no := GFt.at (j := 0) h (by omega)
theorem GFt.at1 {l : List GFt} {i : Nat} (h : i < l.length) : (flat GFt.c l).getD (i * 3 + 1) .junk = .bool (l.getD i zF).nt := GFt.at (j := 1) h (by omega)
theorem GFt.at2 {l : List GFt} {i : Nat} (h : i < l.length) : (flat GFt.c l).getD (i * 3 + 2) .junk = .bool (l.getD i zF).nf := GFt.at (j := 2) h (by omega)
theorem GFt.snoc (l : List GFt) (a b c : Bool) : flat GFt.c l ++ [.bool a, .bool b, .bool c] = flat GFt.c (l ++ [⟨a, b, c⟩]) := by rw [flat_append]; rfl
theorem GFt.take (l : List GFt) (k : Nat) : (flat GFt.c l).take (k * 3) = flat GFt.c (l.take k) := flat_take GFt.len l k
/-- What a part finds. -/
def findF (p : GPt) (fr : Int) (l : List GFt) : GFt :=
  if p.k = 1 then ⟨false, decide (p.v.k = 3) && decide (p.v.n = 0), decide (p.v.k = 3) && decide (p.v.n = 1)⟩
  else if p.k = 2 then ⟨decide (fr ≤ p.n), decide (fr ≤ p.n), decide (fr ≤ p.n)⟩
  else if p.k = 3 ∨ p.k = 4 then ⟨(l.getD 0 zF).no || (l.getD 1 zF).no, (l.getD 0 zF).no || (l.getD 1 zF).no, (l.getD 0 zF).no || (l.getD 1 zF).no⟩
  else if p.k = 5 then ⟨((l.getD 0 zF).nt || (l.getD 1 zF).nt) && ((l.getD 0 zF).nf && (l.getD 1 zF).nf), (l.getD 0 zF).nt || (l.getD 1 zF).nt, (l.getD 0 zF).nf && (l.getD 1 zF).nf⟩
  else if p.k = 6 then ⟨((l.getD 0 zF).nt && (l.getD 1 zF).nt) && ((l.getD 0 zF).nf || (l.getD 1 zF).nf), (l.getD 0 zF).nt && (l.getD 1 zF).nt, (l.getD 0 zF).nf || (l.getD 1 zF).nf⟩
  else if p.k = 7 then ⟨(l.getD 0 zF).no, (l.getD 0 zF).nf, (l.getD 0 zF).nt⟩
  else ⟨false, false, (l.getD 0 zF).no⟩
def stepF (fr : Int) (fs : List GFt) (p : GPt) : List GFt := fs.take (fs.length - pTakes p) ++ [findF p fr (fs.drop (fs.length - pTakes p))]
def runF (fr : Int) (e : List GPt) : List GFt := e.foldl (stepF fr) []
theorem runF_succ {fr : Int} {e : List GPt} {k : Nat} (h : k < e.length) : runF fr (e.take (k + 1)) = stepF fr (runF fr (e.take k)) e[k] := by
  unfold runF
  rw [List.take_succ_eq_append_getElem h, List.foldl_append]
  rfl
noncomputable def rejects (cols : List GCol) (e : List GPt) (fr : Int) : Bool := decide (exprKind cols e = 3) && ((runF fr e).getD 0 zF).nt
theorem stepF_len {fr : Int} {fs : List GFt} {p : GPt} (h : pTakes p ≤ fs.length) : (stepF fr fs p).length + pTakes p = fs.length + 1 := by
  unfold stepF
  simp
  omega
theorem runK_take {cols : List GCol} {e : List GPt} {st' : List Int} (h : runK cols e [] = some st') (k : Nat) : ∃ st, runK cols (e.take k) [] = some st := by
  cases h2 : runK cols (e.take k) [] with
  | none => rw [runK_dead k h2] at h; cases h
  | some s => exact ⟨s, rfl⟩
theorem stepK_some {cols : List GCol} {st st' : List Int} {p : GPt} (h : stepK cols st p = some st') : pTells cols p ∧ pTakes p ≤ st.length ∧ st'.length + pTakes p = st.length + 1 := by
  rw [stepK_eq] at h
  by_cases c : pTells cols p ∧ pTakes p ≤ st.length ∧ (pKind cols p (st.drop (st.length - pTakes p))).2 = true
  · rw [if_pos c] at h
    obtain rfl := Option.some.inj h
    refine ⟨c.1, c.2.1, ?_⟩
    have := c.2.1
    simp
    omega
  · rw [if_neg c] at h; cases h
theorem run_len {cols : List GCol} {e : List GPt} {fr : Int} {st' : List Int} (h : runK cols e [] = some st') : ∀ k, k ≤ e.length → ∃ st, runK cols (e.take k) [] = some st ∧ (runF fr (e.take k)).length = st.length ∧ st.length ≤ k
  | 0, _ => ⟨[], rfl, rfl, Nat.le_refl _⟩
  | k + 1, hk => by
    obtain ⟨st, h1, h2, h3⟩ := run_len (fr := fr) h k (by omega)
    obtain ⟨s2, h4⟩ := runK_take h (k + 1)
    have h5 := h4
    rw [runK_succ (by omega), h1] at h5
    have h6 := stepK_some (h5 : stepK cols st e[k] = some s2)
    have h7 := h6.2.1
    have h8 := h6.2.2
    refine ⟨s2, h4, ?_, ?_⟩
    · rw [runF_succ (by omega)]
      have := stepF_len (fr := fr) (fs := runF fr (e.take k)) (p := e[k]) (by omega)
      omega
    · have := h6.2.2
      omega
/-- An expression that says a truth. -/
structure Said (cols : List GCol) (e : List GPt) (fr : Int) : Prop where
  le : e.length ≤ 12
  tell : ∀ k (h : k < e.length), pTells cols e[k] ∧ pTakes e[k] ≤ (runF fr (e.take k)).length ∧ (runF fr (e.take k)).length ≤ k
  fin : (runF fr e).length = 1
theorem said {cols : List GCol} {e : List GPt} {fr : Int} (h : exprKind cols e = 3) : Said cols e fr := by
  unfold exprKind at h
  by_cases c : colsOk cols ∧ e.length ≤ 12
  · rw [if_pos c] at h
    cases hr : runK cols e [] with
    | none => rw [hr] at h; exact absurd h (by simp [endK])
    | some st =>
      rw [hr] at h
      have h1 : st.length = 1 := by
        match st, h with
        | [], h => exact absurd h (by simp [endK])
        | [x], _ => rfl
        | x :: y :: l, h => exact absurd h (by simp [endK])
      refine ⟨c.2, fun k hk => ?_, ?_⟩
      · obtain ⟨s, e1, e2, e3⟩ := run_len (fr := fr) hr k (by omega)
        obtain ⟨s2, h4⟩ := runK_take hr (k + 1)
        rw [runK_succ hk, e1] at h4
        have h6 := stepK_some (h4 : stepK cols s e[k] = some s2)
        exact ⟨h6.1, by omega, by omega⟩
      · obtain ⟨s, e1, e2, e3⟩ := run_len (fr := fr) hr e.length (Nat.le_refl _)
        rw [List.take_length] at e1 e2
        rw [hr] at e1
        obtain rfl := Option.some.inj e1
        omega
  · rw [if_neg c] at h; omega
theorem Pict.mslF {H : AH} {id ver off n i : Nat} {l : List GFt} (h : H id = .live ver (flat GFt.c l)) (ho : off = i * 3) (hn : n = l.length - i) : Pict H [.msl id ver 3 off n] [factsA (l.drop i)] := by
  subst ho hn
  have := Pict.snap (H := H) 1 [.msl id ver 3 (i * 3) (l.length - i)]
  have e : (flat GFt.c l).drop (i * 3) = flat GFt.c (l.drop i) := flat_drop GFt.len l i
  have e2 : (flat GFt.c (l.drop i)).take ((l.length - i) * 3) = flat GFt.c (l.drop i) := by
    rw [List.take_of_length_le]
    rw [flat_len GFt.len, List.length_drop]
    omega
  simp only [List.map, snapA_msl, h, snapM_live, if_true] at this
  rw [e, e2, map_snap 0 H (flat_pure GFt.pure _)] at this
  unfold factsA
  rw [List.length_drop]
  exact this
/-- What a step of the facts says. -/
def StepFQ (H : AH) (nx id : Nat) (fr : Int) (fs : List GFt) (p : GPt) (r : AV) (H' : AH) (nx' : Nat) : Prop :=
  ∃ (v' : Nat), r = .msl id v' 3 0 (stepF fr fs p).length ∧ H' id = .live v' (flat GFt.c (stepF fr fs p)) ∧ (∀ i, i < nx → i ≠ id → H' i = H i) ∧ nx ≤ nx'
theorem StepFQ.mk {H H2 : AH} {nx nx' id v' len n : Nat} {fr : Int} {fs : List GFt} {p : GPt} {a b c : Bool} (ht : pTakes p + n = fs.length) (hl : len = n + 1) (hf : ∀ i, i < nx → i ≠ id → H2 i = H i) (hn : nx ≤ nx') (h : findF p fr (fs.drop n) = ⟨a, b, c⟩) :
    StepFQ H nx id fr fs p (.msl id v' 3 0 len) (upd H2 id (.live v' (flat GFt.c (fs.take n) ++ [.bool a, .bool b, .bool c]))) nx' := by
  have e : fs.length - pTakes p = n := by omega
  have e2 : stepF fr fs p = fs.take n ++ [⟨a, b, c⟩] := by unfold stepF; rw [e, h]
  have e3 : (stepF fr fs p).length = len := by rw [e2]; simp; omega
  refine ⟨v', by rw [e3], ?_, ?_, hn⟩
  · rw [upd_same, GFt.snoc, e2]
  · intro i h1 h2; rw [upd_ne _ _ h2]; exact hf i h1 h2
theorem StepFQ.mk0 {H H2 : AH} {nx nx' id v' len : Nat} {fr : Int} {fs : List GFt} {p : GPt} {a b c : Bool} (ht : pTakes p = 0) (hl : len = fs.length + 1) (hf : ∀ i, i < nx → i ≠ id → H2 i = H i) (hn : nx ≤ nx') (h : findF p fr [] = ⟨a, b, c⟩) :
    StepFQ H nx id fr fs p (.msl id v' 3 0 len) (upd H2 id (.live v' (flat GFt.c fs ++ [.bool a, .bool b, .bool c]))) nx' := by
  have := StepFQ.mk (fr := fr) (fs := fs) (p := p) (v' := v') (len := len) (n := fs.length) (a := a) (b := b) (c := c) (by omega) hl hf hn (by rw [List.drop_length]; exact h)
  rw [List.take_length] at this
  exact this
theorem dropF_two {l : List GFt} (h : 2 ≤ l.length) : l.drop (l.length - 2) = [l.getD (l.length - 2) zF, l.getD (l.length - 1) zF] := by
  have h1 : l.length - 2 < l.length := by omega
  have h2 : l.length - 2 + 1 < l.length := by omega
  rw [List.drop_eq_getElem_cons h1, List.drop_eq_getElem_cons h2, List.drop_eq_nil_of_le (by omega)]
  have e : l.length - 1 = l.length - 2 + 1 := by omega
  rw [e]
  simp [List.getD, h1, h2]
theorem dropF_one {l : List GFt} (h : 1 ≤ l.length) : l.drop (l.length - 1) = [l.getD (l.length - 1) zF] := by
  have h1 : l.length - 1 < l.length := by omega
  rw [List.drop_eq_getElem_cons h1, List.drop_eq_nil_of_le (by omega)]
  simp [List.getD, h1]
end Go.TH

/-
  TH, part 51: locks, plain.
-/
set_option linter.unusedVariables false
set_option linter.unusedSimpArgs false
namespace Go.TH
open Go
def GAk.ok (a : GAk) : Prop := inR a.who 0 3 ∧ inR a.key 0 4 ∧ inR a.kind 1 2
instance (a : GAk) : Decidable a.ok := by unfold GAk.ok; infer_instance
def sameK (a b : GAk) : Prop := a.who = b.who ∧ a.key = b.key
def agn (a b : GAk) : Prop := a.key = b.key ∧ a.who ≠ b.who ∧ (a.kind = 2 ∨ b.kind = 2)
def covers (a b : GAk) : Prop := a.key = b.key ∧ a.who = b.who ∧ b.kind ≤ a.kind
instance (a b : GAk) : Decidable (sameK a b) := by unfold sameK; infer_instance
instance (a b : GAk) : Decidable (agn a b) := by unfold agn; infer_instance
instance (a b : GAk) : Decidable (covers a b) := by unfold covers; infer_instance
theorem agn_comm {a b : GAk} : agn a b ↔ agn b a := by
  unfold agn
  constructor <;> (rintro ⟨h1, h2, h3⟩; exact ⟨h1.symm, fun e => h2 e.symm, h3.symm⟩)
theorem agn_self {a : GAk} : ¬ agn a a := fun h => h.2.1 rfl
/-- What may be granted at once. -/
def freeP (held ahead : List GAk) (a : GAk) : Prop := (∀ b ∈ held, ¬ agn b a) ∧ ∀ b ∈ ahead, ¬ (b.key = a.key ∧ b.who ≠ a.who)
noncomputable instance {held ahead : List GAk} {a : GAk} : Decidable (freeP held ahead a) := Classical.propDecidable _
def heldOk (l : List GAk) (k : Nat) : Prop := ∀ i (h : i < l.length), i < k → l[i].ok ∧ ∀ b ∈ l.take i, ¬ sameK b l[i] ∧ ¬ agn b l[i]
def queOk (held l : List GAk) (k : Nat) : Prop := ∀ i (h : i < l.length), i < k → l[i].ok ∧ (∀ b ∈ l.take i, b.who ≠ l[i].who) ∧ (∀ b ∈ held, ¬ covers b l[i]) ∧ ¬ freeP held (l.take i) l[i]
def locksOk (l : GLk) : Prop := heldOk l.held l.held.length ∧ queOk l.held l.queue l.queue.length
noncomputable instance (l : GLk) : Decidable (locksOk l) := Classical.propDecidable _
/-- The first that is held for a key. -/
def heldK (l : List GAk) (w k : Int) : Int := match l.find? (fun a => decide (a.who = w ∧ a.key = k)) with
  | some a => a.kind
  | none => 0
theorem heldK_pos {l : List GAk} {w k : Int} (h : ∀ a ∈ l, 1 ≤ a.kind) : 0 < heldK l w k ↔ ∃ a ∈ l, a.who = w ∧ a.key = k := by
  unfold heldK
  cases hf : l.find? (fun a => decide (a.who = w ∧ a.key = k)) with
  | some a =>
    have h1 := List.mem_of_find?_eq_some hf
    have h2 := List.find?_some hf
    have h3 := h a h1
    simp only [decide_eq_true_eq] at h2
    exact ⟨fun _ => ⟨a, h1, h2⟩, fun _ => by show 0 < a.kind; omega⟩
  | none =>
    rw [List.find?_eq_none] at hf
    constructor
    · intro h0; exact absurd h0 (by decide)
    · rintro ⟨a, h1, h2⟩; exact absurd (decide_eq_true h2) (hf a h1)
theorem heldK_cov {l : List GAk} {a : GAk} (hu : heldOk l l.length) (ha : 1 ≤ a.kind) : a.kind ≤ heldK l a.who a.key ↔ ∃ b ∈ l, covers b a := by
  unfold heldK
  cases hf : l.find? (fun b => decide (b.who = a.who ∧ b.key = a.key)) with
  | some b =>
    have h1 := List.mem_of_find?_eq_some hf
    have h2 := List.find?_some hf
    simp only [decide_eq_true_eq] at h2
    constructor
    · intro h3; exact ⟨b, h1, h2.2, h2.1, h3⟩
    · rintro ⟨x, h3, h4, h5, h6⟩
      have e : x = b := by
        obtain ⟨i, hi, rfl⟩ := List.getElem_of_mem h1
        obtain ⟨j, hj, rfl⟩ := List.getElem_of_mem h3
        rcases Nat.lt_trichotomy i j with h | h | h
        · exact absurd ⟨h2.1.trans h5.symm, h2.2.trans h4.symm⟩ ((hu j hj hj).2 l[i] (List.mem_take_iff_getElem.2 ⟨i, by omega, rfl⟩)).1
        · subst h; rfl
        · exact absurd ⟨h5.trans h2.1.symm, h4.trans h2.2.symm⟩ ((hu i hi hi).2 l[j] (List.mem_take_iff_getElem.2 ⟨j, by omega, rfl⟩)).1
      rw [← e]; exact h6
  | none =>
    rw [List.find?_eq_none] at hf
    constructor
    · intro h0; exact absurd (show a.kind ≤ 0 from h0) (by omega)
    · rintro ⟨b, h1, h2, h3, h4⟩; exact absurd (decide_eq_true ⟨h3, h2⟩) (hf b h1)
/-- None held stands against another: over the prefixes, or over all. -/
theorem heldOk_all {l : List GAk} (h : heldOk l l.length) : ∀ i (h : i < l.length), ∀ b ∈ l, ¬ agn b l[i] := by
  intro i hi b hb e
  obtain ⟨j, hj, rfl⟩ := List.getElem_of_mem hb
  rcases Nat.lt_trichotomy i j with h1 | h1 | h1
  · exact ((h j hj hj).2 l[i] (List.mem_take_iff_getElem.2 ⟨i, by omega, rfl⟩)).2 (agn_comm.1 e)
  · subst h1; exact agn_self e
  · exact ((h i hi hi).2 l[j] (List.mem_take_iff_getElem.2 ⟨j, by omega, rfl⟩)).2 e
/-- What the first loop of the other side asks. -/
def heldS (l : List GAk) (k : Nat) : Prop := ∀ i (h : i < l.length), i < k → l[i].ok ∧ ¬ 0 < heldK (l.take i) l[i].who l[i].key ∧ ∀ b ∈ l, ¬ agn b l[i]
theorem heldS_iff {l : List GAk} : heldS l l.length ↔ heldOk l l.length := by
  have key : ∀ i (h : i < l.length), (∀ j (hj : j < l.length), j < i → l[j].ok) → (0 < heldK (l.take i) l[i].who l[i].key ↔ ∃ b ∈ l.take i, sameK b l[i]) := fun i hi h => heldK_pos (fun a ha => by
    obtain ⟨j, hj, rfl⟩ := List.mem_take_iff_getElem.1 ha
    have := h j (by omega) (by omega)
    exact this.2.2.1)
  constructor
  · intro h i hi _
    obtain ⟨h1, h2, h3⟩ := h i hi hi
    refine ⟨h1, fun b hb => ⟨fun e => h2 ((key i hi (fun j hj _ => (h j hj hj).1)).2 ⟨b, hb, e⟩), h3 b (List.mem_of_mem_take hb)⟩⟩
  · intro h i hi _
    refine ⟨(h i hi hi).1, fun e => ?_, heldOk_all h i hi⟩
    obtain ⟨b, h1, h2⟩ := (key i hi (fun j hj _ => (h j hj hj).1)).1 e
    exact ((h i hi hi).2 b h1).1 h2
def queS (held l : List GAk) (k : Nat) : Prop := ∀ i (h : i < l.length), i < k → l[i].ok ∧ ¬ l[i].kind ≤ heldK held l[i].who l[i].key ∧ ¬ freeP held (l.take i) l[i] ∧ ∀ b ∈ l.take i, b.who ≠ l[i].who
theorem queS_iff {held l : List GAk} (hh : heldOk held held.length) : queS held l l.length ↔ queOk held l l.length := by
  constructor
  · intro h i hi _
    obtain ⟨h1, h2, h3, h4⟩ := h i hi hi
    exact ⟨h1, h4, fun b hb e => h2 ((heldK_cov hh h1.2.2.1).2 ⟨b, hb, e⟩), h3⟩
  · intro h i hi _
    obtain ⟨h1, h2, h3, h4⟩ := h i hi hi
    refine ⟨h1, fun e => ?_, h4, h2⟩
    obtain ⟨b, hb, e2⟩ := (heldK_cov hh h1.2.2.1).1 e
    exact h3 b hb e2
theorem locksOk_iff {l : GLk} : locksOk l ↔ heldS l.held l.held.length ∧ queS l.held l.queue l.queue.length := by
  constructor
  · rintro ⟨h1, h2⟩; exact ⟨heldS_iff.2 h1, (queS_iff h1).2 h2⟩
  · rintro ⟨h1, h2⟩; have h3 := heldS_iff.1 h1; exact ⟨h3, (queS_iff h3).1 h2⟩
/-- No key twice for one. -/
def uniq (l : List GAk) : Prop := ∀ i j (hi : i < l.length) (hj : j < l.length), i < j → ¬ sameK l[i] l[j]
theorem heldOk.uniq {l : List GAk} (h : heldOk l l.length) : uniq l := fun i j hi hj hij e => ((h j hj hj).2 l[i] (List.mem_take_iff_getElem.2 ⟨i, by omega, rfl⟩)).1 e
theorem uniq.filter {l : List GAk} (h : uniq l) (p : GAk → Bool) : uniq (l.filter p) := by
  have hp : l.Pairwise fun a b => ¬ sameK a b := List.pairwise_iff_getElem.2 fun i j hi hj hij => h i j hi hj hij
  have := hp.filter p
  intro i j hi hj hij
  exact List.pairwise_iff_getElem.1 this i j hi hj hij
/-- Held, with one more. -/
def grantL (l : List GAk) (a : GAk) : List GAk := if l.any (fun b => decide (sameK b a)) then l.map (fun b => if sameK b a then a else b) else l ++ [a]
theorem grantL_uniq {l : List GAk} {a : GAk} (h : uniq l) : uniq (grantL l a) := by
  unfold grantL
  split
  · intro i j hi hj hij e
    simp only [List.length_map] at hi hj
    simp only [List.getElem_map] at e
    apply h i j hi hj hij
    by_cases c1 : sameK l[i] a <;> by_cases c2 : sameK l[j] a
    · rw [if_pos c1, if_pos c2] at e; exact ⟨c1.1.trans c2.1.symm, c1.2.trans c2.2.symm⟩
    · rw [if_pos c1, if_neg c2] at e; exact absurd ⟨e.1.symm, e.2.symm⟩ c2
    · rw [if_neg c1, if_pos c2] at e; exact absurd e c1
    · rw [if_neg c1, if_neg c2] at e; exact e
  · rename_i hn
    intro i j hi hj hij e
    simp only [List.length_append, List.length_cons, List.length_nil] at hi hj
    by_cases c : j < l.length
    · rw [List.getElem_append_left (by omega), List.getElem_append_left c] at e
      exact h i j (by omega) c hij e
    · have c2 : j = l.length := by omega
      subst c2
      rw [List.getElem_append_left (by omega), List.getElem_append_right (by omega)] at e
      simp at e
      exact hn (List.any_eq_true.2 ⟨l[i], List.getElem_mem _, decide_eq_true e⟩)
/-- In place: at the first. -/
theorem grantL_set {l : List GAk} {a : GAk} (h : uniq l) {i : Nat} (hi : i < l.length) (hs : sameK l[i] a) : l.set i a = grantL l a := by
  unfold grantL
  rw [if_pos (List.any_eq_true.2 ⟨l[i], List.getElem_mem _, decide_eq_true hs⟩)]
  apply List.ext_getElem (by simp)
  intro j h1 h2
  simp only [List.length_set] at h1
  rw [List.getElem_set, List.getElem_map]
  by_cases c : i = j
  · subst c; rw [if_pos rfl, if_pos hs]
  · rw [if_neg c, if_neg]
    intro e
    have e2 : sameK l[i] l[j] := ⟨hs.1.trans e.1.symm, hs.2.trans e.2.symm⟩
    rcases Nat.lt_or_gt_of_ne c with h3 | h3
    · exact h i j hi h1 h3 e2
    · exact h j i h1 hi h3 ⟨e2.1.symm, e2.2.symm⟩
theorem grantL_new {l : List GAk} {a : GAk} (h : ∀ b ∈ l, ¬ sameK b a) : l ++ [a] = grantL l a := by
  unfold grantL
  rw [if_neg]
  intro e
  obtain ⟨b, h1, h2⟩ := List.any_eq_true.1 e
  exact h b h1 (of_decide_eq_true h2)
noncomputable def lockAsk (l : GLk) (a : GAk) : GLk × Bool :=
  if ¬ locksOk l ∨ ¬ a.ok then (⟨[], []⟩, false)
  else if l.queue.any (fun b => decide (b.who = a.who)) then (l, false)
  else if l.held.any (fun b => decide (covers b a)) then (l, true)
  else if freeP l.held l.queue a then (⟨grantL l.held a, l.queue⟩, true)
  else (⟨l.held, l.queue ++ [a]⟩, false)
noncomputable def settle (h q : List GAk) (at_ : Nat) : GLk :=
  if hat : at_ < q.length then
    if freeP h (q.take at_) q[at_] then settle (grantL h q[at_]) (q.eraseIdx at_) 0 else settle h q (at_ + 1)
  else ⟨h, q⟩
termination_by q.length * (q.length + 1) + (q.length - at_)
decreasing_by
  · rw [List.length_eraseIdx, if_pos hat]
    obtain ⟨n, hn⟩ : ∃ n, q.length = n + 1 := ⟨q.length - 1, by omega⟩
    rw [hn]
    simp only [Nat.add_sub_cancel]
    have h1 : n * (n + 1) ≤ (n + 1) * (n + 1) := Nat.mul_le_mul_right _ (by omega)
    have h2 : (n + 1) * (n + 1 + 1) = (n + 1) * (n + 1) + (n + 1) := by rw [Nat.mul_add, Nat.mul_one]
    omega
  · omega
noncomputable def lockFree (l : GLk) (who : Int) : GLk :=
  if ¬ locksOk l ∨ ¬ inR who 0 3 then ⟨[], []⟩ else settle (l.held.filter fun a => decide (a.who ≠ who)) (l.queue.filter fun a => decide (a.who ≠ who)) 0
end Go.TH

/-
  TH, part 52: locks, plain, 2.
-/
set_option linter.unusedVariables false
set_option linter.unusedSimpArgs false
namespace Go.TH
open Go
theorem heldK_at {l : List GAk} {w y : Int} {k : Nat} (h : k < l.length) (hit : l[k].who = w ∧ l[k].key = y) (hno : ∀ j (hj : j < l.length), j < k → ¬ (l[j].who = w ∧ l[j].key = y)) : heldK l w y = l[k].kind := by
  have e : l.find? (fun a => decide (a.who = w ∧ a.key = y)) = some l[k] := by
    rw [List.find?_eq_some_iff_getElem]
    refine ⟨decide_eq_true hit, k, h, rfl, fun j hj => ?_⟩
    rw [decide_eq_false (hno j (by omega) hj)]
    rfl
  unfold heldK
  rw [e]
theorem heldK_none {l : List GAk} {w y : Int} (hno : ∀ j (hj : j < l.length), ¬ (l[j].who = w ∧ l[j].key = y)) : heldK l w y = 0 := by
  have e : l.find? (fun a => decide (a.who = w ∧ a.key = y)) = none := by
    rw [List.find?_eq_none]
    intro a ha
    obtain ⟨j, hj, rfl⟩ := List.getElem_of_mem ha
    simpa using hno j hj
  unfold heldK
  rw [e]
theorem any_at {l : List GAk} {p : GAk → Bool} {k : Nat} (h : k < l.length) (hit : p l[k] = true) : l.any p = true := List.any_eq_true.2 ⟨l[k], List.getElem_mem _, hit⟩
theorem any_no {l : List GAk} {p : GAk → Bool} (hno : ∀ j (hj : j < l.length), p l[j] = false) : l.any p = false := by
  rw [List.any_eq_false]
  intro a ha
  obtain ⟨j, hj, rfl⟩ := List.getElem_of_mem ha
  rw [hno j hj]
  exact Bool.noConfusion
theorem heldS.step {l : List GAk} {k : Nat} (h : heldS l k) (hk : k < l.length) (hc : l[k].ok ∧ ¬ 0 < heldK (l.take k) l[k].who l[k].key ∧ ∀ b ∈ l, ¬ agn b l[k]) : heldS l (k + 1) := fun i hi hik => by
  by_cases c : i = k
  · subst c; exact hc
  · exact h i hi (by omega)
theorem heldS.no {l : GLk} {k : Nat} (hk : k < l.held.length) (hc : ¬ (l.held[k].ok ∧ ¬ 0 < heldK (l.held.take k) l.held[k].who l.held[k].key ∧ ∀ b ∈ l.held, ¬ agn b l.held[k])) : decide (locksOk l) = false :=
  decide_eq_false fun e => hc ((locksOk_iff.1 e).1 k hk hk)
theorem queS.step {h l : List GAk} {k : Nat} (hq : queS h l k) (hk : k < l.length) (hc : l[k].ok ∧ ¬ l[k].kind ≤ heldK h l[k].who l[k].key ∧ ¬ freeP h (l.take k) l[k] ∧ ∀ b ∈ l.take k, b.who ≠ l[k].who) : queS h l (k + 1) := fun i hi hik => by
  by_cases c : i = k
  · subst c; exact hc
  · exact hq i hi (by omega)
theorem queS.no {l : GLk} {k : Nat} (hk : k < l.queue.length) (hc : ¬ (l.queue[k].ok ∧ ¬ l.queue[k].kind ≤ heldK l.held l.queue[k].who l.queue[k].key ∧ ¬ freeP l.held (l.queue.take k) l.queue[k] ∧ ∀ b ∈ l.queue.take k, b.who ≠ l.queue[k].who)) : decide (locksOk l) = false :=
  decide_eq_false fun e => hc ((locksOk_iff.1 e).2 k hk hk)
theorem any_all {l : List GAk} {a : GAk} : (l.any fun b => decide (agn b a)) = false ↔ ∀ b ∈ l, ¬ agn b a := by
  rw [List.any_eq_false]
  simp
end Go.TH

/-
  TH, part 53: locks, plain, 3: what an ask leaves, what is left when one is done.
-/
set_option linter.unusedVariables false
set_option linter.unusedSimpArgs false
namespace Go.TH
open Go
theorem heldOk_iff {l : List GAk} : heldOk l l.length ↔ (∀ a ∈ l, a.ok) ∧ uniq l ∧ ∀ a ∈ l, ∀ b ∈ l, ¬ agn b a := by
  constructor
  · intro h
    refine ⟨fun a ha => ?_, h.uniq, fun a ha b hb => ?_⟩
    · obtain ⟨i, hi, rfl⟩ := List.getElem_of_mem ha; exact (h i hi hi).1
    · obtain ⟨i, hi, rfl⟩ := List.getElem_of_mem ha; exact heldOk_all h i hi b hb
  · rintro ⟨h1, h2, h3⟩ i hi _
    refine ⟨h1 _ (List.getElem_mem _), fun b hb => ⟨?_, h3 _ (List.getElem_mem _) b (List.mem_of_mem_take hb)⟩⟩
    obtain ⟨j, hj, rfl⟩ := List.mem_take_iff_getElem.1 hb
    exact h2 j i (by omega) hi (by omega)
def uwho (l : List GAk) : Prop := ∀ i j (hi : i < l.length) (hj : j < l.length), i < j → l[i].who ≠ l[j].who
theorem uwho.pair {l : List GAk} : uwho l ↔ l.Pairwise fun a b => a.who ≠ b.who := by
  rw [List.pairwise_iff_getElem]
  exact ⟨fun h i j hi hj hij => h i j hi hj hij, fun h i j hi hj hij => h i j hi hj hij⟩
theorem queOk_iff {h l : List GAk} : queOk h l l.length ↔ (∀ a ∈ l, a.ok) ∧ uwho l ∧ (∀ a ∈ l, ∀ b ∈ h, ¬ covers b a) ∧ ∀ i (hi : i < l.length), ¬ freeP h (l.take i) l[i] := by
  constructor
  · intro q
    refine ⟨fun a ha => ?_, fun i j hi hj hij => ?_, fun a ha => ?_, fun i hi => (q i hi hi).2.2.2⟩
    · obtain ⟨i, hi, rfl⟩ := List.getElem_of_mem ha; exact (q i hi hi).1
    · exact (q j hj hj).2.1 l[i] (List.mem_take_iff_getElem.2 ⟨i, by omega, rfl⟩)
    · obtain ⟨i, hi, rfl⟩ := List.getElem_of_mem ha; exact (q i hi hi).2.2.1
  · rintro ⟨h1, h2, h3, h4⟩ i hi _
    refine ⟨h1 _ (List.getElem_mem _), fun b hb => ?_, h3 _ (List.getElem_mem _), h4 i hi⟩
    obtain ⟨j, hj, rfl⟩ := List.mem_take_iff_getElem.1 hb
    exact h2 j i (by omega) hi (by omega)
theorem sameK.symm' {a b : GAk} (h : sameK a b) : sameK b a := ⟨h.1.symm, h.2.symm⟩
theorem grantL_mem {l : List GAk} {a b : GAk} (h : b ∈ grantL l a) : b = a ∨ (b ∈ l ∧ ¬ sameK b a) := by
  unfold grantL at h
  split at h
  · obtain ⟨c, hc, rfl⟩ := List.mem_map.1 h
    by_cases e : sameK c a
    · rw [if_pos e]; exact .inl rfl
    · rw [if_neg e]; exact .inr ⟨hc, e⟩
  · rename_i hn
    rcases List.mem_append.1 h with h1 | h1
    · exact .inr ⟨h1, fun e => hn (List.any_eq_true.2 ⟨b, h1, decide_eq_true e⟩)⟩
    · simp at h1; exact .inl h1
theorem grantL_self {l : List GAk} {a : GAk} : a ∈ grantL l a := by
  unfold grantL
  split
  · rename_i h
    obtain ⟨b, hb, e⟩ := List.any_eq_true.1 h
    exact List.mem_map.2 ⟨b, hb, by rw [if_pos (of_decide_eq_true e)]⟩
  · simp
theorem grantL_old {l : List GAk} {a b : GAk} (hb : b ∈ l) (hn : ¬ sameK b a) : b ∈ grantL l a := by
  unfold grantL
  split
  · exact List.mem_map.2 ⟨b, hb, by rw [if_neg hn]⟩
  · exact List.mem_append_left _ hb
theorem grantL_len {l : List GAk} {a : GAk} : (grantL l a).length = l.length ∨ (grantL l a).length = l.length + 1 := by
  unfold grantL
  split <;> simp
theorem grantL_pos {l : List GAk} {a : GAk} (hs : ∀ b ∈ l, ¬ covers b a) {k : Nat} (hk : k < l.length) : ∃ h : k < (grantL l a).length, (grantL l a)[k].who = l[k].who ∧ (grantL l a)[k].key = l[k].key ∧ l[k].kind ≤ (grantL l a)[k].kind := by
  unfold grantL
  split
  · refine ⟨by simpa using hk, ?_⟩
    rw [List.getElem_map]
    by_cases e : sameK l[k] a
    · rw [if_pos e]
      refine ⟨e.1.symm, e.2.symm, ?_⟩
      have := hs l[k] (List.getElem_mem _)
      unfold covers at this
      have h2 := e.2
      have h1 := e.1
      by_cases c : a.kind ≤ l[k].kind
      · exact absurd ⟨h2, h1, c⟩ this
      · omega
    · rw [if_neg e]; exact ⟨rfl, rfl, Int.le_refl _⟩
  · refine ⟨by simp; omega, ?_⟩
    rw [List.getElem_append_left hk]
    exact ⟨rfl, rfl, Int.le_refl _⟩
theorem grantL_ok {l : List GAk} {a : GAk} (h : heldOk l l.length) (ha : a.ok) (hf : ∀ b ∈ l, ¬ agn b a) : heldOk (grantL l a) (grantL l a).length := by
  obtain ⟨h1, h2, h3⟩ := heldOk_iff.1 h
  refine heldOk_iff.2 ⟨fun b hb => ?_, grantL_uniq h2, fun b hb c hc => ?_⟩
  · rcases grantL_mem hb with rfl | ⟨hb, _⟩
    · exact ha
    · exact h1 b hb
  · rcases grantL_mem hb with rfl | ⟨kb, _⟩ <;> rcases grantL_mem hc with rfl | ⟨kc, _⟩
    · exact agn_self
    · exact hf c kc
    · exact fun e => hf b kb (agn_comm.1 e)
    · exact h3 b kb c kc
/-- The locks are ok behind an ask. -/
theorem grant_ok {h q : List GAk} {a : GAk} (hl : locksOk ⟨h, q⟩) (ha : a.ok) (hw : ∀ b ∈ q, b.who ≠ a.who) (hf : freeP h q a) : locksOk ⟨grantL h a, q⟩ := by
  obtain ⟨h1, h2⟩ := hl
  obtain ⟨q1, q2, q3, q4⟩ := queOk_iff.1 h2
  have hk : ∀ b ∈ q, b.key ≠ a.key := fun b hb e => hf.2 b hb ⟨e, hw b hb⟩
  refine ⟨grantL_ok h1 ha hf.1, queOk_iff.2 ⟨q1, q2, fun b hb c hc e => ?_, fun i hi e => q4 i hi ⟨fun b hb e2 => ?_, e.2⟩⟩⟩
  · rcases grantL_mem hc with rfl | ⟨hc, _⟩
    · exact hk b hb e.1.symm
    · exact q3 b hb c hc e
  · refine e.1 b (grantL_old hb fun e3 => ?_) e2
    exact hk q[i] (List.getElem_mem _) (e2.1.symm.trans e3.2)
theorem wait_ok {h q : List GAk} {a : GAk} (hl : locksOk ⟨h, q⟩) (ha : a.ok) (hw : ∀ b ∈ q, b.who ≠ a.who) (hc : ∀ b ∈ h, ¬ covers b a) (hf : ¬ freeP h q a) : locksOk ⟨h, q ++ [a]⟩ := by
  obtain ⟨h1, h2⟩ := hl
  refine ⟨h1, fun i hi _ => ?_⟩
  simp only [List.length_append, List.length_cons, List.length_nil] at hi
  by_cases c : i < q.length
  · have := h2 i c c
    simp only [List.getElem_append_left c, List.take_append_of_le_length (Nat.le_of_lt c)]
    exact this
  · have c2 : i = q.length := by omega
    subst c2
    simp only [List.getElem_append_right (Nat.le_refl _), Nat.sub_self, List.getElem_cons_zero, List.take_append_of_le_length (Nat.le_refl _), List.take_length]
    exact ⟨ha, hw, hc, hf⟩
theorem any_false {l : List GAk} {p : GAk → Prop} [∀ a, Decidable (p a)] (h : ¬ (l.any fun b => decide (p b)) = true) : ∀ b ∈ l, ¬ p b := fun b hb e => h (List.any_eq_true.2 ⟨b, hb, decide_eq_true e⟩)
/-- What an ask leaves: the three ways. -/
theorem lockAsk_law {l : GLk} {a : GAk} (hl : locksOk l) (ha : a.ok) :
    locksOk (lockAsk l a).1 ∧
    ((lockAsk l a).2 = true → (∃ b ∈ (lockAsk l a).1.held, b.who = a.who ∧ b.key = a.key ∧ a.kind ≤ b.kind) ∧ (lockAsk l a).1.queue = l.queue ∧
      ∀ k (hk : k < l.held.length), ∃ h : k < (lockAsk l a).1.held.length, (lockAsk l a).1.held[k].who = l.held[k].who ∧ (lockAsk l a).1.held[k].key = l.held[k].key ∧ l.held[k].kind ≤ (lockAsk l a).1.held[k].kind) ∧
    ((lockAsk l a).2 = false → (lockAsk l a).1.held = l.held) := by
  unfold lockAsk
  rw [if_neg (by intro e; rcases e with e | e; exact e hl; exact e ha)]
  split
  · exact ⟨hl, ⟨fun e => Bool.noConfusion e, fun _ => rfl⟩⟩
  rename_i hw
  have hw' := any_false hw
  split
  · rename_i hc
    obtain ⟨b, hb, e⟩ := List.any_eq_true.1 hc
    have e := of_decide_eq_true e
    exact ⟨hl, fun _ => ⟨⟨b, hb, e.2.1, e.1, e.2.2⟩, rfl, fun k hk => ⟨hk, rfl, rfl, Int.le_refl _⟩⟩, fun e => Bool.noConfusion e⟩
  rename_i hc
  have hc' := any_false hc
  split
  · rename_i hf
    exact ⟨grant_ok hl ha hw' hf, fun _ => ⟨⟨a, grantL_self, rfl, rfl, Int.le_refl _⟩, rfl, fun k hk => grantL_pos hc' hk⟩, fun e => Bool.noConfusion e⟩
  · rename_i hf
    exact ⟨wait_ok hl ha hw' hc' hf, fun e => Bool.noConfusion e, fun _ => rfl⟩
theorem lockAsk_len {l : GLk} {a : GAk} : (lockAsk l a).1.held.length ≤ l.held.length + 1 ∧ (lockAsk l a).1.queue.length ≤ l.queue.length + 1 ∧ (lockAsk l a).1.held.length + (lockAsk l a).1.queue.length ≤ l.held.length + l.queue.length + 1 := by
  unfold lockAsk
  split
  · simp
  split
  · simp
  split
  · simp
  split
  · have := grantL_len (l := l.held) (a := a); simp; omega
  · simp; omega
/-- What settling keeps. -/
structure Stl (w : Int) (l : GLk) (h q : List GAk) : Prop where
  ho : heldOk h h.length
  qo : ∀ a ∈ q, a.ok
  qu : uwho q
  qc : ∀ a ∈ q, ∀ b ∈ h, ¬ covers b a
  kept : ∀ x ∈ l.held, x.who = w ∨ ∃ b ∈ h, b.who = x.who ∧ b.key = x.key ∧ x.kind ≤ b.kind
  hw : ∀ b ∈ h, b.who ≠ w
  qw : ∀ b ∈ q, b.who ≠ w ∧ b ∈ l.queue
theorem mem_eraseIdx_ne {q : List GAk} {i : Nat} {x : GAk} (hx : x ∈ q.eraseIdx i) : ∃ j, ∃ h : j < q.length, j ≠ i ∧ q[j] = x := by
  rw [List.mem_eraseIdx_iff_getElem] at hx
  obtain ⟨j, hj, h1, h2⟩ := hx
  exact ⟨j, hj, h1, h2⟩
theorem Stl.step {w : Int} {l : GLk} {h q : List GAk} (s : Stl w l h q) {i : Nat} (hi : i < q.length) (hf : freeP h (q.take i) q[i]) : Stl w l (grantL h q[i]) (q.eraseIdx i) := by
  have hm : q[i] ∈ q := List.getElem_mem _
  have hne : ∀ x ∈ q.eraseIdx i, x.who ≠ q[i].who := by
    intro x hx
    obtain ⟨j, hj, h1, rfl⟩ := mem_eraseIdx_ne hx
    rcases Nat.lt_or_gt_of_ne h1 with h2 | h2
    · exact s.qu j i hj hi h2
    · exact fun e => s.qu i j hi hj h2 e.symm
  refine ⟨grantL_ok s.ho (s.qo _ hm) hf.1, fun a ha => s.qo a (List.mem_of_mem_eraseIdx ha), uwho.pair.2 ((uwho.pair.1 s.qu).sublist (List.eraseIdx_sublist _ _)), fun a ha b hb => ?_, fun x hx => ?_, fun b hb => ?_, fun b hb => s.qw b (List.mem_of_mem_eraseIdx hb)⟩
  · rcases grantL_mem hb with rfl | ⟨hb, _⟩
    · exact fun e => hne a ha e.2.1.symm
    · exact s.qc a (List.mem_of_mem_eraseIdx ha) b hb
  · rcases s.kept x hx with e | ⟨b, hb, e1, e2, e3⟩
    · exact .inl e
    · refine .inr ?_
      by_cases c : sameK b q[i]
      · refine ⟨q[i], grantL_self, c.1.symm.trans e1, c.2.symm.trans e2, ?_⟩
        have := s.qc _ hm b hb
        by_cases d : q[i].kind ≤ b.kind
        · exact absurd ⟨c.2, c.1, d⟩ this
        · omega
      · exact ⟨b, grantL_old hb c, e1, e2, e3⟩
  · rcases grantL_mem hb with rfl | ⟨hb, _⟩
    · exact (s.qw _ hm).1
    · exact s.hw b hb
theorem settle_law {w : Int} {l : GLk} {h q : List GAk} {k : Nat} (s : Stl w l h q) (hk : ∀ i (hi : i < q.length), i < k → ¬ freeP h (q.take i) q[i]) :
    Stl w l (settle h q k).held (settle h q k).queue ∧ locksOk (settle h q k) := by
  induction h, q, k using settle.induct with
  | case1 h q k hat hf ih =>
    rw [settle, dif_pos hat, if_pos hf]
    exact ih (s.step hat hf) (fun i hi h0 => by omega)
  | case2 h q k hat hf ih =>
    rw [settle, dif_pos hat, if_neg hf]
    refine ih s (fun i hi h0 => ?_)
    by_cases c : i = k
    · subst c; exact hf
    · exact hk i hi (by omega)
  | case3 h q k hat =>
    rw [settle, dif_neg hat]
    exact ⟨s, s.ho, queOk_iff.2 ⟨s.qo, s.qu, s.qc, fun i hi => hk i hi (by have : i < q.length := hi; omega)⟩⟩
theorem settle_len {h q : List GAk} {k : Nat} : (settle h q k).held.length + (settle h q k).queue.length ≤ h.length + q.length := by
  induction h, q, k using settle.induct with
  | case1 h q k hat hf ih =>
    rw [settle, dif_pos hat, if_pos hf]
    have := grantL_len (l := h) (a := q[k])
    have := List.length_eraseIdx_of_lt hat
    omega
  | case2 h q k hat hf ih => rw [settle, dif_pos hat, if_neg hf]; exact ih
  | case3 h q k hat => rw [settle, dif_neg hat]; exact Nat.le_refl _
theorem lockFree_len {l : GLk} {w : Int} : (lockFree l w).held.length + (lockFree l w).queue.length ≤ l.held.length + l.queue.length := by
  unfold lockFree
  split
  · simp
  · have := settle_len (h := l.held.filter fun a => decide (a.who ≠ w)) (q := l.queue.filter fun a => decide (a.who ≠ w)) (k := 0)
    have h1 := List.length_filter_le (fun a : GAk => decide (a.who ≠ w)) l.held
    have h2 := List.length_filter_le (fun a : GAk => decide (a.who ≠ w)) l.queue
    omega
theorem uniq.pair {l : List GAk} : uniq l ↔ l.Pairwise fun a b => ¬ sameK a b := by
  rw [List.pairwise_iff_getElem]
  exact ⟨fun h i j hi hj hij => h i j hi hj hij, fun h i j hi hj hij => h i j hi hj hij⟩
theorem free_start {l : GLk} {w : Int} (hl : locksOk l) : Stl w l (l.held.filter fun a => decide (a.who ≠ w)) (l.queue.filter fun a => decide (a.who ≠ w)) := by
  obtain ⟨h1, h2⟩ := hl
  obtain ⟨a1, a2, a3⟩ := heldOk_iff.1 h1
  obtain ⟨q1, q2, q3, q4⟩ := queOk_iff.1 h2
  have mf : ∀ {l : List GAk} {a : GAk}, a ∈ l.filter (fun a => decide (a.who ≠ w)) → a ∈ l ∧ a.who ≠ w := fun h => by
    rw [List.mem_filter] at h
    exact ⟨h.1, of_decide_eq_true h.2⟩
  refine ⟨heldOk_iff.2 ⟨fun a ha => a1 a (mf ha).1, a2.filter _, fun a ha b hb => a3 a (mf ha).1 b (mf hb).1⟩, fun a ha => q1 a (mf ha).1, uwho.pair.2 ((uwho.pair.1 q2).sublist List.filter_sublist), fun a ha b hb => q3 a (mf ha).1 b (mf hb).1, fun x hx => ?_, fun b hb => (mf hb).2, fun b hb => ⟨(mf hb).2, (mf hb).1⟩⟩
  by_cases c : x.who = w
  · exact .inl c
  · exact .inr ⟨x, List.mem_filter.2 ⟨hx, decide_eq_true c⟩, rfl, rfl, Int.le_refl _⟩
theorem lockFree_law {l : GLk} {w : Int} (hl : locksOk l) (hw : inR w 0 3) : Stl w l (lockFree l w).held (lockFree l w).queue ∧ locksOk (lockFree l w) := by
  unfold lockFree
  rw [if_neg (by intro e; rcases e with e | e; exact e hl; exact e hw)]
  exact settle_law (free_start hl) (fun i hi h0 => by omega)
theorem locksOk_held {l : GLk} (h : locksOk l) : locksOk ⟨l.held, []⟩ := ⟨h.1, fun i hi _ => by simp at hi⟩
theorem locksOk_nil : locksOk ⟨[], []⟩ := ⟨fun i hi _ => by simp at hi, fun i hi _ => by simp at hi⟩
theorem heldOk.step {l : List GAk} {k : Nat} (h : heldOk l k) (hk : k < l.length) (hc : l[k].ok ∧ ∀ b ∈ l.take k, ¬ sameK b l[k] ∧ ¬ agn b l[k]) : heldOk l (k + 1) := fun i hi hik => by
  by_cases c : i = k
  · subst c; exact hc
  · exact h i hi (by omega)
theorem heldOk.no {l : GLk} {k : Nat} (hk : k < l.held.length) (hc : ¬ (l.held[k].ok ∧ ∀ b ∈ l.held.take k, ¬ sameK b l.held[k] ∧ ¬ agn b l.held[k])) : decide (locksOk l) = false :=
  decide_eq_false fun e => hc (e.1 k hk hk)
theorem queOk.step {h l : List GAk} {k : Nat} (hq : queOk h l k) (hk : k < l.length) (hc : l[k].ok ∧ (∀ b ∈ l.take k, b.who ≠ l[k].who) ∧ (∀ b ∈ h, ¬ covers b l[k]) ∧ ¬ freeP h (l.take k) l[k]) : queOk h l (k + 1) := fun i hi hik => by
  by_cases c : i = k
  · subst c; exact hc
  · exact hq i hi (by omega)
theorem queOk.no {l : GLk} {k : Nat} (hk : k < l.queue.length) (hc : ¬ (l.queue[k].ok ∧ (∀ b ∈ l.queue.take k, b.who ≠ l.queue[k].who) ∧ (∀ b ∈ l.held, ¬ covers b l.queue[k]) ∧ ¬ freeP l.held (l.queue.take k) l.queue[k])) : decide (locksOk l) = false :=
  decide_eq_false fun e => hc (e.2 k hk hk)
end Go.TH

/-
  TH, part 54: the bytes of values and rows, plain.
-/
set_option linter.unusedVariables false
set_option linter.unusedSimpArgs false
namespace Go.TH
open Go
def bts (l : List UInt8) : List AV := l.map fun b => AV.int .u8 b.toNat
def bysA (l : List UInt8) : AV := .sl l.length false (bts l)
@[go_sem] theorem bts_len (l : List UInt8) : (bts l).length = l.length := by simp [bts]
theorem bts_app (a b : List UInt8) : bts (a ++ b) = bts a ++ bts b := by simp [bts]
theorem bts_cons (a : UInt8) (b : List UInt8) : bts (a :: b) = .int .u8 a.toNat :: bts b := rfl
theorem bts_nil : bts [] = [] := rfl
theorem bts_cells (s : ByteArray) : bytesCells s = bts s.data.toList := rfl
theorem bts_pure (l : List UInt8) : pureL (bts l) = true := bytesCells_pure ⟨l.toArray⟩
theorem bts_plain (l : List UInt8) : ∀ a ∈ bts l, ∃ k n, a = AV.int k n := by
  intro a ha
  obtain ⟨b, _, rfl⟩ := List.mem_map.1 ha
  exact ⟨_, _, rfl⟩
theorem map_plain {f : AV → AV} (hf : ∀ k n, f (.int k n) = .int k n) (l : List UInt8) : (bts l).map f = bts l := by
  simp [bts, hf]
@[go_sem] theorem bts_snap {d : Nat} {H : AH} {l : List UInt8} : (bts l).map (snapA d H) = bts l := map_snap d H (bts_pure l)
@[go_sem] theorem bts_keep {nx d : Nat} {L : List (Nat × Nat)} {H : AH} {l : List UInt8} : (bts l).map (keepA nx L H d) = bts l := map_keep (bts_pure l)
@[go_sem] theorem bts_loose {l : List UInt8} : (bts l).map looseA = bts l := map_plain (fun _ _ => rfl) l
@[simp] theorem bysA_pure (l : List UInt8) : pureA (bysA l) = true := by simp [bysA, pureA, bts_pure]
@[go_sem] theorem bysA_snap {d : Nat} {H : AH} {l : List UInt8} : snapA d H (bysA l) = bysA l := snapA_id d H _ (bysA_pure l)
@[go_sem] theorem bysA_keep {nx d : Nat} {L : List (Nat × Nat)} {H : AH} {l : List UInt8} : keepA nx L H d (bysA l) = bysA l := keepA_pure (bysA_pure l)
@[go_sem] theorem bysA_loose {l : List UInt8} : looseA (bysA l) = bysA l := by unfold bysA; rw [looseA_sl, bts_loose]
@[go_sem] theorem bts_take {l : List UInt8} {n : Nat} : (bts l).take n = bts (l.take n) := by simp [bts, List.map_take]
@[go_sem] theorem bts_drop {l : List UInt8} {n : Nat} : (bts l).drop n = bts (l.drop n) := by simp [bts, List.map_drop]
theorem bts_at {l : List UInt8} {i : Nat} (h : i < l.length) : (bts l).drop i = .int .u8 l[i].toNat :: bts (l.drop (i + 1)) := by
  rw [bts_drop, List.drop_eq_getElem_cons h, bts_cons]
@[go_sem] theorem bytesA_bts {l : List UInt8} : bytesA (bts l) = ⟨l.toArray⟩ := by
  unfold bytesA bts
  congr 1
  congr 1
  rw [List.map_map]
  conv => rhs; rw [← List.map_id l]
  refine List.map_congr_left fun b _ => ?_
  simp [u8of]
@[go_sem] theorem bts_u8 {l : List UInt8} : (bts l).all isU8 = true := by simp [bts, isU8]
theorem bts_inj {a b : List UInt8} : (⟨a.toArray⟩ : ByteArray) = ⟨b.toArray⟩ ↔ a = b := by
  constructor
  · intro h; have := congrArg (fun x : ByteArray => x.data.toList) h; simpa using this
  · rintro rfl; rfl
/-- A byte of a number. -/
def u8i (n : Int) : UInt8 := UInt8.ofNat (n % 256).toNat
theorem u8i_nat (n : Int) : ((u8i n).toNat : Int) = n % 256 := by
  have h1 : 0 ≤ n % 256 := Int.emod_nonneg _ (by decide)
  have h2 : n % 256 < 256 := Int.emod_lt_of_pos _ (by decide)
  unfold u8i
  rw [UInt8.toNat_ofNat']
  omega
theorem wrap_u8 (n : Int) : IntKind.u8.wrap n = n % 256 := by
  unfold IntKind.wrap
  rfl
theorem u8i_cell (n : Int) : AV.int .u8 (IntKind.u8.wrap n) = .int .u8 (u8i n).toNat := by rw [u8i_nat, wrap_u8]
theorem u8i_toNat (b : UInt8) : u8i b.toNat = b := by
  apply UInt8.toNat_inj.1
  have h1 := u8i_nat (b.toNat : Int)
  have h2 := b.toNat_lt
  omega
theorem u8i_eq {a b : Int} (h : a % 256 = b % 256) : u8i a = u8i b := by unfold u8i; rw [h]
/-! ### Values -/
def vBody (v : GVal) : List UInt8 :=
  if v.k = 1 then [u8i ((v.n + 10000) / 256), u8i (v.n + 10000)] else if v.k = 2 then u8i v.s.size :: v.s.data.toList else if v.k = 3 then [u8i v.n] else []
def vBy (v : GVal) : List UInt8 := u8i v.k :: vBody v
def vB (v : GVal) : List UInt8 := if v.Ok then vBy v else []
theorem vB_nil {v : GVal} : vB v = [] ↔ ¬ v.Ok := by
  unfold vB vBy
  split <;> simp_all
theorem size_len (s : ByteArray) : s.data.toList.length = s.size := by cases s; rfl
theorem vBy_len {v : GVal} (h : v.Ok) : (vBy v).length ≤ 8 := by
  unfold vBy vBody
  unfold GVal.Ok at h
  have := size_len v.s
  split
  · simp
  split
  · simp only [List.length_cons, size_len]; omega
  split <;> simp
theorem vB_len {v : GVal} : (vB v).length ≤ 8 := by
  unfold vB
  split
  · exact vBy_len (by assumption)
  · simp
/-- What is read, ahead of all questions. -/
def b2s (l : List UInt8) : ByteArray := ⟨l.toArray⟩
theorem b2s_size (l : List UInt8) : (b2s l).size = l.length := by simp [b2s, ByteArray.size]
theorem b2s_list (l : List UInt8) : (b2s l).data.toList = l := by simp [b2s]
theorem b2s_of (s : ByteArray) : b2s s.data.toList = s := by
  unfold b2s
  simp
def gB (b : List UInt8) (i : Nat) : Int := ((b.getD i 0).toNat : Int)
theorem gB_range (b : List UInt8) (i : Nat) : 0 ≤ gB b i ∧ gB b i < 256 := by
  unfold gB
  have := (b.getD i 0).toNat_lt
  omega
theorem gB_at {b : List UInt8} {i : Nat} (h : i < b.length) : (b[i].toNat : Int) = gB b i := by simp [gB, List.getD, h]
def cand (b : List UInt8) : GVal :=
  if gB b 0 = 1 ∧ 2 < b.length then ⟨1, 256 * gB b 1 + gB b 2 - 10000, ⟨#[]⟩⟩
  else if gB b 0 = 2 ∧ 1 < b.length ∧ 2 + gB b 1 ≤ b.length then ⟨2, 0, b2s ((b.drop 2).take (gB b 1).toNat)⟩
  else if gB b 0 = 3 ∧ 1 < b.length then ⟨3, gB b 1, ⟨#[]⟩⟩
  else ⟨gB b 0, 0, ⟨#[]⟩⟩
noncomputable def valFrom (b : List UInt8) : GVal × Nat := if b ≠ [] ∧ (cand b).Ok ∧ vB (cand b) <+: b then (cand b, (vB (cand b)).length) else (v0, 0)
theorem getD_u8 {b : List UInt8} {i : Nat} (h : i < b.length) : u8i (gB b i) = b[i] := by
  rw [← gB_at h, u8i_toNat]
/-- The other way to ask the same. -/
noncomputable def valFrom2 (b : List UInt8) : GVal × Nat :=
  if b = [] then (v0, 0)
  else if gB b 0 = 1 ∧ 2 < b.length then (if (cand b).Ok then (cand b, 3) else (v0, 0))
  else if gB b 0 = 2 ∧ 1 < b.length ∧ 2 + gB b 1 ≤ b.length then (if (cand b).Ok then (cand b, (2 + gB b 1).toNat) else (v0, 0))
  else if gB b 0 = 3 ∧ 1 < b.length then (if (cand b).Ok then (cand b, 2) else (v0, 0))
  else if gB b 0 ≠ 0 then (v0, 0) else (cand b, 1)
theorem cons2 {b : List UInt8} (h : 1 < b.length) : ∃ x y r, b = x :: y :: r := by
  match b, h with
  | x :: y :: r, _ => exact ⟨x, y, r, rfl⟩
theorem cons3 {b : List UInt8} (h : 2 < b.length) : ∃ x y z r, b = x :: y :: z :: r := by
  match b, h with
  | x :: y :: z :: r, _ => exact ⟨x, y, z, r, rfl⟩
theorem valFrom_eq (b : List UInt8) : valFrom b = valFrom2 b := by
  unfold valFrom valFrom2
  by_cases h0 : b = []
  · subst h0; simp
  rw [if_neg h0]
  by_cases h1 : gB b 0 = 1 ∧ 2 < b.length
  · rw [if_pos h1]
    obtain ⟨x, y, z, r, rfl⟩ := cons3 h1.2
    have hc : cand (x :: y :: z :: r) = ⟨1, 256 * gB (x :: y :: z :: r) 1 + gB (x :: y :: z :: r) 2 - 10000, ⟨#[]⟩⟩ := by unfold cand; rw [if_pos h1]
    by_cases hk : (cand (x :: y :: z :: r)).Ok
    · have e : vB (cand (x :: y :: z :: r)) = [x, y, z] := by
        unfold vB
        rw [if_pos hk]
        unfold vBy vBody
        rw [hc]
        have g1 := gB_range (x :: y :: z :: r) 1
        have g2 := gB_range (x :: y :: z :: r) 2
        have e0 : u8i 1 = x := by have := getD_u8 (b := x :: y :: z :: r) (i := 0) (by simp); rw [h1.1] at this; exact this
        have e1 : u8i ((256 * gB (x :: y :: z :: r) 1 + gB (x :: y :: z :: r) 2 - 10000 + 10000) / 256) = y := by
          rw [show (256 * gB (x :: y :: z :: r) 1 + gB (x :: y :: z :: r) 2 - 10000 + 10000) / 256 = gB (x :: y :: z :: r) 1 by omega]
          exact getD_u8 (b := x :: y :: z :: r) (i := 1) (by simp)
        have e2 : u8i (256 * gB (x :: y :: z :: r) 1 + gB (x :: y :: z :: r) 2 - 10000 + 10000) = z := by
          rw [u8i_eq (b := gB (x :: y :: z :: r) 2) (by omega)]
          exact getD_u8 (b := x :: y :: z :: r) (i := 2) (by simp)
        simp only [if_true]
        rw [e0, e1, e2]
      rw [if_pos ⟨h0, hk, by rw [e]; exact ⟨r, rfl⟩⟩, if_pos hk, e]
      rfl
    · rw [if_neg (fun h => hk h.2.1), if_neg hk]
  rw [if_neg h1]
  by_cases h2 : gB b 0 = 2 ∧ 1 < b.length ∧ 2 + gB b 1 ≤ b.length
  · rw [if_pos h2]
    obtain ⟨x, y, r, rfl⟩ := cons2 h2.2.1
    have hc : cand (x :: y :: r) = ⟨2, 0, b2s (r.take (gB (x :: y :: r) 1).toNat)⟩ := by unfold cand; rw [if_neg h1, if_pos h2]; rfl
    have g1 := gB_range (x :: y :: r) 1
    by_cases hk : (cand (x :: y :: r)).Ok
    · have hl : r.length + 2 = (x :: y :: r).length := rfl
      have e : vB (cand (x :: y :: r)) = x :: y :: r.take (gB (x :: y :: r) 1).toNat := by
        unfold vB
        rw [if_pos hk]
        unfold vBy vBody
        rw [hc]
        have e0 : u8i 2 = x := by have := getD_u8 (b := x :: y :: r) (i := 0) (by simp); rw [h2.1] at this; exact this
        have e1 : u8i (b2s (r.take (gB (x :: y :: r) 1).toNat)).size = y := by
          rw [b2s_size, List.length_take, show ((min (gB (x :: y :: r) 1).toNat r.length : Nat) : Int) = gB (x :: y :: r) 1 by omega]
          exact getD_u8 (b := x :: y :: r) (i := 1) (by simp)
        simp only [if_true]
        rw [if_neg (by decide), e0, e1, b2s_list]
      rw [if_pos ⟨h0, hk, by rw [e]; exact ⟨r.drop (gB (x :: y :: r) 1).toNat, by simp⟩⟩, if_pos hk, e]
      congr 1
      simp only [List.length_cons, List.length_take]
      omega
    · rw [if_neg (fun h => hk h.2.1), if_neg hk]
  rw [if_neg h2]
  by_cases h3 : gB b 0 = 3 ∧ 1 < b.length
  · rw [if_pos h3]
    obtain ⟨x, y, r, rfl⟩ := cons2 h3.2
    have hc : cand (x :: y :: r) = ⟨3, gB (x :: y :: r) 1, ⟨#[]⟩⟩ := by unfold cand; rw [if_neg h1, if_neg h2, if_pos h3]
    by_cases hk : (cand (x :: y :: r)).Ok
    · have e : vB (cand (x :: y :: r)) = [x, y] := by
        unfold vB
        rw [if_pos hk]
        unfold vBy vBody
        rw [hc]
        have e0 : u8i 3 = x := by have := getD_u8 (b := x :: y :: r) (i := 0) (by simp); rw [h3.1] at this; exact this
        have e1 : u8i (gB (x :: y :: r) 1) = y := getD_u8 (b := x :: y :: r) (i := 1) (by simp)
        simp only [if_true]
        rw [if_neg (by decide), if_neg (by decide), e0, e1]
      rw [if_pos ⟨h0, hk, by rw [e]; exact ⟨r, rfl⟩⟩, if_pos hk, e]
      rfl
    · rw [if_neg (fun h => hk h.2.1), if_neg hk]
  rw [if_neg h3]
  have hc : cand b = ⟨gB b 0, 0, ⟨#[]⟩⟩ := by unfold cand; rw [if_neg h1, if_neg h2, if_neg h3]
  obtain ⟨x, r, rfl⟩ : ∃ x r, b = x :: r := by
    cases b with
    | nil => exact absurd rfl h0
    | cons x r => exact ⟨x, r, rfl⟩
  by_cases h4 : gB (x :: r) 0 = 0
  · rw [show (if gB (x :: r) 0 ≠ 0 then (v0, 0) else (cand (x :: r), 1)) = (cand (x :: r), 1) from if_neg (fun c => c h4)]
    have hk : (cand (x :: r)).Ok := by rw [hc, h4]; exact v0_ok
    have e : vB (cand (x :: r)) = [x] := by
      unfold vB
      rw [if_pos hk]
      unfold vBy vBody
      rw [hc]
      have e0 : u8i (gB (x :: r) 0) = x := getD_u8 (b := x :: r) (i := 0) (by simp)
      simp only
      rw [if_neg (by omega), if_neg (by omega), if_neg (by omega), e0]
    rw [if_pos ⟨h0, hk, by rw [e]; exact ⟨r, rfl⟩⟩, e]
    rfl
  · rw [if_pos h4, if_neg]
    rintro ⟨_, hk, hp⟩
    have hp2 := hp.length_le
    unfold vB at hp hp2
    rw [if_pos hk] at hp hp2
    unfold vBy vBody at hp hp2
    rw [hc] at hp hp2 hk
    unfold GVal.Ok at hk
    simp only [size_nil] at hk hp hp2
    rcases hk with hk | hk | hk | hk
    · exact h4 hk.1
    · rw [if_pos hk.1] at hp2
      simp only [List.length_cons, List.length_nil] at hp2
      exact h1 ⟨hk.1, by simp only [List.length_cons] at hp2 ⊢; omega⟩
    · rw [if_neg (by omega), if_pos hk.1] at hp hp2
      simp only [List.length_cons] at hp2
      refine h2 ⟨hk.1, by simp; omega, ?_⟩
      obtain ⟨t, ht⟩ := hp
      cases r with
      | nil => simp at ht
      | cons y r =>
        simp at ht
        have e : gB (x :: y :: r) 1 = 0 := by
          unfold gB
          simp [← ht.2.1]
          rfl
        rw [e]
        simp
        omega
    · rw [if_neg (by omega), if_neg (by omega), if_pos hk.1] at hp2
      simp only [List.length_cons, List.length_nil] at hp2
      exact h3 ⟨hk.1, by simp only [List.length_cons] at hp2 ⊢; omega⟩
/-- What was written is read. -/
theorem valFrom_vB {v : GVal} (h : v.Ok) (t : List UInt8) : valFrom (vB v ++ t) = (v, (vB v).length) := by
  have hv : vB v = vBy v := if_pos h
  have hne : vB v ++ t ≠ [] := by rw [hv]; unfold vBy; simp
  have hc : cand (vB v ++ t) = v := by
    rw [hv]
    unfold vBy vBody
    have hk := h
    unfold GVal.Ok inR at hk
    have hs : v.s.size = 0 → v.s = ⟨#[]⟩ := fun e => size_zero.2 e
    have g0 : gB (u8i v.k :: vBody v ++ t) 0 = v.k := by
      show (((u8i v.k).toNat : Nat) : Int) = v.k
      rw [u8i_nat]; omega
    unfold vBody at g0
    rcases hk with hk | hk | hk | hk
    · rw [if_neg (by omega), if_neg (by omega), if_neg (by omega)] at g0 ⊢
      unfold cand
      rw [if_neg (by omega), if_neg (by omega), if_neg (by omega), g0]
      exact GVal.eq3' rfl hk.2.1.symm (hs hk.2.2).symm
    · rw [if_pos hk.1] at g0 ⊢
      unfold cand
      rw [if_pos ⟨by omega, by simp⟩]
      have a1 : gB ([u8i v.k, u8i ((v.n + 10000) / 256), u8i (v.n + 10000)] ++ t) 1 = (v.n + 10000) / 256 := by
        show (((u8i ((v.n + 10000) / 256)).toNat : Nat) : Int) = _
        rw [u8i_nat]; omega
      have a2 : gB ([u8i v.k, u8i ((v.n + 10000) / 256), u8i (v.n + 10000)] ++ t) 2 = (v.n + 10000) % 256 := by
        show (((u8i (v.n + 10000)).toNat : Nat) : Int) = _
        rw [u8i_nat]
      rw [a1, a2]
      exact GVal.eq3' hk.1.symm (by simp only; omega) (hs hk.2.2).symm
    · rw [if_neg (by omega), if_pos hk.1] at g0 ⊢
      have a1 : gB (u8i v.k :: u8i v.s.size :: v.s.data.toList ++ t) 1 = v.s.size := by
        show (((u8i v.s.size).toNat : Nat) : Int) = _
        rw [u8i_nat]; omega
      unfold cand
      rw [if_neg (by omega), if_pos ⟨by omega, by simp, by rw [a1]; simp only [List.length_append, List.length_cons, size_len]; omega⟩, a1]
      refine GVal.eq3' hk.1.symm hk.2.1.symm ?_
      show b2s (List.take _ (v.s.data.toList ++ t)) = v.s
      rw [show ((v.s.size : Int)).toNat = v.s.data.toList.length by rw [size_len]; omega, List.take_left']
      · exact b2s_of _
      · rfl
    · rw [if_neg (by omega), if_neg (by omega), if_pos hk.1] at g0 ⊢
      have a1 : gB ([u8i v.k, u8i v.n] ++ t) 1 = v.n := by
        show (((u8i v.n).toNat : Nat) : Int) = _
        rw [u8i_nat]; omega
      unfold cand
      rw [if_neg (by omega), if_neg (by omega), if_pos ⟨by omega, by simp⟩, a1]
      exact GVal.eq3' hk.1.symm rfl (hs hk.2.2).symm
  unfold valFrom
  rw [hc, if_pos ⟨hne, h, List.prefix_append _ _⟩]
theorem valFrom_pos {b : List UInt8} (h : (valFrom b).2 ≠ 0) : (valFrom b).1.Ok ∧ vB (valFrom b).1 = b.take (valFrom b).2 ∧ (valFrom b).2 ≤ b.length := by
  unfold valFrom at h ⊢
  by_cases c : b ≠ [] ∧ (cand b).Ok ∧ vB (cand b) <+: b
  · rw [if_pos c] at h ⊢
    exact ⟨c.2.1, (List.prefix_iff_eq_take.1 c.2.2), c.2.2.length_le⟩
  · rw [if_neg c] at h; exact absurd rfl h
theorem valFrom_len {b : List UInt8} : (valFrom b).2 ≤ 8 ∧ (valFrom b).2 ≤ b.length := by
  unfold valFrom
  split
  · rename_i c; exact ⟨vB_len, c.2.2.length_le⟩
  · simp
/-! ### Rows -/
def rowBy : List GVal → List UInt8
  | [] => []
  | v :: r => vB v ++ rowBy r
theorem rowBy_app (a b : List GVal) : rowBy (a ++ b) = rowBy a ++ rowBy b := by
  induction a with
  | nil => rfl
  | cons v a ih => simp [rowBy, ih]
def rowB (r : GRow) : List UInt8 := if rowOk r then u8i r.length :: rowBy r else []
theorem rowBy_len (r : List GVal) : (rowBy r).length ≤ 8 * r.length := by
  induction r with
  | nil => simp [rowBy]
  | cons v r ih =>
    have := vB_len (v := v)
    simp only [rowBy, List.length_append, List.length_cons]
    omega
theorem rowB_len (r : GRow) : (rowB r).length ≤ 40 := by
  unfold rowB
  split
  · rename_i h
    have := rowBy_len r
    have := h.1
    simp only [List.length_cons]
    omega
  · simp
theorem rowB_nil {r : GRow} : rowB r = [] ↔ ¬ rowOk r := by
  unfold rowB
  split <;> simp_all
noncomputable def rdK (b : List UInt8) : Nat → Option (List GVal × Nat)
  | 0 => some ([], 1)
  | k + 1 => match rdK b k with
    | none => none
    | some (r, a) => if (valFrom (b.drop a)).2 = 0 then none else some (r ++ [(valFrom (b.drop a)).1], a + (valFrom (b.drop a)).2)
noncomputable def rowFrom (b : List UInt8) : GRow × Nat := if b = [] ∨ 4 < gB b 0 then ([], 0) else match rdK b (gB b 0).toNat with
  | none => ([], 0)
  | some x => x
theorem rdK_some {b : List UInt8} {k : Nat} {r : List GVal} {a : Nat} (hb : b ≠ []) (h : rdK b k = some (r, a)) :
    r.length = k ∧ (∀ v ∈ r, v.Ok) ∧ 1 ≤ a ∧ a ≤ b.length ∧ a ≤ 1 + 8 * k ∧ b.take a = b.take 1 ++ rowBy r := by
  induction k generalizing r a with
  | zero =>
    unfold rdK at h
    cases h
    refine ⟨rfl, fun v hv => by simp at hv, Nat.le_refl _, ?_, by omega, by simp [rowBy]⟩
    cases b with
    | nil => exact absurd rfl hb
    | cons x b => simp
  | succ k ih =>
    unfold rdK at h
    cases hk : rdK b k with
    | none => rw [hk] at h; cases h
    | some x =>
      obtain ⟨r1, a1⟩ := x
      rw [hk] at h
      simp only at h
      split at h
      · cases h
      · rename_i hn
        cases h
        obtain ⟨e1, e2, e3, e4, e5, e6⟩ := ih hk
        obtain ⟨f1, f2, f3⟩ := valFrom_pos hn
        have f4 := (valFrom_len (b := b.drop a1)).1
        rw [List.length_drop] at f3
        refine ⟨by simp [e1], fun v hv => ?_, by omega, by omega, by omega, ?_⟩
        · rcases List.mem_append.1 hv with h1 | h1
          · exact e2 v h1
          · simp at h1; rw [h1]; exact f1
        · rw [List.take_add, e6, rowBy_app, ← f2]
          simp [rowBy]
theorem rdK_of {b : List UInt8} {r : List GVal} {x : UInt8} {t : List UInt8} (hr : ∀ v ∈ r, v.Ok) (k : Nat) (hk : k ≤ r.length) (hb : b = x :: (rowBy r ++ t)) : rdK b k = some (r.take k, 1 + (rowBy (r.take k)).length) := by
  induction k with
  | zero => rfl
  | succ k ih =>
    have hk' : k < r.length := by omega
    unfold rdK
    rw [ih (by omega)]
    simp only
    have hd : b.drop (1 + (rowBy (r.take k)).length) = vB r[k] ++ (rowBy (r.drop (k + 1)) ++ t) := by
      have e : rowBy r = rowBy (r.take k) ++ (vB r[k] ++ rowBy (r.drop (k + 1))) := by
        conv => lhs; rw [← List.take_append_drop k r, rowBy_app, List.drop_eq_getElem_cons hk']
        rfl
      rw [hb, e, Nat.add_comm 1, List.drop_succ_cons]
      simp
    have hv := hr _ (List.getElem_mem hk')
    rw [hd, valFrom_vB hv]
    have hne : (vB r[k]).length ≠ 0 := by
      intro e
      exact vB_nil.1 (List.eq_nil_of_length_eq_zero e) hv
    rw [if_neg hne]
    have e2 : r.take (k + 1) = r.take k ++ [r[k]] := by simp
    rw [e2, rowBy_app]
    simp [rowBy, Nat.add_assoc]
/-- Bytes of rows can be read back, whatever is behind them. -/
theorem rowFrom_rowB {r : GRow} (h : rowOk r) (t : List UInt8) : rowFrom (rowB r ++ t) = (r, (rowB r).length) := by
  have e : rowB r = u8i r.length :: rowBy r := if_pos h
  have g : gB (rowB r ++ t) 0 = r.length := by
    rw [e]
    show (((u8i r.length).toNat : Nat) : Int) = _
    rw [u8i_nat]
    have := h.1
    omega
  unfold rowFrom
  rw [g, if_neg (by rw [e]; intro c; rcases c with c | c; simp at c; have := h.1; omega)]
  have := rdK_of (b := rowB r ++ t) (r := r) (x := u8i r.length) (t := t) h.2 r.length (Nat.le_refl _) (by rw [e]; rfl)
  rw [show ((r.length : Nat) : Int).toNat = r.length by omega, this]
  simp only [List.take_length]
  rw [e]
  simp [Nat.add_comm]
theorem rowFrom_pos {b : List UInt8} (h : (rowFrom b).2 ≠ 0) : rowOk (rowFrom b).1 ∧ rowB (rowFrom b).1 = b.take (rowFrom b).2 ∧ (rowFrom b).2 ≤ b.length := by
  unfold rowFrom at h ⊢
  by_cases c : b = [] ∨ 4 < gB b 0
  · rw [if_pos c] at h; exact absurd rfl h
  · rw [if_neg c] at h ⊢
    cases hk : rdK b (gB b 0).toNat with
    | none => rw [hk] at h; exact absurd rfl h
    | some x =>
      obtain ⟨r, a⟩ := x
      have hb : b ≠ [] := fun e => c (.inl e)
      obtain ⟨e1, e2, e3, e4, e5, e6⟩ := rdK_some hb hk
      simp only
      have hr := gB_range b 0
      have hok : rowOk r := ⟨by omega, e2⟩
      refine ⟨hok, ?_, e4⟩
      rw [e6]
      unfold rowB
      rw [if_pos hok]
      cases b with
      | nil => exact absurd rfl hb
      | cons x b =>
        have e0 : u8i r.length = x := by
          rw [show ((r.length : Nat) : Int) = gB (x :: b) 0 by omega]
          exact getD_u8 (b := x :: b) (i := 0) (by simp)
        rw [e0]
        rfl
/-- With one byte less it takes none. -/
theorem rowFrom_less {b : List UInt8} (h : (rowFrom b).2 ≠ 0) : (rowFrom (b.take ((rowFrom b).2 - 1))).2 = 0 := by
  apply Classical.byContradiction
  intro h2
  obtain ⟨a1, a2, a3⟩ := rowFrom_pos h
  obtain ⟨b1, b2, b3⟩ := rowFrom_pos h2
  obtain ⟨n, hn⟩ : ∃ n, n = (rowFrom b).2 := ⟨_, rfl⟩
  rw [← hn] at h h2 a2 a3 b1 b2 b3
  obtain ⟨x, hx⟩ : ∃ x, x = rowFrom (b.take (n - 1)) := ⟨_, rfl⟩
  rw [← hx] at h2 b1 b2 b3
  have hl := List.length_take (i := n - 1) (l := b)
  have e : rowB x.1 ++ b.drop x.2 = b := by
    rw [b2, List.take_take, Nat.min_eq_left (by omega), List.take_append_drop]
  have h3 := rowFrom_rowB b1 (b.drop x.2)
  rw [e] at h3
  have h4 : (rowB x.1).length = x.2 := by rw [b2, List.length_take]; omega
  rw [h3] at hn
  simp only at hn
  omega
theorem rowFrom_len {b : List UInt8} : (rowFrom b).1.length ≤ 4 ∧ (rowFrom b).2 ≤ 33 := by
  unfold rowFrom
  by_cases c : b = [] ∨ 4 < gB b 0
  · rw [if_pos c]; simp
  · rw [if_neg c]
    cases hk : rdK b (gB b 0).toNat with
    | none => simp
    | some x =>
      obtain ⟨r, a⟩ := x
      obtain ⟨e1, e2, e3, e4, e5, e6⟩ := rdK_some (fun e => c (.inl e)) hk
      simp only
      have := gB_range b 0
      omega
end Go.TH
