/- The framework of this proof, part 4: abstract values and what they stand for in a world. -/
import Derived.Test.YtipoefabimcbdaaTf3
import Derived.Laws.IdiomCopy
/-
  TH, part 73: one more number among those that rise, plain.
-/
set_option linter.unusedVariables false
set_option linter.unusedSimpArgs false
namespace Go.TH
open Go
def insL : List Int → Int → List Int
  | [], n => [n]
  | a :: l, n => if n < a then n :: a :: l else a :: insL l n
theorem insL_len : ∀ (l : List Int) (n : Int), (insL l n).length = l.length + 1
  | [], n => rfl
  | a :: l, n => by
    unfold insL
    split
    · rfl
    · simp [insL_len l n]
theorem insL_mem : ∀ {l : List Int} {n x : Int}, x ∈ insL l n ↔ x = n ∨ x ∈ l
  | [], n, x => by simp [insL]
  | a :: l, n, x => by
    unfold insL
    split
    · simp
    · simp only [List.mem_cons, insL_mem (l := l)]
      constructor
      · rintro (h | h | h)
        · exact .inr (.inl h)
        · exact .inl h
        · exact .inr (.inr h)
      · rintro (h | h | h)
        · exact .inr (.inl h)
        · exact .inl h
        · exact .inr (.inr h)
theorem insL_count (f : Int → Bool) : ∀ (l : List Int) (n : Int), ((insL l n).filter f).length = (l.filter f).length + if f n = true then 1 else 0
  | [], n => by cases h : f n <;> simp [insL, h]
  | a :: l, n => by
    have ih := insL_count f l n
    unfold insL
    split
    · cases h : f n <;> cases h2 : f a <;> simp [List.filter_cons, h, h2]
    · cases h2 : f a <;> simp [List.filter_cons, h2, ih]
      omega
theorem insL_all {a : List Int} {n : Int} (h : ∀ x ∈ a, x < n) (b : List Int) : insL (a ++ b) n = a ++ insL b n := by
  induction a with
  | nil => rfl
  | cons x a ih =>
    show (if n < x then n :: x :: (a ++ b) else x :: insL (a ++ b) n) = x :: (a ++ insL b n)
    have := h x (by simp)
    rw [if_neg (by omega), ih (fun y hy => h y (by simp [hy]))]
theorem insL_some {a : List Int} {n : Int} (h : ∃ y ∈ a, n < y) (b : List Int) : insL (a ++ b) n = insL a n ++ b := by
  induction a with
  | nil => obtain ⟨y, hy, _⟩ := h; simp at hy
  | cons x a ih =>
    show (if n < x then n :: x :: (a ++ b) else x :: insL (a ++ b) n) = (if n < x then n :: x :: a else x :: insL a n) ++ b
    split
    · rfl
    · rename_i hx
      rw [ih]
      · rfl
      · obtain ⟨y, hy, hn⟩ := h
        rcases List.mem_cons.1 hy with e | e
        · subst e; exact absurd hn hx
        · exact ⟨y, e, hn⟩
theorem insL_at {l : List Int} {n : Int} {p : Nat} (hp : p ≤ l.length) (h1 : ∀ j (h : j < l.length), j < p → l[j] < n) (h2 : ∀ h : p < l.length, n < l[p]) : insL l n = l.take p ++ n :: l.drop p := by
  have e : insL (l.take p ++ l.drop p) n = l.take p ++ insL (l.drop p) n := insL_all (fun x hx => by
    obtain ⟨j, hj, rfl⟩ := List.getElem_of_mem hx
    have hj' : j < p := by simp at hj; omega
    rw [List.getElem_take]
    exact h1 j (by omega) hj') _
  rw [List.take_append_drop] at e
  rw [e]
  congr 1
  by_cases hl : p < l.length
  · rw [List.drop_eq_getElem_cons hl]
    have := h2 hl
    simp [insL, this]
  · rw [List.drop_eq_nil_of_le (by omega)]
    rfl
theorem insL_rises : ∀ {l : List Int} {n : Int}, l.Pairwise (· < ·) → n ∉ l → (insL l n).Pairwise (· < ·)
  | [], n, _, _ => by simp [insL]
  | a :: l, n, h, hn => by
    obtain ⟨h1, h2⟩ := List.pairwise_cons.1 h
    have ha : n ≠ a := fun e => hn (by simp [e])
    unfold insL
    split
    · rename_i hlt
      refine List.pairwise_cons.2 ⟨fun x hx => ?_, h⟩
      rcases List.mem_cons.1 hx with e | e
      · omega
      · have := h1 x e; omega
    · rename_i hlt
      refine List.pairwise_cons.2 ⟨fun x hx => ?_, insL_rises h2 (fun e => hn (by simp [e]))⟩
      rcases insL_mem.1 hx with e | e
      · omega
      · exact h1 x e
theorem pw_of {l : List Int} (h : ∀ j (h : j + 1 < l.length), l[j] < l[j + 1]) : l.Pairwise (· < ·) := List.pairwise_iff_getElem.2 fun i j hi hj hij => rises_lt h i j hij hj
theorem pw_to {l : List Int} (h : l.Pairwise (· < ·)) : ∀ j (h : j + 1 < l.length), l[j] < l[j + 1] := fun j hj => List.pairwise_iff_getElem.1 h j (j + 1) (by omega) hj (by omega)
theorem insL_cuts {l : List Int} {n : Int} (h : cutsOk l) (hn : inR n (-9999) 9999) (hni : n ∉ l) (hl : l.length < 4) : cutsOk (insL l n) := by
  refine ⟨fun j hj => ?_, pw_to (insL_rises (pw_of h.2.1) hni), by rw [insL_len]; omega⟩
  rcases insL_mem.1 (List.getElem_mem hj) with e | e
  · rw [e]; exact hn
  · obtain ⟨i, hi, e2⟩ := List.getElem_of_mem e
    rw [← e2]
    exact h.1 i hi
theorem cut_pos {l : List Int} {n : Int} (hni : n ∉ l) : ∀ k, k ≤ l.length → (∀ j (h : j < l.length), j < k → l[j] < n) ∨ ∃ p, p ≤ l.length ∧ (∀ j (h : j < l.length), j < p → l[j] < n) ∧ ∀ h : p < l.length, n < l[p]
  | 0, _ => .inl fun j h hj => by omega
  | k + 1, hk => by
    rcases cut_pos hni k (by omega) with h | h
    · have hne : l[k] ≠ n := fun e => hni (e ▸ List.getElem_mem (show k < l.length by omega))
      by_cases c : l[k] < n
      · refine .inl fun j hj hjk => ?_
        by_cases e : j = k
        · subst e; exact c
        · exact h j hj (by omega)
      · exact .inr ⟨k, by omega, h, fun _ => by omega⟩
    · exact .inr h
theorem insL_cnt {l : List Int} {n : Int} (hr : ∀ j (h : j + 1 < l.length), l[j] < l[j + 1]) (hni : n ∉ l) : insL l n = l.take (cntLe l (n - 1)) ++ n :: l.drop (cntLe l (n - 1)) := by
  have key : ∀ p, p ≤ l.length → (∀ j (h : j < l.length), j < p → l[j] < n) → (∀ h : p < l.length, n < l[p]) → insL l n = l.take (cntLe l (n - 1)) ++ n :: l.drop (cntLe l (n - 1)) := fun p hp h1 h2 => by
    rw [cntLe_at hr hp (fun j hj hjp => by have := h1 j hj hjp; omega) (fun h => by have := h2 h; omega)]
    exact insL_at hp h1 h2
  rcases cut_pos hni l.length (Nat.le_refl _) with h | ⟨p, hp, h1, h2⟩
  · exact key l.length (Nat.le_refl _) h (fun h => by omega)
  · exact key p hp h1 h2
/-- How far the reference's loop has come. -/
structure CutK (l : List Int) (n : Int) (k : Nat) (out : List Int) (done added : Bool) : Prop where
  nin : ∀ j (h : j < l.length), j < k → l[j] ≠ n
  st : (done = true ∧ added = false ∧ l.length = 4 ∧ out = l.take k) ∨ (done = false ∧ added = false ∧ l.length ≠ 4 ∧ out = l.take k ∧ ∀ j (h : j < l.length), j < k → l[j] < n) ∨ (done = true ∧ added = true ∧ l.length ≠ 4 ∧ out = insL (l.take k) n ∧ ∃ y ∈ l.take k, n < y)
theorem CutK.nil (l : List Int) (n : Int) : CutK l n 0 [] (decide ((l.length : Int) = 4)) false := by
  refine ⟨fun j h hj => by omega, ?_⟩
  by_cases c : l.length = 4
  · exact .inl ⟨decide_eq_true (by omega), rfl, c, by simp⟩
  · exact .inr (.inl ⟨decide_eq_false (by omega), rfl, c, by simp, fun j h hj => by omega⟩)
theorem CutK.len {l : List Int} {n : Int} {k : Nat} {out : List Int} {done added : Bool} (h : CutK l n k out done added) (hk : k ≤ l.length) : out.length ≤ k + 1 := by
  rcases h.st with h | h | h
  · rw [h.2.2.2, List.length_take]; omega
  · rw [h.2.2.2.1, List.length_take]; omega
  · rw [h.2.2.2.1, insL_len, List.length_take]; omega
/-- It goes in here. -/
theorem CutK.put {l : List Int} {n : Int} {k : Nat} {out : List Int} {added : Bool} (h : CutK l n k out false added) (hk : k < l.length) (hne : l[k] ≠ n) (hlt : n < l[k]) : CutK l n (k + 1) (out ++ [n] ++ [l[k]]) true true := by
  refine ⟨fun j hj hjk => ?_, ?_⟩
  · by_cases e : j = k
    · subst e; exact hne
    · exact h.nin j hj (by omega)
  rcases h.st with h | h | h
  · cases h.1
  · refine .inr (.inr ⟨rfl, rfl, h.2.2.1, ?_, l[k], ?_, hlt⟩)
    · rw [List.take_succ_eq_append_getElem hk, insL_all (fun x hx => by
        obtain ⟨j, hj, rfl⟩ := List.getElem_of_mem hx
        have hj' : j < k := by simp at hj; omega
        rw [List.getElem_take]
        exact h.2.2.2.2 j (by omega) hj'), h.2.2.2.1]
      simp [insL, hlt]
    · rw [List.take_succ_eq_append_getElem hk]; exact List.mem_append.2 (.inr (by simp))
  · cases h.1
/-- Only this one goes in. -/
theorem CutK.keep {l : List Int} {n : Int} {k : Nat} {out : List Int} {done added : Bool} (h : CutK l n k out done added) (hk : k < l.length) (hne : l[k] ≠ n) (hlt : done = true ∨ ¬ n < l[k]) : CutK l n (k + 1) (out ++ [l[k]]) done added := by
  refine ⟨fun j hj hjk => ?_, ?_⟩
  · by_cases e : j = k
    · subst e; exact hne
    · exact h.nin j hj (by omega)
  rcases h.st with h | h | h
  · exact .inl ⟨h.1, h.2.1, h.2.2.1, by rw [List.take_succ_eq_append_getElem hk, h.2.2.2]⟩
  · refine .inr (.inl ⟨h.1, h.2.1, h.2.2.1, by rw [List.take_succ_eq_append_getElem hk, h.2.2.2.1], fun j hj hjk => ?_⟩)
    by_cases e : j = k
    · subst e
      rcases hlt with g | g
      · rw [h.1] at g; cases g
      · omega
    · exact h.2.2.2.2 j hj (by omega)
  · refine .inr (.inr ⟨h.1, h.2.1, h.2.2.1, ?_, ?_⟩)
    · rw [List.take_succ_eq_append_getElem hk, insL_some h.2.2.2.2, h.2.2.2.1]
    · obtain ⟨y, hy, hn⟩ := h.2.2.2.2
      exact ⟨y, by rw [List.take_succ_eq_append_getElem hk]; exact List.mem_append.2 (.inl hy), hn⟩
/-- What comes of cuts and a number. -/
noncomputable def cutMore (l : List Int) (n : Int) : List Int × Bool := if ¬ (cutsOk l ∧ inR n (-9999) 9999) then ([], false) else if n ∈ l ∨ l.length = 4 then (l, false) else (insL l n, true)
theorem cutMore_bad {l : List Int} {n : Int} (h : ¬ (cutsOk l ∧ inR n (-9999) 9999)) : cutMore l n = ([], false) := if_pos h
theorem cutMore_no {l : List Int} {n : Int} (h : cutsOk l) (hn : inR n (-9999) 9999) (h2 : n ∈ l ∨ l.length = 4) : cutMore l n = (l, false) := by unfold cutMore; rw [if_neg (fun e => e ⟨h, hn⟩), if_pos h2]
theorem cutMore_yes {l : List Int} {n : Int} (h : cutsOk l) (hn : inR n (-9999) 9999) (h1 : n ∉ l) (h2 : l.length ≠ 4) : cutMore l n = (insL l n, true) := by
  unfold cutMore; rw [if_neg (fun e => e ⟨h, hn⟩), if_neg (fun e => e.elim h1 h2)]
/-- The end, nothing was put in yet. -/
theorem CutK.fin1 {l : List Int} {n : Int} {k : Nat} {out : List Int} {added : Bool} (h : CutK l n k out false added) (hk : k = l.length) (hc : cutsOk l) (hn : inR n (-9999) 9999) : cutMore l n = (out ++ [n], true) := by
  subst hk
  have hni : n ∉ l := fun e => by
    obtain ⟨j, hj, e2⟩ := List.getElem_of_mem e
    exact h.nin j hj hj e2
  rcases h.st with h | h | h
  · cases h.1
  · rw [cutMore_yes hc hn hni h.2.2.1]
    have e := insL_all (a := l) (n := n) (fun x hx => by
      obtain ⟨j, hj, rfl⟩ := List.getElem_of_mem hx
      exact h.2.2.2.2 j hj hj) []
    rw [List.append_nil] at e
    rw [e, h.2.2.2.1, List.take_length]
    rfl
  · cases h.1
theorem CutK.fin2 {l : List Int} {n : Int} {k : Nat} {out : List Int} {added : Bool} (h : CutK l n k out true added) (hk : k = l.length) (hc : cutsOk l) (hn : inR n (-9999) 9999) : cutMore l n = (out, added) := by
  subst hk
  have hni : n ∉ l := fun e => by
    obtain ⟨j, hj, e2⟩ := List.getElem_of_mem e
    exact h.nin j hj hj e2
  rcases h.st with h | h | h
  · rw [cutMore_no hc hn (.inr h.2.2.1), h.2.2.2, List.take_length, h.2.1]
  · cases h.1
  · rw [cutMore_yes hc hn hni h.2.2.1, h.2.2.2.1, List.take_length, h.2.1]
theorem cutMore_len {l : List Int} {n : Int} : (cutMore l n).1.length ≤ l.length + 1 := by
  unfold cutMore
  split
  · simp
  · split
    · simp
    · simp [insL_len]
end Go.TH

/-
  TH, part 75: a place whose block is written, or another one, by a step of the model.
-/
set_option linter.unusedVariables false
set_option linter.unusedSimpArgs false
namespace Go.TH
open Go
theorem setCell_at {w : World} {b o : Nat} {v : Value} {arr : List Value} {T : TypeId} {fz : Nat × Nat} (h : w.heap[b]? = some (.cells arr.toArray T fz)) : (w.setCell ⟨b, o, none⟩ v).heap[b]? = some (.cells (arr.set o v).toArray T fz) := by
  have hb : b < w.heap.size := heap_some_lt h
  have h2 : w.heap[b] = .cells arr.toArray T fz := by simpa [Array.getElem?_eq_getElem hb] using h
  simp [World.setCell, Array.getElem?_modify, h]
theorem setCell_ne {w : World} {b o x : Nat} {v : Value} (h : x ≠ b) : (w.setCell ⟨b, o, none⟩ v).heap[x]? = w.heap[x]? := by
  simp [World.setCell, Array.getElem?_modify, Ne.symm h]
theorem setCells_ne (b : Nat) : ∀ (vs : List Value) (o : Nat) (w : World) {x : Nat}, x ≠ b → (w.setCells b o vs).heap[x]? = w.heap[x]?
  | [], _, _, _, _ => rfl
  | v :: r, o, w, x, h => by rw [World.setCells, setCells_ne b r _ _ h, setCell_ne h]
theorem setCells_size (b : Nat) : ∀ (vs : List Value) (o : Nat) (w : World), (w.setCells b o vs).heap.size = w.heap.size
  | [], _, _ => rfl
  | v :: r, o, w => by rw [World.setCells, setCells_size b r]; simp [World.setCell]
theorem setCells_rest (b : Nat) : ∀ (vs : List Value) (o : Nat) (w : World), (w.setCells b o vs).os = w.os ∧ (w.setCells b o vs).tape = w.tape ∧ (w.setCells b o vs).output = w.output
  | [], _, _ => ⟨rfl, rfl, rfl⟩
  | v :: r, o, w => by rw [World.setCells]; exact setCells_rest b r _ _
theorem setCells_at (b : Nat) : ∀ (vs : List Value) (o : Nat) (w : World) (arr : List Value) {T : TypeId} {fz : Nat × Nat}, w.heap[b]? = some (.cells arr.toArray T fz) → o + vs.length ≤ arr.length →
    (w.setCells b o vs).heap[b]? = some (.cells (arr.take o ++ vs ++ arr.drop (o + vs.length)).toArray T fz)
  | [], o, w, arr, T, fz, h, hl => by simpa [World.setCells] using h
  | v :: r, o, w, arr, T, fz, h, hl => by
    simp only [List.length_cons] at hl
    rw [World.setCells, setCells_at b r (o + 1) _ (arr.set o v) (setCell_at h) (by simp; omega)]
    congr 3
    have e1 : (arr.set o v).take (o + 1) = arr.take o ++ [v] := by
      rw [List.take_succ_eq_append_getElem (by simp; omega)]
      rw [List.take_set, List.set_eq_of_length_le (by simp; omega)]
      simp
    have e2 : (arr.set o v).drop (o + 1 + r.length) = arr.drop (o + (r.length + 1)) := by
      rw [List.drop_set]
      rw [if_pos (by omega)]
      congr 1
      omega
    rw [e1, e2]
    simp
/-- The place 'id' has the block b' behind a step, all else is as it was. -/
theorem Inv.after {base nx : Nat} {κ : Cx} {H : AH} (hi : Inv base κ H nx) {id ver b' : Nat} {b0 : Option Nat} {cells cells' : List AV} (hl : H id = .live ver cells) (hm : κ.M id = some ⟨ver, b0⟩) (W' : World)
    (vs rest : List Value) (T : TypeId) (hos : W'.os = κ.W.os) (htape : W'.tape = κ.W.tape) (hout : W'.output = κ.W.output) (hsz : κ.W.heap.size ≤ W'.heap.size)
    (hoth : ∀ x, x < κ.W.heap.size → x ≠ b' → W'.heap[x]? = κ.W.heap[x]?) (hblk : W'.heap[b']? = some (Obj.cells (vs ++ rest).toArray T (0, 0)))
    (hb' : (b0 = some b' ∧ ∃ old : Array Value, κ.W.heap[b']? = some (Obj.cells old T (0, 0)) ∧ (vs ++ rest).length = old.size) ∨ κ.W.heap.size ≤ b') (h1 : ∀ v ∈ vs, v.oneCell' = true) (hr : Reps κ vs cells') :
    ∃ κ' : Cx, κ'.W = W' ∧ κ'.M id = some ⟨ver + 1, some b'⟩ ∧ Ext base κ κ' ∧ Inv base κ' (upd H id (.live (ver + 1) cells')) nx := by
  obtain ⟨e0, he0, hv0, hh0⟩ := hi.live id ver cells hl
  rw [hm] at he0
  cases he0
  -- the block is no frozen one, and stands above the base
  have hnF : ¬ κ.F b' := by
    rcases hb' with ⟨rfl, _⟩ | h
    · exact hh0.2.1
    · exact fun hF => absurd (hi.hF _ hF) (by omega)
  have hbb : base ≤ b' := by
    rcases hb' with ⟨rfl, _⟩ | h
    · exact hh0.1
    · exact Nat.le_trans hi.hbase h
  -- who else has it is dead
  have hfresh : ∀ j e, j ≠ id → κ.M j = some e → e.blk = some b' → H j = .dead := by
    intro j e hj he hx
    rcases hb' with ⟨rfl, _⟩ | h
    · rcases hi.inj j id e ⟨ver, some b'⟩ b' hj he hm hx rfl with h | h
      · exact h
      · rw [h] at hl; cases hl
    · cases hd : H j with
      | dead => rfl
      | live v2 c2 =>
        obtain ⟨e2, g1, g2, g3⟩ := hi.live j v2 c2 hd
        rw [he] at g1
        cases g1
        have := g3.lt hx
        omega
  let κ' : Cx := ⟨W', fun i => if i = id then some ⟨ver + 1, some b'⟩ else κ.M i, κ.F⟩
  have hev : Ev κ κ' := by
    refine ⟨fun b hb => ⟨hb, hoth b (hi.hF b hb) (fun e => hnF (e ▸ hb))⟩, fun i e he => ?_, fun b cs T2 fz hb => ?_⟩
    · by_cases hid : i = id
      · subst hid
        rw [hm] at he
        cases he
        exact ⟨⟨ver + 1, some b'⟩, by simp [κ'], .inl (Nat.lt_succ_self _)⟩
      · exact ⟨e, by simp [κ', hid, he], .inr rfl⟩
    · by_cases hbx : b = b'
      · subst hbx
        rcases hb' with ⟨_, old, h2, h3⟩ | h
        · rw [h2] at hb
          cases hb
          exact ⟨_, _, hblk, by simpa using h3⟩
        · exact absurd (heap_some_lt hb) (by omega)
      · exact ⟨cs, fz, (hoth b (heap_some_lt hb) hbx).trans hb, rfl⟩
  refine ⟨κ', rfl, by simp [κ'], ⟨hev, hos, htape, hout, hsz, fun b hb => hoth b (Nat.lt_of_lt_of_le hb hi.hbase) (by omega), fun b hb => .inl hb⟩, ?_⟩
  refine ⟨fun b hb => Nat.lt_of_lt_of_le (hi.hF b hb) hsz, Nat.le_trans hi.hbase hsz, fun i hid => ?_, fun i v2 c2 hd => ?_, fun i j ei ej b hij g1 g2 g3 g4 => ?_⟩
  · have : i ≠ id := by have := hi.live_lt hl; omega
    simp only [κ', if_neg this]
    exact hi.hM i hid
  · by_cases hid : i = id
    · subst hid
      rw [upd_same] at hd
      cases hd
      exact ⟨⟨ver + 1, some b'⟩, by simp [κ'], rfl, hbb, hnF, vs, rest, T, hblk, h1, hr.ev hev⟩
    · rw [upd_ne _ _ hid] at hd
      obtain ⟨e, he, hv, hh⟩ := hi.live i v2 c2 hd
      refine ⟨e, by simp [κ', hid, he], hv, hh.ev hev (fun _ _ _ h => h) (fun b hb => hoth b (hh.lt hb) (fun e2 => ?_))⟩
      subst e2
      rw [hfresh i e hid he hb] at hd
      cases hd
  · simp only [κ'] at g1 g2
    by_cases hii : i = id
    · subst hii
      rw [if_pos rfl] at g1
      cases g1
      cases g3
      rw [if_neg (Ne.symm hij)] at g2
      right
      rw [upd_ne _ _ (Ne.symm hij)]
      exact hfresh j ej (Ne.symm hij) g2 g4
    · rw [if_neg hii] at g1
      by_cases hjj : j = id
      · subst hjj
        rw [if_pos rfl] at g2
        cases g2
        cases g4
        left
        rw [upd_ne _ _ hii]
        exact hfresh i ei hii g1 g3
      · rw [if_neg hjj] at g2
        rw [upd_ne _ _ hii, upd_ne _ _ hjj]
        exact hi.inj i j ei ej b hij g1 g2 g3 g4
end Go.TH
