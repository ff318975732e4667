/- TH: slices.Insert of one number. Made by gen.py. -/
import Derived.Test.YtipoefabimcbdaaTf3
import Derived.Test.YtipoefabimcbdaaTbcm
import Derived.Test.YtipoefabimcbdaaTf4
import Derived.Shelf.Spec.SlicesInsertGrow
import Derived.WalkKit
namespace Go.TH
open Go Go.Proofs Go.RowKit Go.Lib Go.Shelf
set_option linter.unusedSimpArgs false
set_option linter.unusedVariables false
set_option maxHeartbeats 20000000
set_option maxRecDepth 100000
def insRen : Go.Shelf.Ren := ⟨fun x => if x = 21 then 103 else if x = 27 then 133 else if x = 28 then 134 else if x = 35 then 145 else if x = 39 then 148 else x, fun x => if x = 22 then 54 else x, fun x => x⟩
theorem insL21 : Lays2.n21 Try.prog insRen where
  mixed := rfl
  f21 := Try.func103.trans (congrArg some (by kernel_rfl))
  f27 := Try.func133.trans (congrArg some (by kernel_rfl))
  f28 := Try.func134.trans (congrArg some (by kernel_rfl))
  f35 := Try.func145.trans (congrArg some (by kernel_rfl))
  f39 := Try.func148.trans (congrArg some (by kernel_rfl))
  t0 := Try.underlying0
  a0 := Try.isAgg0
  z0 := Try.sizeOf0
  v0 := Try.zeroValue0
  t3 := Try.underlying3
  a3 := Try.isAgg3
  z3 := Try.sizeOf3
  v3 := Try.zeroValue3
  t4 := Try.underlying4
  a4 := Try.isAgg4
  z4 := Try.sizeOf4
  v4 := Try.zeroValue4
  t22 := Try.underlying54
  a22 := Try.isAgg54
  z22 := Try.sizeOf54
  v22 := Try.zeroValue54
  i3 := by kernel_rfl
theorem cell_of {w : World} {b j : Nat} {arr : List Value} {T : TypeId} {fz : Nat × Nat} (h : w.heap[b]? = some (.cells arr.toArray T fz)) : w.cell? ⟨b, j, none⟩ = arr[j]? := by simp [World.cell?, h]
theorem frozen_of {w : World} {b j : Nat} {arr : List Value} {T : TypeId} (h : w.heap[b]? = some (.cells arr.toArray T (0, 0))) : w.frozen? ⟨b, j, none⟩ = false := by simp [World.frozen?, h]
theorem shape_of {w : World} {b : Nat} {arr : List Value} {T : TypeId} {fz : Nat × Nat} (h : w.heap[b]? = some (.cells arr.toArray T fz)) : w.shape? b = some (T, arr.length) := by simp [World.shape?, h]
theorem w_InsertRoom (b n c i vb vc : Nat) (x : Value) (cs tl vs2 : List Value) (w : World) (T T2 : TypeId) (hi : i < n) (hroom : n + 1 ≤ c) (hn : n ≤ 1000000) (hvb : vb ≠ b) (hcl : cs.length = n) (hlen : n + 1 ≤ (cs ++ tl).length)
    (hb : w.heap[b]? = some (.cells (cs ++ tl).toArray T (0, 0))) (hv : w.heap[vb]? = some (.cells (x :: vs2).toArray T2 (0, 0))) (h1c : ∀ v ∈ cs, v.oneCell' = true) (h1x : x.oneCell' = true) :
    Calls Try.prog 103 #[.slice (some ⟨b, 0, none⟩) n c, .int .i64 i, .slice (some ⟨vb, 0, none⟩) 1 vc] w fun e w' =>
      e = .returned (.slice (some ⟨b, 0, none⟩) (n + 1) c) ∧ w' = (w.drew.setCells b (i + 1) (cs.drop i)).setCells b i [x] := by
  have mixed : Try.prog.follows .mixedOrders = true := by kernel_rfl
  have hcs : ∀ j v, cs[j]? = some v → w.cell? ⟨b, j, none⟩ = some v := fun j v hj => by
    rw [cell_of hb, List.getElem?_append_left (List.getElem?_eq_some_iff.1 hj).1]; exact hj
  have hsp : ∀ j, j < n + 1 → (w.cell? ⟨b, j, none⟩).isSome = true := fun j hj => by
    rw [cell_of hb, List.getElem?_eq_getElem (by omega)]; rfl
  have hfz : ∀ j, w.frozen? ⟨b, j, none⟩ = false := fun j => frozen_of hb
  have hvs : w.cell? ⟨vb, 0, none⟩ = some x := by rw [cell_of hv]; rfl
  have hsz : (Try.prog.info? 3).map (·.size) = some 1 := by
    obtain ⟨i0, hi0, h0, h1, h2⟩ := info_parts insL21.i3
    have : Try.prog.info? 3 = some i0 := hi0
    rw [this]; simp [h1]
  have hov : ∀ lb cb, (callFunc 133 #[.slice (some ⟨vb, 0, none⟩) 1 vc, .slice (some ⟨b, i + 1, none⟩) lb cb]).run Try.prog w = .ok (.value (.bool false)) w := fun lb cb => by
    rw [run_callFunc_extern Try.func133 (by kernel_rfl) (by kernel_rfl) (by kernel_rfl) (e := Extern.SlicesOverlaps.overlaps #[54, 54] #[4]) (by kernel_rfl),
      Lib.run_overlaps_apart w 54 4 3 Try.underlying54 1 Try.sizeOf3 ⟨vb, 0, none⟩ ⟨b, i + 1, none⟩ 1 vc lb cb hvb T2 T _ _ (shape_of hv) (shape_of hb) (by omega) (frozen_of hv) (frozen_of hv)]
    rfl
  have hdl : (cs.drop i).length = n - i := by rw [List.length_drop, hcl]
  have hw1 : IntKind.i64.wrap ((i : Int) + 1) = (i : Int) + 1 := by rw [IntKind.wrap_i64]; omega
  have hw2 : IntKind.i64.wrap ((n : Int) + 1) = (n : Int) + 1 := by rw [IntKind.wrap_i64]; omega
  have hz2 : ¬ ((i : Int) = (n : Int)) := by omega
  have hz3 : ¬ ((c : Int) < (n : Int) + 1) := by omega
  have hb1 : (0 : Int) ≤ (i : Int) + 1 := by omega
  have hb0 : (0 : Int) ≤ (n : Int) + 1 := by omega
  have hin : i ≤ n := by omega
  have hic : i ≤ c := by omega
  have htn : ((i : Int) + 1).toNat = i + 1 := by omega
  have htm : ((n : Int) + 1).toNat = n + 1 := by omega
  have hb2 : ¬ (c = i + 1) := by omega
  have hb3 : (i : Int) ≤ (n : Int) + 1 := by omega
  have hb4 : ¬ (c = i) := by omega
  have hb5 : (n : Int) + 1 ≤ (c : Int) := by omega
  have hb6 : (i : Int) + 1 ≤ (n : Int) + 1 := by omega
  have hcp1 : ∀ ty dc sc, (Builtin.copy_ #[54, 54] ty #[.slice (some ⟨b, i + 1, none⟩) (n - i) dc, .slice (some ⟨b, i, none⟩) (n + 1 - i) sc]).run Try.prog w.drew = .ok (goInt (cs.drop i).length) (w.drew.setCells b (i + 1) (cs.drop i)) := fun ty dc sc =>
    run_copy_cells w.drew _ _ ty 3 b (i + 1) (n - i) dc ⟨b, i, none⟩ (n + 1 - i) sc (cs.drop i) Try.underlying54 hsz (by rw [hdl]; simp only [Nat.min_def]; split <;> omega)
      (fun j v hj => by rw [Addr.add_lit]; exact hcs (i + j) v (by rwa [List.getElem?_drop] at hj))
      (fun j hj => hsp _ (by omega)) (fun j hj => hfz _) (fun v hv => h1c v (List.mem_of_mem_drop hv))
  obtain ⟨W1, hW1⟩ : ∃ W1, W1 = w.drew.setCells b (i + 1) (cs.drop i) := ⟨_, rfl⟩
  have hbW : W1.heap[b]? = some (.cells ((cs ++ tl).take (i + 1) ++ cs.drop i ++ (cs ++ tl).drop (i + 1 + (cs.drop i).length)).toArray T (0, 0)) := by
    rw [hW1]
    exact setCells_at b _ _ w.drew _ hb (by omega)
  have hvW : W1.heap[vb]? = some (.cells (x :: vs2).toArray T2 (0, 0)) := by
    rw [hW1, setCells_ne b _ _ _ hvb]; exact hv
  have hcp2 : ∀ (W : World), W.heap = W1.heap → ∀ ty dc, (Builtin.copy_ #[54, 54] ty #[.slice (some ⟨b, i, none⟩) (n + 1 - i) dc, .slice (some ⟨vb, 0, none⟩) 1 vc]).run Try.prog W = .ok (goInt [x].length) (W.setCells b i [x]) := fun W hW ty dc =>
    run_copy_cells W _ _ ty 3 b i (n + 1 - i) dc ⟨vb, 0, none⟩ 1 vc [x] Try.underlying54 hsz (by simp only [List.length_cons, List.length_nil, Nat.min_def]; split <;> omega)
      (fun j v hj => by
        rw [Addr.add_lit, cell_of (by rw [hW]; exact hvW)]
        match j with
        | 0 => simpa using hj
        | j + 1 => simp at hj)
      (fun j hj => by
        simp at hj
        subst hj
        rw [cell_of (by rw [hW]; exact hbW), List.getElem?_eq_getElem (by simp; omega)]; rfl)
      (fun j hj => frozen_of (by rw [hW]; exact hbW)) (fun v hv => by simp at hv; subst hv; exact h1x)
  rw [← hW1] at hcp1
  have t0 := Try.underlying54
  clear hb hv hbW hvW hcs hsp hfz hvs h1c h1x hlen
  go_enter Try.func103, Try.ntmps103
  go_wp2_with (simp only [hov])
  go_region_law_o (refine step_copy_runI rfl _ _ 54 54 rfl _ _ (by simp [Act.eval, Act.put]) (by simp [Act.eval, Act.put]) (hcp1 _ _ _) ?_)
  go_wp2_with (at_builtin; refine wpList_copy_runI _ rfl _ _ 54 54 rfl _ _ rfl rfl (hcp2 _ rfl _ _) ?_)
  go_ret
  exact ⟨rfl, rfl⟩
theorem ins_row {α : Type} (A B tail : List α) (x : α) (i n : Nat) (hA : A.length = i) (hB : A.length + B.length = n) :
    (((A ++ B ++ tail).take (i + 1) ++ B ++ (A ++ B ++ tail).drop (i + 1 + B.length)).take i ++ [x] ++ ((A ++ B ++ tail).take (i + 1) ++ B ++ (A ++ B ++ tail).drop (i + 1 + B.length)).drop (i + 1)) = A ++ x :: B ++ tail.drop 1 ∨ (B ++ tail).length = 0 := by
  subst hA
  match hBt : B ++ tail with
  | [] => right; rfl
  | y :: r =>
    left
    have e0 : A ++ B ++ tail = A ++ (y :: r) := by rw [List.append_assoc, hBt]
    have e1 : (A ++ B ++ tail).take (A.length + 1) = A ++ [y] := by rw [e0, List.take_append, List.take_of_length_le (by omega)]; simp
    have e2 : (A ++ B ++ tail).drop (A.length + 1 + B.length) = tail.drop 1 := by
      rw [show A.length + 1 + B.length = (A ++ B).length + 1 by rw [List.length_append]; omega, ← List.drop_drop, List.drop_left]
    rw [e1, e2]
    have e3 : A ++ [y] ++ B ++ tail.drop 1 = A ++ ([y] ++ (B ++ tail.drop 1)) := by simp
    rw [e3, List.take_left, show A.length + 1 = A.length + [y].length from rfl, ← List.drop_drop, List.drop_left, List.drop_left]
    simp
theorem grow_row {α : Type} (A B Z : List α) (x : α) (i : Nat) (hA : A.length = i) (hZ : B.length + 1 ≤ Z.length) :
    (((A ++ Z).take i ++ [x] ++ (A ++ Z).drop (i + 1)).take (i + 1) ++ B ++ ((A ++ Z).take i ++ [x] ++ (A ++ Z).drop (i + 1)).drop (i + 1 + B.length)) = A ++ x :: B ++ Z.drop (1 + B.length) := by
  subst hA
  have e1 : (A ++ Z).drop (A.length + 1) = Z.drop 1 := by rw [← List.drop_drop, List.drop_left]
  rw [List.take_left, e1]
  have e2 : A ++ [x] ++ Z.drop 1 = (A ++ [x]) ++ Z.drop 1 := rfl
  have e3 : A.length + 1 = (A ++ [x]).length := by simp
  rw [e3, List.take_left, ← List.drop_drop, List.drop_left, List.drop_drop]
  simp
theorem c_InsertZ {H : AH} {nx id ver id2 v2 : Nat} (l : List Int) (x : Int) (i : Nat) (hi : i < l.length) (hl : l.length ≤ 1000) (hH : H id = .live ver (flat cI l)) (hH2 : H id2 = .live v2 [.int .i64 x]) (hne : id ≠ id2) :
    CallC Try.prog 103 [.msl id ver 1 0 l.length, .int .i64 i, .msl id2 v2 1 0 1] H nx (.msl id (ver + 1) 1 0 (l.length + 1)) (upd H id (.live (ver + 1) (flat cI (l.take i ++ x :: l.drop i)))) nx := by
  refine ⟨⟨_, Try.func103, by decide, rfl⟩, fun base κ vs hinv hr => ?_⟩
  obtain ⟨v1, vs1, rfl, r1, hr1⟩ := hr.uncons
  obtain ⟨v2', vs2, rfl, r2, hr2⟩ := hr1.uncons
  obtain ⟨v3, vs3, rfl, r3, hr3⟩ := hr2.uncons
  obtain rfl : vs3 = [] := List.eq_nil_of_length_eq_zero hr3.1
  cases r2
  rcases hinv.msl_inv hH r1 with ⟨b, c, cs, T, fz, rfl, hm, hn, hb0, hcap⟩ | ⟨A, b0, rfl, hm, hn⟩
  case inr => omega
  rcases hinv.msl_inv hH2 r3 with ⟨vb, vc, cs2, T2, fz2, rfl, hm2, hn2, hb2, hcap2⟩ | ⟨A, b0, rfl, hm2, hn2⟩
  case inr => omega
  obtain ⟨hbb, hF, us, tail, T', hb, h1, hrs⟩ := hinv.place hH hm
  rw [hb] at hb0
  cases hb0
  obtain ⟨_, _, ws, tail2, T2', hbv, h12, hrs2⟩ := hinv.place hH2 hm2
  rw [hbv] at hb2
  cases hb2
  obtain ⟨wx, ws', rfl, rw1, rws⟩ := hrs2.uncons
  obtain rfl : ws' = [] := List.eq_nil_of_length_eq_zero rws.1
  cases rw1
  have hvb : vb ≠ b := fun e => by
    subst e
    rcases hinv.inj id id2 _ _ vb hne hm hm2 rfl rfl with h | h
    · rw [h] at hH; cases hH
    · rw [h] at hH2; cases hH2
  have hul : us.length = l.length := by rw [hrs.1, cI_flen]
  have hsp : us = us.take i ++ us.drop i := (List.take_append_drop i us).symm
  have htl : (us.take i).length = i := by rw [List.length_take]; omega
  have hdl : (us.drop i).length = l.length - i := by rw [List.length_drop]; omega
  have hone : ∀ u ∈ us.take i ++ Value.int .i64 x :: us.drop i, u.oneCell' = true := fun u hu => by
    rcases List.mem_append.1 hu with h | h
    · exact h1 u (List.mem_of_mem_take h)
    · rcases List.mem_cons.1 h with h | h
      · subst h; rfl
      · exact h1 u (List.mem_of_mem_drop h)
  have hrep : Reps κ (us.take i ++ Value.int .i64 x :: us.drop i) (flat cI (l.take i ++ x :: l.drop i)) := by
    have a1 := hrs.take i
    have a2 := hrs.drop i
    have b1 : (flat cI l).take i = flat cI (l.take i) := by have := flat_take cI_len1 l i; rw [Nat.mul_one] at this; exact this
    have b2 : (flat cI l).drop i = flat cI (l.drop i) := by have := flat_drop cI_len1 l i; rw [Nat.mul_one] at this; exact this
    rw [b1] at a1
    rw [b2] at a2
    rw [flat_append, flat_cons]
    exact a1.append (Reps.cons (.int _ _) a2)
  by_cases hroom : l.length + 1 ≤ c
  · have hlen : l.length + 1 ≤ (us ++ tail).length := by simp only [Nat.zero_add, Nat.mul_one, List.size_toArray] at hcap; omega
    have hG := w_InsertRoom b l.length c i vb vc (.int .i64 x) us tail tail2 κ.W T T2 hi hroom (by omega) hvb hul hlen hb hbv h1 rfl
    refine hG.mono ?_
    rintro e W' ⟨rfl, rfl⟩
    have q1 := setCells_at b (us.drop i) (i + 1) κ.W.drew (us ++ tail) hb (by rw [hdl]; omega)
    have q2 := setCells_at b [Value.int .i64 x] i _ _ q1 (by simp; omega)
    have q3 : ((κ.W.drew.setCells b (i + 1) (us.drop i)).setCells b i [Value.int .i64 x]).heap[b]? = some (Obj.cells ((us.take i ++ Value.int .i64 x :: us.drop i) ++ tail.drop 1).toArray T (0, 0)) := by
      rw [q2]
      congr 2
      rcases ins_row (us.take i) (us.drop i) tail (Value.int .i64 x) i l.length htl (by omega) with h | h
      · rw [List.take_append_drop] at h
        exact congrArg List.toArray h
      · rw [List.length_append, hdl] at h
        omega
    have rr := setCells_rest b [Value.int .i64 x] i (κ.W.drew.setCells b (i + 1) (us.drop i))
    have rr2 := setCells_rest b (us.drop i) (i + 1) κ.W.drew
    obtain ⟨κ', k1, k2, k3, k4⟩ := hinv.after hH hm _ _ _ T (rr.1.trans rr2.1) (rr.2.1.trans rr2.2.1) (rr.2.2.trans rr2.2.2) (by rw [setCells_size, setCells_size]; exact Nat.le_refl _) (fun y hy hyb => by rw [setCells_ne b _ _ _ hyb, setCells_ne b _ _ _ hyb]; rfl) q3 (.inl ⟨rfl, _, hb, by simp only [List.length_append, List.length_cons, List.length_drop, List.size_toArray]; simp only [List.length_append] at hlen; omega⟩) hone hrep
    refine ⟨_, κ', rfl, k1, ?_, k3, k4⟩
    refine .msl _ _ _ _ _ _ b _ T (0, 0) k2 (by omega) (by rw [k1]; exact q3) ?_
    simp only [List.size_toArray, List.length_append, List.length_cons, List.length_drop, List.length_take] at hcap hlen ⊢
    omega
  · have hG := Any2.slices_Insert_int_grow insL21 b 0 l.length c i vb 0 1 vc us [Value.int .i64 x] κ.W hi (by omega) hn (by omega) (by omega) hul rfl
      (fun j v hj => by rw [Nat.zero_add, cell_of hb, List.getElem?_append_left (List.getElem?_eq_some_iff.1 hj).1]; exact hj)
      (fun j v hj => by
        rw [Nat.zero_add, cell_of hbv]
        match j with
        | 0 => simpa using hj
        | j + 1 => simp at hj)
      h1 (fun v hv => by simp at hv; subst hv; rfl)
    have hge := grownCap_ge κ.W (l.length + 1) c 3
    refine hG.mono ?_
    rintro e W' ⟨rfl, rfl⟩
    obtain ⟨Z, hZ⟩ : ∃ Z : List Value, Z = (Builtin.zeroCells (Value.int .i64 0).cells (l.length + 1 - i)).toList ++ (Builtin.zeroCells (Value.int .i64 0).cells (grownCap κ.W (l.length + 1) c (insRen.t 3) - (l.length + 1))).toList := ⟨_, rfl⟩
    have hZl : Z.length = (l.length + 1 - i) + (grownCap κ.W (l.length + 1) c 3 - (l.length + 1)) := by
      have hz : ∀ k, (Builtin.zeroCells (Value.int .i64 0).cells k).toList.length = k := fun k => by
        rw [Array.length_toList, size_zeroCells]
        simp [Value.cells]
      rw [hZ, List.length_append, hz, hz]
      rfl
    have hcells : ((us.take i).toArray ++ Builtin.zeroCells (Value.int .i64 0).cells (l.length + 1 - i) ++ Builtin.zeroCells (Value.int .i64 0).cells (grownCap κ.W (l.length + 1) c (insRen.t 3) - (l.length + 1))) = (us.take i ++ Z).toArray := by
      rw [hZ]
      apply Array.ext'
      simp
    rw [hcells]
    have q0 : ((κ.W.alloc (.cells (us.take i ++ Z).toArray (insRen.t 3))).drew).heap[κ.W.heap.size]? = some (Obj.cells (us.take i ++ Z).toArray 3 (0, 0)) := heap_alloc_at _ _
    have q1 := setCells_at κ.W.heap.size [Value.int .i64 x] i _ _ q0 (by simp; omega)
    have q2 := setCells_at κ.W.heap.size (us.drop i) (i + 1) _ _ (show (((κ.W.alloc (.cells (us.take i ++ Z).toArray (insRen.t 3))).drew.setCells κ.W.heap.size i [Value.int .i64 x]).drew).heap[κ.W.heap.size]? = _ from q1) (by simp; omega)
    have q3 : ((((κ.W.alloc (.cells (us.take i ++ Z).toArray (insRen.t 3))).drew.setCells κ.W.heap.size i [Value.int .i64 x]).drew).setCells κ.W.heap.size (i + 1) (us.drop i)).heap[κ.W.heap.size]? = some (Obj.cells ((us.take i ++ Value.int .i64 x :: us.drop i) ++ Z.drop (1 + (us.drop i).length)).toArray 3 (0, 0)) := by
      rw [q2]
      congr 2
      exact congrArg List.toArray (grow_row (us.take i) (us.drop i) Z (Value.int .i64 x) i htl (by omega))
    have rr := setCells_rest κ.W.heap.size (us.drop i) (i + 1) (((κ.W.alloc (.cells (us.take i ++ Z).toArray (insRen.t 3))).drew.setCells κ.W.heap.size i [Value.int .i64 x]).drew)
    have rr2 := setCells_rest κ.W.heap.size [Value.int .i64 x] i ((κ.W.alloc (.cells (us.take i ++ Z).toArray (insRen.t 3))).drew)
    have s1 : ∀ y, y < κ.W.heap.size → y ≠ κ.W.heap.size → ((((κ.W.alloc (.cells (us.take i ++ Z).toArray (insRen.t 3))).drew.setCells κ.W.heap.size i [Value.int .i64 x]).drew).setCells κ.W.heap.size (i + 1) (us.drop i)).heap[y]? = κ.W.heap[y]? := fun y hy hyb => by
      rw [setCells_ne _ _ _ _ hyb]
      show ((κ.W.alloc (.cells (us.take i ++ Z).toArray (insRen.t 3))).drew.setCells κ.W.heap.size i [Value.int .i64 x]).heap[y]? = _
      rw [setCells_ne _ _ _ _ hyb]
      exact heap_alloc_lt _ _ hy
    have s2 : κ.W.heap.size ≤ ((((κ.W.alloc (.cells (us.take i ++ Z).toArray (insRen.t 3))).drew.setCells κ.W.heap.size i [Value.int .i64 x]).drew).setCells κ.W.heap.size (i + 1) (us.drop i)).heap.size := by
      rw [setCells_size]
      show κ.W.heap.size ≤ ((κ.W.alloc (.cells (us.take i ++ Z).toArray (insRen.t 3))).drew.setCells κ.W.heap.size i [Value.int .i64 x]).heap.size
      rw [setCells_size]
      show κ.W.heap.size ≤ (κ.W.heap.push _).size
      rw [Array.size_push]
      omega
    obtain ⟨κ', k1, k2, k3, k4⟩ := hinv.after hH hm _ _ _ 3 (rr.1.trans rr2.1) (rr.2.1.trans rr2.2.1) (rr.2.2.trans rr2.2.2) s2 s1 q3 (.inr (Nat.le_refl _)) hone hrep
    refine ⟨_, κ', rfl, k1, ?_, k3, k4⟩
    refine .msl _ _ _ _ _ _ κ.W.heap.size _ 3 (0, 0) k2 hge (by rw [k1]; exact q3) ?_
    simp only [List.size_toArray, List.length_append, List.length_cons, List.length_drop, List.length_take]
    show 0 + grownCap κ.W (l.length + 1) c 3 * 1 ≤ _
    omega
end Go.TH
