/- TH: strconv.Itoa, through the kit's shelf; the table of powers stands below base. Made by gen.py. -/
import Derived.Test.YtipoefabimcbdaaDoorTf3
import Derived.Test.YtipoefabimcbdaaDoorTfv
import Derived.Shelf.Strconv.Itoa3
namespace Go.TH
open Go Go.Proofs Go.RowKit Go.Lib
set_option linter.unusedSimpArgs false
set_option linter.unusedVariables false
set_option maxHeartbeats 20000000
set_option maxRecDepth 100000
def itoRen : Go.Shelf.Ren where
  f := fun x => match x with | 171 => 16 | 243 => 27 | 246 => 31 | 283 => 32 | 284 => 33 | 285 => 34 | 286 => 35 | 129 => 37 | 317 => 36 | 318 => 38 | 319 => 39 | 320 => 40 | 337 => 41 | 338 => 42 | n => n
  t := fun x => match x with | 3 => 3 | 9 => 9 | 2 => 2 | 4 => 4 | 171 => 52 | 0 => 0 | 53 => 53 | 37 => 29 | 5 => 5 | 173 => 56 | 212 => 59 | 51 => 60 | 20 => 20 | 213 => 61 | 46 => 50 | 232 => 64 | 233 => 65 | n => n
  g := fun x => match x with | 17 => 0 | 18 => 1 | 19 => 2 | n => n
theorem itoL : LaysM.n171 Tryd.prog itoRen where
  mixed := rfl
  f129 := Tryd.func37.trans (congrArg some (by kernel_rfl))
  f171 := Tryd.func16.trans (congrArg some (by kernel_rfl))
  f243 := Tryd.func27.trans (congrArg some (by kernel_rfl))
  f246 := Tryd.func31.trans (congrArg some (by kernel_rfl))
  f283 := Tryd.func32.trans (congrArg some (by kernel_rfl))
  f284 := Tryd.func33.trans (congrArg some (by kernel_rfl))
  f285 := Tryd.func34.trans (congrArg some (by kernel_rfl))
  f286 := Tryd.func35.trans (congrArg some (by kernel_rfl))
  f317 := Tryd.func36.trans (congrArg some (by kernel_rfl))
  f318 := Tryd.func38.trans (congrArg some (by kernel_rfl))
  f319 := Tryd.func39.trans (congrArg some (by kernel_rfl))
  f320 := Tryd.func40.trans (congrArg some (by kernel_rfl))
  f337 := Tryd.func41.trans (congrArg some (by kernel_rfl))
  f338 := Tryd.func42.trans (congrArg some (by kernel_rfl))
  t0 := Tryd.underlying0
  a0 := Tryd.isAgg0
  z0 := Tryd.sizeOf0
  v0 := Tryd.zeroValue0
  t2 := Tryd.underlying2
  a2 := Tryd.isAgg2
  z2 := Tryd.sizeOf2
  v2 := Tryd.zeroValue2
  t3 := Tryd.underlying3
  a3 := Tryd.isAgg3
  z3 := Tryd.sizeOf3
  v3 := Tryd.zeroValue3
  t4 := Tryd.underlying4
  a4 := Tryd.isAgg4
  z4 := Tryd.sizeOf4
  v4 := Tryd.zeroValue4
  t5 := Tryd.underlying5
  a5 := Tryd.isAgg5
  z5 := Tryd.sizeOf5
  v5 := Tryd.zeroValue5
  t9 := Tryd.underlying9
  a9 := Tryd.isAgg9
  z9 := Tryd.sizeOf9
  v9 := Tryd.zeroValue9
  t20 := Tryd.underlying20
  a20 := Tryd.isAgg20
  z20 := Tryd.sizeOf20
  v20 := Tryd.zeroValue20
  t37 := Tryd.underlying29
  a37 := Tryd.isAgg29
  z37 := Tryd.sizeOf29
  v37 := Tryd.zeroValue29
  t46 := Tryd.underlying50
  a46 := Tryd.isAgg50
  z46 := Tryd.sizeOf50
  v46 := Tryd.zeroValue50
  t51 := Tryd.underlying60
  a51 := Tryd.isAgg60
  z51 := Tryd.sizeOf60
  v51 := Tryd.zeroValue60
  t53 := Tryd.underlying53
  a53 := Tryd.isAgg53
  z53 := Tryd.sizeOf53
  v53 := Tryd.zeroValue53
  t171 := Tryd.underlying52
  a171 := Tryd.isAgg52
  z171 := Tryd.sizeOf52
  v171 := Tryd.zeroValue52
  t173 := Tryd.underlying56
  a173 := Tryd.isAgg56
  z173 := Tryd.sizeOf56
  v173 := Tryd.zeroValue56
  t212 := Tryd.underlying59
  a212 := Tryd.isAgg59
  z212 := Tryd.sizeOf59
  v212 := Tryd.zeroValue59
  t213 := Tryd.underlying61
  a213 := Tryd.isAgg61
  z213 := Tryd.sizeOf61
  t232 := Tryd.underlying64
  a232 := Tryd.isAgg64
  z232 := Tryd.sizeOf64
  v232 := Tryd.zeroValue64
  t233 := Tryd.underlying65
  a233 := Tryd.isAgg65
  z233 := Tryd.sizeOf65
  v233 := Tryd.zeroValue65
  g17 := by kernel_rfl
  g18 := by kernel_rfl
  g19 := by kernel_rfl
  i0 := by kernel_rfl
  i2 := by kernel_rfl
  i3 := by kernel_rfl
  i4 := by kernel_rfl
  i5 := by kernel_rfl
  i9 := by kernel_rfl
  i20 := by kernel_rfl
  i37 := by kernel_rfl
  i46 := by kernel_rfl
  i51 := by kernel_rfl
  i53 := by kernel_rfl
  i171 := by kernel_rfl
  i173 := by kernel_rfl
  i212 := by kernel_rfl
  i232 := by kernel_rfl
  i233 := by kernel_rfl
  m17 := by kernel_rfl
  m18 := by kernel_rfl
  m19 := by kernel_rfl
theorem tab_is {base : Nat} {W : World} (h : Tab base W) : Lib.TabIs Tryd.prog W "internal/strconv.uint64pow10" .u64 Lib.pow10Tab := by
  obtain ⟨T, fz, e⟩ := h.2
  unfold Lib.TabIs World.var?
  rw [itoL.m17]
  show (match W.heap[tabG]? with | some (.cells cs _ _) => some cs | _ => none) = _
  rw [e]
  rfl
theorem tab_of {W : World} (h : Lib.TabIs Tryd.prog W "internal/strconv.uint64pow10" .u64 Lib.pow10Tab) : Tab W.heap.size W := by
  unfold Lib.TabIs World.var? at h
  rw [itoL.m17] at h
  change (match W.heap[tabG]? with | some (.cells cs _ _) => some cs | _ => none) = _ at h
  split at h
  · rename_i cs T fz e
    cases h
    exact ⟨heap_some_lt e, T, fz, e⟩
  · cases h
theorem grown_inv {base nx : Nat} {κ : Cx} {H : AH} (hi : Inv base κ H nx) {W' : World} (h1 : W'.os = κ.W.os) (h2 : W'.tape = κ.W.tape) (h3 : W'.output = κ.W.output) (h4 : κ.W.heap.size ≤ W'.heap.size) (h5 : ∀ b : Nat, b < κ.W.heap.size → W'.heap[b]? = κ.W.heap[b]?) :
    Ext base κ ⟨W', κ.M, κ.F⟩ ∧ Inv base ⟨W', κ.M, κ.F⟩ H nx := by
  have ev : Ev κ ⟨W', κ.M, κ.F⟩ := ⟨fun b hb => ⟨hb, h5 b (hi.hF b hb)⟩, fun id e he => ⟨e, he, .inr rfl⟩, fun b cs T fz hb => ⟨cs, fz, (h5 b (heap_some_lt hb)).trans hb, rfl⟩⟩
  refine ⟨⟨ev, h1, h2, h3, h4, fun b hb => h5 b (Nat.lt_of_lt_of_le hb hi.hbase), fun b hb => .inl hb⟩, ?_⟩
  refine ⟨fun b hb => Nat.lt_of_lt_of_le (hi.hF b hb) h4, Nat.le_trans hi.hbase h4, hi.hM, fun id ver cells hl => ?_, hi.inj, hi.tab.keep fun b hb => h5 b (Nat.lt_of_lt_of_le hb hi.hbase)⟩
  obtain ⟨e, he, hv, hh⟩ := hi.live id ver cells hl
  exact ⟨e, he, hv, hh.ev ev (fun b hb _ hn hc => hn hc) (fun b hb => h5 b (hh.lt hb))⟩
theorem q_Itoa (n : Int) (h0 : -9223372036854775808 ≤ n) (h1 : n ≤ 9223372036854775807) : QCall Tryd.prog 16 [.int .i64 n] (.str ⟨(Lib.itoa n).toArray⟩) := by
  refine fun H nx => ⟨⟨_, Tryd.func16, by decide, rfl⟩, fun base κ vs hi hr => ?_⟩
  obtain ⟨v1, vs1, rfl, r1, hr1⟩ := hr.uncons
  obtain rfl : vs1 = [] := List.eq_nil_of_length_eq_zero hr1.1
  cases r1
  refine (Any.strconv_Itoa itoL n h0 h1 κ.W (tab_is hi.tab)).mono ?_
  rintro e W' ⟨rfl, k, os, rfl⟩
  obtain ⟨he, hv⟩ := grown_inv (W' := Sort.grow (κ.W.drewN k) os) hi rfl rfl rfl (by simp [Sort.grow]) (fun b hb => Sort.heap_grow_old _ _ hb)
  exact ⟨_, _, rfl, rfl, .str _, he, hv⟩
end Go.TH
