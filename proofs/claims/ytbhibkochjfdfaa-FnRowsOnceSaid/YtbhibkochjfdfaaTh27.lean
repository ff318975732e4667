/-
  TH, part 27: what turns is read off the state; cuts.
-/
import Derived.Test.YtbhibkochjfdfaaTh26
set_option linter.unusedVariables false
set_option linter.unusedSimpArgs false
namespace Go.TH
open Go

/-! ### Reading -/
def intOf : AV → Int
  | .int _ n => n
  | _ => 0
def boolOf : AV → Bool
  | .bool b => b
  | _ => false
def strOf : AV → ByteArray
  | .str s => s
  | _ => ⟨#[]⟩
def mlenOf : AV → Nat
  | .msl _ _ _ _ n => n
  | .sl n _ _ => n
  | _ => 0
def cellsOf : ABlk → List AV
  | .live _ cs => cs
  | .dead => []
def verOf : ABlk → Nat
  | .live v _ => v
  | .dead => 0
def slotOf (s : ASt) (k : Nat) : AV := nthA s.tmps k
def blkOf (s : ASt) (i : Nat) : ABlk := s.H i
@[go_sem] theorem intOf_int {k : IntKind} {n : Int} : intOf (.int k n) = n := rfl
@[go_sem] theorem boolOf_bool {b : Bool} : boolOf (.bool b) = b := rfl
@[go_sem] theorem strOf_str {b : ByteArray} : strOf (.str b) = b := rfl
@[go_sem] theorem mlenOf_msl {id ver sz off n : Nat} : mlenOf (.msl id ver sz off n) = n := rfl
@[go_sem] theorem mlenOf_sl {n : Nat} {t : Bool} {cs : List AV} : mlenOf (.sl n t cs) = n := rfl
@[go_sem] theorem cellsOf_live {v : Nat} {cs : List AV} : cellsOf (.live v cs) = cs := rfl
@[go_sem] theorem verOf_live {v : Nat} {cs : List AV} : verOf (.live v cs) = v := rfl
@[go_sem] theorem slotOf_mk {T : List AV} {H : AH} {nx k : Nat} : slotOf ⟨T, H, nx⟩ k = nthA T k := rfl
@[go_sem] theorem blkOf_mk {T : List AV} {H : AH} {nx k : Nat} : blkOf ⟨T, H, nx⟩ k = H k := rfl

def keepP1 (o : Option Nat) (b : ABlk) (nx : Nat) (L : List (Nat × Nat)) (H : AH) (d : Nat) (id ver off : Nat) : AV :=
  if id < nx then .ptr id ver off else match o with
    | some k => .ptr k 0 off
    | none => match b with
      | .live v cells => if v = ver then .ro ((cells.drop off).map (keepA nx L H d)) else .junk
      | .dead => .junk
section
variable {nx d : Nat} {L : List (Nat × Nat)} {H : AH}
@[go_sem] theorem keepA_ptr {id ver off : Nat} : keepA nx L H (d + 1) (.ptr id ver off) = keepP1 (placeL L nx id ver) (H id) nx L H d id ver off := by
  simp only [keepA, mapRef, keepR, derefA, keepP1]; rfl
@[go_sem] theorem keepP1_some {k : Nat} {b : ABlk} {id ver off : Nat} (h : ¬ id < nx) : keepP1 (some k) b nx L H d id ver off = .ptr k 0 off := by simp [keepP1, h]
end
section
variable {P : Program} {ι : Type}
structure CutQ (f : ASt → ι) (st : ι → ASt) (G : ι → Prop) (s : ASt) : Prop where
  good : G (f s)
  weak : Weak s (st (f s))
@[go_sem] theorem CutQ_eq {f : ASt → ι} {st : ι → ASt} {G : ι → Prop} {s : ASt} : CutQ f st G s = (G (f s) ∧ Weak s (st (f s))) := propext ⟨fun h => ⟨h.1, h.2⟩, fun h => ⟨h.1, h.2⟩⟩
def LF (f : ASt → ι) (st : ι → ASt) (μ : ι → Nat) (G : ι → Prop) (x : ι) (Q : AEx → ASt → Prop) : AEx → ASt → Prop
  | .normal, s2 => G (f s2) ∧ μ (f s2) < μ x ∧ Weak s2 (st (f s2))
  | e, s2 => Q e s2
section
variable {f : ASt → ι} {st : ι → ASt} {μ : ι → Nat} {G : ι → Prop} {x : ι} {Q : AEx → ASt → Prop} {s2 s3 : ASt}
@[go_sem] theorem LF_normal : LF f st μ G x Q .normal s2 = (G (f s2) ∧ μ (f s2) < μ x ∧ Weak s2 (st (f s2))) := rfl
@[go_sem] theorem LF_exit {k : Nat} : LF f st μ G x Q (.exit k) s2 = Q (.exit k) s2 := rfl
@[go_sem] theorem LF_ret : LF f st μ G x Q .ret s2 = Q .ret s2 := rfl
@[congr] theorem LF_congr {e : AEx} (h : s2 = s3) : LF f st μ G x Q e s2 = LF f st μ G x Q e s3 := by rw [h]
end
theorem LoopB.auto {b : Code} {Q : AEx → ASt → Prop} {w : Box (awp P b)} {w2 : Box Q} {T : List AV} {H : AH} {nx : Nat} (f : ASt → ι) (up : ι → List (Nat × Option AV)) (Hf : ι → AH) (nf : ι → Nat) (μ : ι → Nat) (G : ι → Prop)
    (h0 : CutQ f (fun x => ⟨kT T (up x), Hf x, nf x⟩) G ⟨T, H, nx⟩)
    (step : ∀ x, G x → awp P b (LF f (fun x => ⟨kT T (up x), Hf x, nf x⟩) μ G x Q) ⟨kT T (up x), Hf x, nf x⟩) : LoopB (awp P b) Q ⟨T, H, nx⟩ w w2 := by
  refine LoopB.intro (fun x => ⟨kT T (up x), Hf x, nf x⟩) μ G (f ⟨T, H, nx⟩) h0.weak h0.good fun x hx => awp_mono b (step x hx) fun e s2 h => ?_
  cases e with
  | normal => obtain ⟨h1, h2, h3⟩ := h; exact ⟨_, h1, h2, h3⟩
  | exit k => exact h
  | ret => exact h

/-! ### Cuts -/
/-- Code, walked part by part: between the parts less may be said. -/
inductive AW (P : Program) : Code → (AEx → ASt → Prop) → ASt → Prop
  | of {c : Code} {Q : AEx → ASt → Prop} {s : ASt} (h : awp P c Q s) : AW P c Q s
  | seq {a b : Code} {Q : AEx → ASt → Prop} {s : ASt} (R : ASt → Prop) (h : awp P a (thenQ R Q) s) (h2 : ∀ s', R s' → AW P b Q s') : AW P (.seq a b) Q s
  | weak {c : Code} {Q : AEx → ASt → Prop} {s s0 : ASt} (hw : Weak s s0) (h : AW P c Q s0) : AW P c Q s
theorem AW.exact {c : Code} {Q : AEx → ASt → Prop} {s : ASt} (h : AW P c Q s) : ∃ e s', Q e s' ∧ ∀ Q' : AEx → ASt → Prop, Q' e s' → AW P c Q' s := by
  induction h with
  | of h =>
    obtain ⟨e, s', h1, h2⟩ := awp_ex _ h
    exact ⟨e, s', h1, fun Q' hq => .of (h2 Q' hq)⟩
  | seq R h h2 ih =>
    obtain ⟨e, s1, h1, h3⟩ := awp_ex _ h
    cases e with
    | normal =>
      obtain ⟨e2, s2, g1, g2⟩ := ih s1 h1
      exact ⟨e2, s2, g1, fun Q' hq => .seq (fun s' => s' = s1) (h3 (thenQ (fun s' => s' = s1) Q') rfl) fun s' e => e ▸ g2 Q' hq⟩
    | exit id => exact ⟨.exit id, s1, h1, fun Q' hq => .seq (fun _ => False) (h3 (thenQ (fun _ => False) Q') hq) fun s' e => e.elim⟩
    | ret => exact ⟨.ret, s1, h1, fun Q' hq => .seq (fun _ => False) (h3 (thenQ (fun _ => False) Q') hq) fun s' e => e.elim⟩
  | weak hw h ih =>
    obtain ⟨e, s', h1, h2⟩ := ih
    exact ⟨e, s', h1, fun Q' hq => .weak hw (h2 Q' hq)⟩
theorem AW.sound (hm : P.follows .mixedOrders = true) {c : Code} {Q : AEx → ASt → Prop} {s : ASt} (h : AW P c Q s) : ∀ {base : Nat} {κ : Cx} {a : Act}, St base κ a s →
    ∀ {QQ : Exit → Act → World → Prop}, (∀ e s' κ' a', Q e s' → St base κ' a' s' → Ext base κ κ' → QQ (AEx.ex e) a' κ'.W) → c.wp P QQ a κ.W := by
  induction h with
  | of h => exact awp_sound hm _ h
  | seq R h h2 ih =>
    intro base κ a hs QQ hQ
    refine wp_seq (awp_sound hm _ h hs (fun e s' κ' a' hq hs' hext => ?_))
    cases e with
    | normal => exact ih s' hq hs' (fun e2 s2 κ2 a2 hq2 hs2 hext2 => hQ e2 s2 κ2 a2 hq2 hs2 (hext.trans hext2))
    | exit id => exact hQ (.exit id) s' κ' a' hq hs' hext
    | ret => exact hQ .ret s' κ' a' hq hs' hext
  | weak hw h ih =>
    intro base κ a hs QQ hQ
    obtain ⟨κ1, h1, h2, h3⟩ := hw base κ a hs
    rw [← h1]
    exact ih h2 fun e s' κ' a' hq hs' hext => hQ e s' κ' a' hq hs' (h3.trans hext)
@[congr] theorem AW_congr {c : Code} {Q : AEx → ASt → Prop} {s s' : ASt} (h : s = s') : AW P c Q s = AW P c Q s' := by rw [h]
theorem AW.step {a b : Code} {Q : AEx → ASt → Prop} {s : ASt} (h : awp P a (thenQ (AW P b Q) Q) s) : AW P (.seq a b) Q s := .seq _ h fun _ h => h
theorem AW.cut {a b : Code} {Q : AEx → ASt → Prop} {T : List AV} {H : AH} {nx : Nat} (f : ASt → ι) (up : ι → List (Nat × Option AV)) (Hf : ι → AH) (nf : ι → Nat) (G : ι → Prop)
    (h : awp P a (thenQ (CutQ f (fun x => ⟨kT T (up x), Hf x, nf x⟩) G) Q) ⟨T, H, nx⟩) (h2 : ∀ x, G x → AW P b Q ⟨kT T (up x), Hf x, nf x⟩) : AW P (.seq a b) Q ⟨T, H, nx⟩ :=
  .seq _ h fun s' hs => .weak hs.weak (h2 _ hs.good)
/-- Some answer, of which so much is known, in every heap. -/
theorem qex_of {f : FuncId} {args : List AV} {Q : AV → Prop} (hp : pureL args = true) (d : Nat) (h : ACallD P f args noH 0 fun r H' _ => Q (snapA d H' r)) : ∃ R, Q R ∧ QCall P f args R := by
  obtain ⟨r, H', nx', h1, h2⟩ := h
  exact ⟨_, h2, qcall_of hp h1 d⟩
theorem call_of_W (hm : P.follows .mixedOrders = true) {f : FuncId} {fn : Func} {c : Code} {n : Nat} {rs : List ResultVar} (hf : P.funcs[f]? = some fn) (hb : fn.body = some c) (hn : fn.ntmps = n) (hrs : fn.results = rs.toArray)
    (hname : (fn.name == "runtime.NumGoroutine") = false) {args : List AV} {H : AH} {nx : Nat} {Q : AV → AH → Nat → Prop}
    (h : AW P c (bodyQ P rs Q) ⟨args ++ List.replicate (n - args.length) (.tup []), H, nx⟩) : ACallD P f args H nx Q := by
  obtain ⟨e, s', h1, h2⟩ := h.exact
  have fin : ∃ l, resA P s'.H s'.tmps rs = some l ∧ l.1 ∧ Q (packA l.2) s'.H s'.nx := by
    cases e with
    | exit id => exact h1.elim
    | normal =>
      simp only [bodyQ] at h1
      split at h1
      · rename_i l hl; exact ⟨l, hl, h1.1, h1.2⟩
      · exact h1.elim
    | ret =>
      simp only [bodyQ] at h1
      split at h1
      · rename_i l hl; exact ⟨l, hl, h1.1, h1.2⟩
      · exact h1.elim
  obtain ⟨l, hl, hp, hq⟩ := fin
  have hw : AW P c (bodyQ P rs fun r1 H1 nx1 => r1 = packA l.2 ∧ H1 = s'.H ∧ nx1 = s'.nx) ⟨args ++ List.replicate (n - args.length) (.tup []), H, nx⟩ := by
    refine h2 _ ?_
    cases e with
    | exit id => exact h1.elim
    | normal => simp only [bodyQ, hl]; exact ⟨hp, trivial, trivial, trivial⟩
    | ret => simp only [bodyQ, hl]; exact ⟨hp, trivial, trivial, trivial⟩
  have hc := callQ_of_walk hf hb hn hrs hname (fun {base κ a} hs {QQ} hQ => hw.sound hm hs hQ)
  refine ⟨_, _, _, ⟨hc.1, fun base κ vs hi hr => (hc.2 base κ vs hi hr).mono ?_⟩, hq⟩
  rintro e W' ⟨r1, H1, nx1, ⟨rfl, rfl, rfl⟩, h3⟩
  exact h3
theorem wcall_body (hm : P.follows .mixedOrders = true) {f : FuncId} {fn : Func} (hf : P.funcs[f]? = some fn) (c : Code) (hb : fn.body = some c) {n : Nat} (hn : fn.ntmps = n) {rs : List ResultVar} (hrs : fn.results = rs.toArray)
    (hname : (fn.name == "runtime.NumGoroutine") = false) {args : List AV} {H : AH} {nx : Nat} {Q : AV → AH → Nat → Prop} (hl : args.length ≤ n)
    (h : AW P c (bodyQ P rs Q) ⟨initT n args, H, nx⟩) : ACallD P f args H nx Q :=
  call_of_W hm hf hb hn hrs hname (by rw [initT_eq n args hl]; exact h)
end
theorem takeAll {α : Type} {l : List α} {n : Nat} (h : l.length ≤ n) : l.take n = l := List.take_of_length_le h
theorem tdivE {a b : Int} (h : 0 ≤ a) : a.tdiv b = a / b := Int.tdiv_eq_ediv_of_nonneg h
theorem tmodE {a b : Int} (h : 0 ≤ a) : a.tmod b = a % b := Int.tmod_eq_emod_of_nonneg h
@[go_sem] theorem isU8_u8 {n : Int} : isU8 (.int .u8 n) = true := rfl
@[go_sem] theorem bytesA_size {l : List AV} : (bytesA l).size = l.length := by simp [bytesA, ByteArray.size]
@[go_sem] theorem size_mk {a : Array UInt8} : (ByteArray.mk a).size = a.size := rfl
@[go_sem] theorem toNat_succ {k : Nat} : ((k : Int) + 1).toNat = k + 1 := by omega
@[go_sem] theorem getD_drop {l : List AV} {n : Nat} {d : AV} : (l.drop n).getD 0 d = l.getD n d := by simp [List.getD]
attribute [go_sem] List.length_drop
attribute [go_sem] ByteArray.size_append List.size_toArray
attribute [go_sem] List.all_cons List.all_nil
attribute [go_sem] kT_nil kT_end kT_keep kT_put kT_gap
end Go.TH
