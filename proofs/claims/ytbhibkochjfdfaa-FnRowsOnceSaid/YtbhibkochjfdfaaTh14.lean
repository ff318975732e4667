/-
  TH, part 14: regions that draw their order, sound.
-/
import Derived.Test.YtbhibkochjfdfaaTh13
set_option linter.unusedVariables false
set_option linter.unusedSimpArgs false
namespace Go.TH
open Go

/-- What carrying out an operation shows, on its operands alone. -/
def OStep (P : Program) (o : Oper) (E : Operand → AV) (H : AH) (nx : Nat) (r : AV) (H' : AH) (nx' : Nat) : Prop :=
  ∀ {base : Nat} {κ : Cx} {a : Act} {K : Act → World → Prop} {Q : Exit → Act → World → Prop}, Inv base κ H nx → (∀ x ∈ o.op.operands.toList, Rep κ.W κ.M κ.F (a.eval x) (E x)) →
    (∀ v κ', Rep κ'.W κ'.M κ'.F v r → Ext base κ κ' → Inv base κ' H' nx' → K (a.put o.dst v) κ'.W) → o.wp P a κ.W K Q

section
variable {P : Program} {o : Oper} {E : Operand → AV} {H : AH} {nx : Nat} {r : AV} {H' : AH} {nx' : Nat}
theorem OStep.of_h {p : Prop} (h : HOk P o E H nx p r H' nx') (hp : p) : OStep P o E H nx r H' nx' := by
  intro base κ a K Q hi hρ hK
  obtain ⟨κ', q, v, hrun, hq, hr, hext, hinv⟩ := h hp hi hρ
  have fin := hK v κ' hr hext hinv
  unfold Oper.wp
  rw [hrun]
  rcases hq with rfl | ⟨rfl, rfl⟩
  · exact fin
  · exact fin
theorem OStep.of_call {f : Operand} {args : List Operand} (hc : callV o.op = some (f, args)) {g : FuncId} {cap : List AV} (hf : E f = .fn g cap) (h : CallC P g (args.map E ++ cap) H nx r H' nx') : OStep P o E H nx r H' nx' := by
  intro base κ a K Q hi hρ hK
  unfold callV at hc
  split at hc
  · rename_i c hop
    split at hc
    · rename_i f' hcal
      cases hc
      rw [hop] at hρ
      have hfv := hρ f (by simp [Op.operands, Call.operands, hcal])
      rw [hf] at hfv
      obtain ⟨cvs, hfe, hcr⟩ := hfv.fn_inv
      have hargs : Reps κ (c.args.toList.map a.eval) (c.args.toList.map E) := reps_map _ (fun x hx => hρ x (by simp [Op.operands, Call.operands, hcal, hx]))
      have hall := h.2 base κ (c.args.toList.map a.eval ++ cvs) hi (hargs.append hcr)
      have hrun : (execOp a.eval o).run P κ.W = .ok (.enter g (c.args.toList.map a.eval ++ cvs).toArray) κ.W := by
        have harr : c.args.map a.eval ++ cvs.toArray = (c.args.toList.map a.eval ++ cvs).toArray := by
          apply Array.ext'
          simp
        simp only [execOp, hop, resolve, hcal, Deferred.ofValue, hfe, Sem.run_bind, Sem.run_pure, Result.andThen_ok, invoke, Array.empty_append, harr]
        exact callFunc_run h.1 _ κ.W
      unfold Oper.wp
      rw [hrun]
      simp only [Oper.upon]
      refine hall.mono ?_
      rintro e W' ⟨v, κ', rfl, rfl, hr, hext, hinv⟩
      exact hK v κ' hr hext hinv
    · cases hc
  · cases hc
theorem aop_ostep {s : ASt} {K : ASt → Prop} (h : aopD P o.dst o.op s K) : ∃ r H' nx', OStep P o (evA s.tmps) s.H s.nx r H' nx' ∧ K ⟨putA s.tmps o.dst r, H', nx'⟩ := by
  unfold aopD at h
  split at h
  · rename_i f args hc
    split at h
    · rename_i g cap hf
      obtain ⟨r, H', nx', hcall, hK⟩ := h
      exact ⟨r, H', nx', OStep.of_call hc hf hcall, hK⟩
    · exact h.elim
  · unfold bindP at h
    split at h
    · rename_i p x hst
      obtain ⟨r, H', nx'⟩ := x
      obtain ⟨hp, hK⟩ := h
      have hok : HOk P o (evA s.tmps) s.H s.nx p r H' nx' := by
        unfold astep at hst
        split at hst
        · rename_i p' r' hq
          cases hst
          exact HOk.of_quiet (qstep_sound hq)
        · exact hstep_sound hst
      exact ⟨r, H', nx', OStep.of_h hok hp, hK⟩
    · exact h.elim

/-- Only read, in whatever heap that looks so. -/
def DOk (P : Program) (o : Oper) (E : Operand → AV) (Hm : AH) (p : Prop) (r : AV) : Prop :=
  ∀ {base : Nat} {κ : Cx} {H : AH} {nx : Nat} {ρ : Operand → Value}, p → Inv base κ H nx → Inv base κ Hm nx → (∀ x ∈ o.op.operands.toList, Rep κ.W κ.M κ.F (ρ x) (E x)) →
    ∃ κ' v, (execOp ρ o).run P κ.W = .ok (.value v) κ'.W ∧ Rep κ'.W κ'.M κ'.F v r ∧ Ext base κ κ' ∧ Inv base κ' H nx
theorem newBlock_alloc (W : World) (ob : Obj) : NewBlock W (W.alloc ob) := ⟨fun b hb => heap_alloc_lt _ _ hb, by simp, rfl, rfl, rfl⟩
theorem fstep_sound {Hm : AH} {p : Prop} (h : fstep P E Hm o.op = some (p, r)) : DOk P o E Hm p r := by
  intro base κ H nx ρ hp hi him hρ
  -- a new block, not written any more
  have frozen : ∀ (T : TypeId) (ws rest : List Value) (n c : Nat) (t : Bool) (cs : List AV), (execOp ρ o).run P κ.W = .ok (.value (.slice (some ⟨κ.W.heap.size, 0, none⟩) n c)) (κ.W.alloc (.cells (ws ++ rest).toArray T)) →
      (∀ u ∈ ws, u.oneCell' = true) → Reps κ ws cs → n ≤ c → (t = true → c = n) →
      ∃ κ' v, (execOp ρ o).run P κ.W = .ok (.value v) κ'.W ∧ Rep κ'.W κ'.M κ'.F v (.sl n t cs) ∧ Ext base κ κ' ∧ Inv base κ' H nx := by
    intro T ws rest n c t cs hrun h1 hr hn ht
    have hnb := newBlock_alloc κ.W (.cells (ws ++ rest).toArray T)
    refine ⟨κ.newF (κ.W.alloc (.cells (ws ++ rest).toArray T)), _, hrun, ?_, Cx.newF_ext hi hnb, hi.newF hnb⟩
    have hca : CellsAt (κ.newF (κ.W.alloc (.cells (ws ++ rest).toArray T))) ⟨κ.W.heap.size, 0, none⟩ ws := cellsAt_block (heap_alloc_at _ _) h1
    exact Rep.sl_mk (κ := κ.newF (κ.W.alloc (.cells (ws ++ rest).toArray T))) hn ht (.inr ⟨_, ws, rfl, .inr rfl, hca, hr.ev (Cx.newF_ev hi hnb)⟩)
  cases hop : o.op with
  | buildSlice t len parts =>
    rw [hop] at h
    simp only [fstep] at h
    split at h
    · rename_i e sz by' hsl
      split at h
      · rename_i z hz
        split at h
        · rename_i hc
          cases hf : fillB Hm sz (List.replicate len z).flatten (parts.toList.map fun x => (x.1, E x.2)) with
          | none => rw [hf] at h; cases h
          | some cs =>
            rw [hf] at h
            cases h
            obtain ⟨ws, hrun, hw1, hw2, hws⟩ := buildSlice_run hop hsl hz hc hf him hρ
            exact frozen e ws [] len len true cs (by simpa using hrun) hw1 hw2 (Nat.le_refl _) (fun _ => rfl)
        · cases h
      · cases h
    · cases h
  | makeSlice t l c =>
    rw [hop] at h
    simp only [fstep] at h
    split at h
    · rename_i e sz by' k1 l' k2 c' hsl el ec
      split at h
      · rename_i z hz
        split at h
        · rename_i hzl
          cases h
          obtain ⟨ws, rest, hrun, hw1, hw2, hwl⟩ := makeSlice_run hop hsl el ec hz hzl hp hρ
          exact frozen e ws rest _ _ false _ hrun hw1 hw2 (by omega) (fun h => by cases h)
        · cases h
      · cases h
    · cases h
  | convert src dst x =>
    rw [hop] at h
    simp only [fstep] at h
    split at h
    · rename_i s e a' b' ex hsl
      split at h
      · rename_i hc
        cases h
        exact convert_run hop ex hsl hc hi hρ
      · cases h
    · cases h
  | _ => rw [hop] at h; simp [fstep] at h
theorem mask_sub (S : Nat → Bool) (H : AH) (i : Nat) : maskH S H i = H i ∨ maskH S H i = .dead := by
  unfold maskH
  split
  · exact .inr rfl
  · exact .inl rfl
theorem dstep_sound {Hm : AH} {p : Prop} (h : dstep P E Hm o.op = some (p, r)) : DOk P o E Hm p r := by
  unfold dstep at h
  split at h
  · rename_i x hq
    cases h
    intro base κ H nx ρ hp hi him hρ
    obtain ⟨v, hrun, hr⟩ := qstep_sound hq hp him hρ
    exact ⟨κ, v, hrun, hr, .refl _ _, hi⟩
  · exact fstep_sound h

/-- One operation: what it leaves. -/
theorem dop_ostep {eff : Bool} {S : Nat → Bool} {s : ASt} {K : ASt → Prop} (h : dop P eff S o.dst o.op s K) :
    ∃ r H' nx', (if eff = true then OStep P o (evA s.tmps) s.H s.nx r H' nx' ∧ maskH S H' = maskH S s.H
      else H' = s.H ∧ nx' = s.nx ∧ ∀ H nx, maskH S H = maskH S s.H → OStep P o (evA s.tmps) H nx r H nx) ∧ K ⟨putA s.tmps o.dst r, H', nx'⟩ := by
  unfold dop at h
  cases eff with
  | true =>
    simp only [if_true] at h
    obtain ⟨r, H', nx', hst, hm, hK⟩ := aop_ostep h
    exact ⟨r, H', nx', by simp only [if_true]; exact ⟨hst, hm⟩, hK⟩
  | false =>
    simp only [Bool.false_eq_true, if_false] at h
    split at h
    · rename_i f args hc
      split at h
      · rename_i g cap hf
        obtain ⟨q, hq, hK⟩ := h
        refine ⟨q, s.H, s.nx, ?_, hK⟩
        simp only [Bool.false_eq_true, if_false]
        exact ⟨trivial, trivial, fun H nx _ => OStep.of_call hc hf (hq H nx)⟩
      · exact h.elim
    · unfold bindP at h
      split at h
      · rename_i p q hst
        obtain ⟨hp, hK⟩ := h
        refine ⟨q, s.H, s.nx, ?_, hK⟩
        simp only [Bool.false_eq_true, if_false]
        refine ⟨trivial, trivial, fun H nx hm => ?_⟩
        intro base κ a K' Q hi hρ hK'
        have him : Inv base κ (maskH S s.H) nx := by rw [← hm]; exact hi.sub (mask_sub S H)
        obtain ⟨κ', v, hrun, hr, hext, hinv⟩ := dstep_sound hst hp hi him hρ
        unfold Oper.wp
        rw [hrun]
        exact hK' v κ' hr hext hinv
      · exact h.elim
end

/-- The canonical walk, laid out: the states ahead of each operation. -/
structure Trace (P : Program) (ops : List Oper) (effs frees : List Nat) (S : Nat → Bool) (s0 : ASt) (st : Nat → ASt) : Prop where
  zero : st 0 = s0
  step : ∀ (i : Nat) (o : Oper), ops[i]? = some o →
    (∃ j want, o.guard = some (j, want) ∧ guardA ops (st i).tmps j want = some false ∧ st (i + 1) = ⟨putA (st i).tmps o.dst (.tup []), (st i).H, (st i).nx⟩) ∨
    ((o.guard = none ∨ ∃ j want, o.guard = some (j, want) ∧ guardA ops (st i).tmps j want = some true) ∧
      ∃ r H' nx', st (i + 1) = ⟨putA (st i).tmps o.dst r, H', nx'⟩ ∧
        (if effs.contains i = true then OStep P o (evA (st i).tmps) (st i).H (st i).nx r H' nx' ∧ maskH (SF frees S i) H' = maskH (SF frees S i) (st i).H
         else H' = (st i).H ∧ nx' = (st i).nx ∧ ∀ H nx, maskH (SF frees S i) H = maskH (SF frees S i) (st i).H → OStep P o (evA (st i).tmps) H nx r H nx))

theorem trace_of {P : Program} {ops : List Oper} {effs frees : List Nat} {S : Nat → Bool} {K : ASt → Prop} : ∀ (l : List Oper) (i : Nat) (s : ASt), dops P ops effs frees S K i l s → (∀ k, l[k]? = ops[i + k]?) →
    ∃ st : Nat → ASt, st i = s ∧ K (st (i + l.length)) ∧ ∀ (j : Nat) (o : Oper), i ≤ j → ops[j]? = some o →
      (∃ j' want, o.guard = some (j', want) ∧ guardA ops (st j).tmps j' want = some false ∧ st (j + 1) = ⟨putA (st j).tmps o.dst (.tup []), (st j).H, (st j).nx⟩) ∨
      ((o.guard = none ∨ ∃ j' want, o.guard = some (j', want) ∧ guardA ops (st j).tmps j' want = some true) ∧
        ∃ r H' nx', st (j + 1) = ⟨putA (st j).tmps o.dst r, H', nx'⟩ ∧
          (if effs.contains j = true then OStep P o (evA (st j).tmps) (st j).H (st j).nx r H' nx' ∧ maskH (SF frees S j) H' = maskH (SF frees S j) (st j).H
           else H' = (st j).H ∧ nx' = (st j).nx ∧ ∀ H nx, maskH (SF frees S j) H = maskH (SF frees S j) (st j).H → OStep P o (evA (st j).tmps) H nx r H nx))
  | [], i, s, h, hl => ⟨fun _ => s, rfl, h, fun j o hj ho => by
      have := hl (j - i)
      rw [show i + (j - i) = j by omega, ho] at this
      simp at this⟩
  | o :: l, i, s, h, hl => by
    have hl' : ∀ k, l[k]? = ops[i + 1 + k]? := fun k => by have := hl (k + 1); simpa [Nat.add_assoc, Nat.add_comm 1 k] using this
    have ho0 : ops[i]? = some o := by simpa using (hl 0).symm
    -- lay the first state ahead of the others
    have ext : ∀ (s' : ASt), dops P ops effs frees S K (i + 1) l s' → ∀ (Step : ASt → Prop), Step s' →
        ∃ st : Nat → ASt, st i = s ∧ K (st (i + (o :: l).length)) ∧ Step (st (i + 1)) ∧ ∀ (j : Nat) (o' : Oper), i + 1 ≤ j → ops[j]? = some o' →
          (∃ j' want, o'.guard = some (j', want) ∧ guardA ops (st j).tmps j' want = some false ∧ st (j + 1) = ⟨putA (st j).tmps o'.dst (.tup []), (st j).H, (st j).nx⟩) ∨
          ((o'.guard = none ∨ ∃ j' want, o'.guard = some (j', want) ∧ guardA ops (st j).tmps j' want = some true) ∧
            ∃ r H' nx', st (j + 1) = ⟨putA (st j).tmps o'.dst r, H', nx'⟩ ∧
              (if effs.contains j = true then OStep P o' (evA (st j).tmps) (st j).H (st j).nx r H' nx' ∧ maskH (SF frees S j) H' = maskH (SF frees S j) (st j).H
               else H' = (st j).H ∧ nx' = (st j).nx ∧ ∀ H nx, maskH (SF frees S j) H = maskH (SF frees S j) (st j).H → OStep P o' (evA (st j).tmps) H nx r H nx)) := by
      intro s' hs' Step hstep
      obtain ⟨st, h1, h2, h3⟩ := trace_of l (i + 1) s' hs' hl'
      refine ⟨fun k => if k = i then s else st k, by simp, ?_, by simp [h1, hstep], fun j o' hj ho' => ?_⟩
      · have : i + (o :: l).length ≠ i := by simp
        simp only [this, if_false]
        rw [show i + (o :: l).length = i + 1 + l.length by simp; omega]
        exact h2
      · have e1 : j ≠ i := by omega
        have e2 : j + 1 ≠ i := by omega
        simp only [e1, e2, if_false]
        exact h3 j o' hj ho'
    have run : dop P (effs.contains i) (SF frees S i) o.dst o.op s (dops P ops effs frees S K (i + 1) l) → (o.guard = none ∨ ∃ j' want, o.guard = some (j', want) ∧ guardA ops s.tmps j' want = some true) →
        ∃ st : Nat → ASt, st i = s ∧ K (st (i + (o :: l).length)) ∧ ∀ (j : Nat) (o' : Oper), i ≤ j → ops[j]? = some o' →
      (∃ j' want, o'.guard = some (j', want) ∧ guardA ops (st j).tmps j' want = some false ∧ st (j + 1) = ⟨putA (st j).tmps o'.dst (.tup []), (st j).H, (st j).nx⟩) ∨
      ((o'.guard = none ∨ ∃ j' want, o'.guard = some (j', want) ∧ guardA ops (st j).tmps j' want = some true) ∧
        ∃ r H' nx', st (j + 1) = ⟨putA (st j).tmps o'.dst r, H', nx'⟩ ∧
          (if effs.contains j = true then OStep P o' (evA (st j).tmps) (st j).H (st j).nx r H' nx' ∧ maskH (SF frees S j) H' = maskH (SF frees S j) (st j).H
           else H' = (st j).H ∧ nx' = (st j).nx ∧ ∀ H nx, maskH (SF frees S j) H = maskH (SF frees S j) (st j).H → OStep P o' (evA (st j).tmps) H nx r H nx)) := by
      intro hd hg
      obtain ⟨r, H', nx', hst, hK⟩ := dop_ostep hd
      obtain ⟨st, h1, h2, h3, h4⟩ := ext _ hK (fun s1 => s1 = ⟨putA s.tmps o.dst r, H', nx'⟩) rfl
      refine ⟨st, h1, h2, fun j o' hj ho' => ?_⟩
      by_cases hji : j = i
      · subst hji
        rw [ho0] at ho'
        cases ho'
        right
        rw [h1]
        exact ⟨hg, r, H', nx', h3, hst⟩
      · exact h4 j o' (by omega) ho'
    unfold dops at h
    split at h
    · rename_i hg
      exact run h (.inl hg)
    · rename_i j want hg
      split at h
      · rename_i b hb
        unfold AIf at h
        cases b with
        | true => simp only [if_true] at h; exact run h (.inr ⟨j, want, hg, hb⟩)
        | false =>
          simp only [Bool.false_eq_true, if_false] at h
          obtain ⟨st, h1, h2, h3, h4⟩ := ext _ h (fun s1 => s1 = ⟨putA s.tmps o.dst (.tup []), s.H, s.nx⟩) rfl
          refine ⟨st, h1, h2, fun j' o' hj ho' => ?_⟩
          by_cases hji : j' = i
          · subst hji
            rw [ho0] at ho'
            cases ho'
            left
            rw [h1]
            exact ⟨j, want, hg, hb, h3⟩
          · exact h4 j' o' (by omega) ho'
      · exact h.elim
end Go.TH
