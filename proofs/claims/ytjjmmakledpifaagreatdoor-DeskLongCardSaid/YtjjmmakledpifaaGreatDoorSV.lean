/-
  Closed functions that say true, as things of their own.
-/
import Derived.Below
import Derived.Test.YtjjmmakledpifaaGreatDoorSK
set_option linter.unusedVariables false
set_option linter.unusedSimpArgs false
namespace Go.Ra
variable {P : Program} {m : Mp} {h : TB} {nx : Nat} {w : World} {nt : Nat} {a : Act} {z : TV} {ft : TF} {ex : Exec}

/-! Equal values -/
theorem sameK_eq {a b : IntKind} (h : sameK a b = true) : a = b := by
  cases a <;> cases b <;> first | rfl | (cases h; done)
theorem eqI_same {a b : Int} (h : eqI a b = true) : a = b := by
  cases a <;> cases b
  · exact congrArg _ (nbeq_iff.1 h)
  · cases h
  · cases h
  · exact congrArg _ (nbeq_iff.1 h)
theorem AV.beq_eq : ∀ (a b : AV), a.beq b = true → a = b := by
  intro a
  induction a <;> intro b hb <;> cases b <;> simp only [AV.beq, Bool.and_eq_true, reduceCtorEq] at hb
  case undef.undef => rfl
  case nl.nl => rfl
  case cs.cs iha ihb _ _ => rw [iha _ hb.1, ihb _ hb.2]
  case bool.bool => rw [beq_iff_eq.1 hb]
  case int.int => rw [sameK_eq hb.1, eqI_same hb.2]
  case icap.icap => rw [nbeq_iff.1 hb]
  case aint.aint => rfl
  case ilt.ilt => rw [nbeq_iff.1 hb]
  case text.text => rw [nbeq_iff.1 hb.1, nbeq_iff.1 hb.2]
  case str.str => rw [nbeq_iff.1 hb.1, nbeq_iff.1 hb.2]
  case ptr.ptr => rw [(Pth.beq_eq _ _).1 hb.1, nbeq_iff.1 hb.2]
  case nilptr.nilptr => rfl
  case slice.slice =>
    obtain ⟨h1, h2, h3, h4, h5, h6⟩ := hb
    rw [(Pth.beq_eq _ _).1 h1, nbeq_iff.1 h2, nbeq_iff.1 h3, nbeq_iff.1 h4, beq_iff_eq.1 h5, nbeq_iff.1 h6]
  case nilslice.nilslice => rfl
  case map.map => rw [(Pth.beq_eq _ _).1 hb]
  case nilmap.nilmap => rfl
  case func.func iha ihb _ _ _ => rw [(Pth.beq_eq _ _).1 hb.1, iha _ hb.2.1, ihb _ hb.2.2]
  case yield.yield => rw [(Pth.beq_eq _ _).1 hb]
  case nilfunc.nilfunc => rfl
  case iface.iface ih _ _ => rw [nbeq_iff.1 hb.1, ih _ hb.2]
  case nilIface.nilIface => rfl
  case agg.agg ih _ => rw [ih _ hb]
  case tuple.tuple ih _ => rw [ih _ hb]

/-- Values in which no block's name stands. -/
def AV.flat : AV → Bool
  | .int _ _ | .aint | .bool _ | .str _ _ => true
  | _ => false
def flatL : AV → Bool
  | .nl => true
  | .cs a l => a.flat && flatL l
  | _ => false
theorem VRel.flat {m m' : Mp} {a : AV} {v : Value} (h : VRel m a v) (hf : a.flat = true) : VRel m' a v := by
  cases h <;> first | exact .int _ _ | exact .aint _ | exact .bool _ | exact .str _ | exact Bool.noConfusion hf
theorem VRels.flat {m m' : Mp} {l : AV} {vs : List Value} (h : VRels m l vs) (hf : flatL l = true) : VRels m' l vs := by
  induction vs generalizing l with
  | nil => cases h; exact .nil
  | cons v vs ih =>
    cases h with | cons a l _ _ h t =>
    simp only [flatL, Bool.and_eq_true] at hf
    exact .cons _ _ _ _ (h.flat hf.1) (ih t hf.2)
def GL.flat : GL → Bool
  | .nil => true
  | .cons g _ _ c l => decide (g < 8) && (flatL c && l.flat)
/-- What the globals hold. -/
def GlW (w : World) : GL → Prop
  | .nil => True
  | .cons g el n c l => (∃ cs fr, w.heap[g]? = some (.cells cs el fr) ∧ cs.size < 18446744073709551616 ∧ (∀ v ∈ cs, v.oneCell' = true) ∧ (fr.1 ≠ fr.2 → fr.1 < fr.2 ∧ fr.1 < cs.size) ∧ n ≤ cs.size ∧ VRels (fun _ => none) c (cs.toList.take n)) ∧ GlW w l
theorem Inv.glW (I : Inv P m h nx w) : ∀ (l : GL), l.flat = true → glFit h l = true → GlW w l := by
  intro l
  induction l with
  | nil => intro _ _; trivial
  | cons g el n c l ih =>
    intro hf hx
    simp only [GL.flat, Bool.and_eq_true, decide_eq_true_eq] at hf
    simp only [glFit, Bool.and_eq_true] at hx
    refine ⟨?_, ih hf.2.2 hx.2⟩
    obtain ⟨e, g1, g2, g3, g4⟩ := I.glob g hf.1
    have hB := I.blk _ e g1
    have hR := I.ro _ e g1 g4
    have hx1 := hx.1
    cases hb : h.get (bid g) with
    | cells fz e' lo hi t =>
      rw [hb] at hB hR hx1
      simp only [Bool.and_eq_true] at hx1
      obtain ⟨x1, x2, x3, x4, x5⟩ := hx1
      obtain rfl := nbeq_iff.1 x1
      obtain rfl := nbeq_iff.1 x2
      obtain rfl := nbeq_iff.1 x3
      obtain rfl := nbeq_iff.1 x4
      obtain ⟨cs, fr, b1, b2⟩ := hB
      have hsz : cs.size < 18446744073709551616 := by
        have := b2.size
        have := hR.1
        omega
      have hn : n ≤ cs.size := by
        have := b2.size
        have := b2.high
        omega
      refine ⟨cs, fr, by rw [← g2]; exact b1, hsz, b2.one, fun hne => ?_, hn, ?_⟩
      · have := b2.mark (by omega) hne
        rwa [← b2.size] at this
      · obtain ⟨vs, k1, k2, k3, k4⟩ := b2.loads b1 n (off := 0) (Nat.le_refl _) (by omega)
        have he : vs = cs.toList.take n := by
          apply List.ext_getElem?
          intro j
          by_cases hj : j < n
          · have hv : vs[j]? = some (vs[j]'(by omega)) := by simp
            have := k4 j _ hv
            rw [cell_of b1, g3] at this
            rw [hv, List.getElem?_take_of_lt hj, ← this]
            simp
          · rw [List.getElem?_eq_none (by omega), List.getElem?_eq_none (by simp; omega)]
        rw [← he]
        have := AV.beq_eq _ _ x5
        rw [this] at k2
        exact k2.flat hf.2.1
    | _ => rw [hb] at hx1; cases hx1
/-- A function of which it is proved that it says true and leaves what lay as it was, wherever the globals hold what is asked. -/
def TruthOk (P : Program) (f : Nat) (l : GL) : Prop := l.flat = true ∧ (∀ a w, (callFunc f a).run P w = .ok (.enter f a) w) ∧ ∀ w : World, 8 ≤ w.heap.size → GlW w l →
  Calls P f #[] w fun e w' => e = .returned (.bool true) ∧ RowKit.Below w.heap.size w w'
theorem Inv.below (I : Inv P m h nx w) {w' : World} (hb : RowKit.Below w.heap.size w w') : Inv P m h nx w' ∧ Fr m h nx w m h nx w' := by
  refine ⟨⟨fun id e he => ?_, I.inj, I.dom, I.top, I.low, I.glob, I.ro, fun id e he => Nat.lt_of_lt_of_le (I.lim id e he) hb.size⟩, ?_⟩
  · rw [hb.block _ (I.lim id e he)]
    exact I.blk id e he
  · refine ⟨Sub.refl m, Nat.le_refl _, fun _ _ e => ⟨e, rfl⟩, hb.os, hb.tape, hb.output, hb.size, fun r hr _ => hb.block r hr, fun r l hl => ⟨l, ?_⟩, fun id e h1 h2 => by rw [h1] at h2; cases h2⟩
    rw [hb.block r (Array.getElem?_eq_some_iff.1 hl).1]
    exact hl
theorem Inv.size (I : Inv P m h nx w) : 8 ≤ w.heap.size := by
  obtain ⟨e, g1, g2, _⟩ := I.glob (8 - 1) (by omega)
  have := I.lim _ e g1
  omega
theorem truth_sound (I : Inv P m h nx w) {f : Nat} {gl : GL} (hok : TruthOk P f gl) {args : AV} {l : List Value} (ha : VRels m args l) {v : AV} {h' : TB} {nx' : Nat} (hx : extA (.truth gl) args h nx = .ok v h' nx') :
    Calls P f ⟨l⟩ w fun e w' => ∃ v', e = .returned v' ∧ Acted P m h nx w v h' nx' v' w' := by
  unfold extA at hx
  split at hx
  case h_6 =>
    rename_i gl' hq
    cases hq
    cases ha
    cases hfit : glFit h gl with
    | false => rw [hfit] at hx; cases hx
    | true =>
      rw [hfit] at hx
      cases hx
      refine (hok.2.2 w I.size (I.glW gl hok.1 hfit)).mono fun e w' he => ?_
      obtain ⟨rfl, hb⟩ := he
      obtain ⟨i1, i2⟩ := I.below hb
      exact ⟨_, rfl, m, .bool _, i1, i2⟩
  all_goals first | (rename_i hq _; cases hq; done) | (rename_i hq; cases hq; done) | cases hx | skip
end Go.Ra
