/-
  Plain laws of replies: as the document reads them; no program in sight.
-/
import Derived.Test.YtfcokldbpjkjpaaGreatDoorP32
namespace Go.Proofs.YtfcokldbpjkjpaaGreatDoor
/-- Where a scan for lines stands. -/
def SplI (t : List UInt8) (L : List (List UInt8)) (a i : Nat) : Prop :=
  splitE t = L ++ splitE (t.drop a) ∧ a ≤ t.length ∧ (a ≤ i ∨ (a = i + 1 ∧ t[i]? = some 10)) ∧ ∀ j, a ≤ j → j < i → Lib.occAt t eolL j = false
theorem occ_eol {t : List UInt8} {i : Nat} : Lib.occAt t eolL i = true ↔ (t[i]? = some 13 ∧ t[i + 1]? = some 10) := by
  unfold Lib.occAt
  rw [List.isPrefixOf_iff_prefix]
  have e1 : t[i]? = (t.drop i)[0]? := by rw [List.getElem?_drop]; rfl
  have e2 : t[i + 1]? = (t.drop i)[1]? := by rw [List.getElem?_drop]
  rw [e1, e2]
  generalize t.drop i = u
  constructor
  · rintro ⟨v, rfl⟩; exact ⟨rfl, rfl⟩
  · rintro ⟨h1, h2⟩
    match u, h1, h2 with
    | [], h1, _ => cases h1
    | [a], _, h2 => cases h2
    | a :: b :: v, h1, h2 =>
      cases h1; cases h2
      exact ⟨v, rfl⟩
theorem SplI.start (t : List UInt8) : SplI t [] 0 0 := ⟨rfl, Nat.zero_le _, .inl (Nat.le_refl _), fun _j _ h => absurd h (Nat.not_lt_zero _)⟩
theorem SplI.found {t : List UInt8} {L : List (List UInt8)} {a i : Nat} (h : SplI t L a i) (h1 : t[i]? = some 13) (h2 : t[i + 1]? = some 10) : SplI t (L ++ [(t.take i).drop a]) (i + 2) (i + 1) := by
  obtain ⟨k1, k2, k3, k4⟩ := h
  have hi := (List.getElem?_eq_some_iff.1 h2).1
  have ha : a ≤ i := by
    rcases k3 with k3 | ⟨_, k3⟩
    · exact k3
    · rw [h1] at k3; cases k3
  refine ⟨?_, by omega, .inr ⟨rfl, h2⟩, fun j hj hj2 => by omega⟩
  have ho : Lib.occAt (t.drop a) eolL (i - a) = true := by
    rw [occ_eol, List.getElem?_drop, List.getElem?_drop, show a + (i - a) = i by omega, show a + (i - a + 1) = i + 1 by omega]
    exact ⟨h1, h2⟩
  rw [k1, splitE_at (i - a) (t.drop a) (by rw [List.length_drop]; omega) ho (fun j hj => by
    have := k4 (a + j) (by omega) (by omega)
    unfold Lib.occAt at this ⊢
    rwa [List.drop_drop]), List.drop_drop, List.append_assoc, List.drop_take, show a + (i - a + 2) = i + 2 by omega]
  rfl
theorem SplI.other {t : List UInt8} {L : List (List UInt8)} {a i : Nat} (h : SplI t L a i) (h1 : ¬ (t[i]? = some 13 ∧ t[i + 1]? = some 10)) : SplI t L a (i + 1) := by
  obtain ⟨k1, k2, k3, k4⟩ := h
  refine ⟨k1, k2, .inl (by omega), fun j hj hj2 => ?_⟩
  by_cases e : j = i
  · subst e
    rw [Bool.eq_false_iff]
    exact fun h => h1 (occ_eol.1 h)
  · exact k4 j hj (by omega)
theorem SplI.done {t : List UInt8} {L : List (List UInt8)} {a i : Nat} (h : SplI t L a i) (h1 : t.length ≤ i + 1) : splitE t = L ++ [t.drop a] := by
  obtain ⟨k1, k2, k3, k4⟩ := h
  rw [k1, splitE_none]
  intro j hj
  rw [Bool.eq_false_iff]
  intro ho
  have ho2 := occ_eol.1 ho
  rw [List.getElem?_drop, List.getElem?_drop] at ho2
  have hlt := (List.getElem?_eq_some_iff.1 ho2.2).1
  have := k4 (a + j) (by omega) (by omega)
  rw [Bool.eq_false_iff] at this
  exact this (occ_eol.2 ho2)

structure RSt where
  fs : List (List UInt8 × List UInt8)
  cls : Nat
  lens : Nat
  n : Nat
def stepR (c : Int) (st : RSt) (l : List UInt8) : Option RSt :=
  if !(parseB l).2.2 || alikeB (parseB l).1 kCod then none
  else if alikeB (parseB l).1 kLen then (sizeN (parseB l).2.1).map fun m => { st with lens := st.lens + 1, n := m }
  else if c != 101 && alikeB (parseB l).1 kHold then (if (parseB l).2.1 == kEnds then some { st with cls := st.cls + 1 } else none)
  else some { st with fs := st.fs ++ [((parseB l).1, (parseB l).2.1)] }
def foldR (c : Int) : RSt → List (List UInt8) → Option RSt
  | st, [] => some st
  | st, l :: t => (stepR c st l).bind fun st' => foldR c st' t
theorem foldR_app (c : Int) : ∀ (a b : List (List UInt8)) (st : RSt), foldR c st (a ++ b) = (foldR c st a).bind fun st' => foldR c st' b
  | [], b, st => rfl
  | l :: t, b, st => by
    simp only [List.cons_append, foldR]
    cases stepR c st l with
    | none => rfl
    | some st' => exact foldR_app c t b st'
theorem stepR_grows {c : Int} {st st' : RSt} {l : List UInt8} (h : stepR c st l = some st') : st.cls ≤ st'.cls ∧ st.lens ≤ st'.lens ∧ st'.fs.length ≤ st.fs.length + 1 ∧ st'.cls ≤ st.cls + 1 ∧ st'.lens ≤ st.lens + 1 ∧ (st'.lens = 0 → st'.n = st.n) := by
  unfold stepR at h
  split at h
  · cases h
  · split at h
    · cases hz : sizeN (parseB l).2.1 with
      | none => rw [hz] at h; cases h
      | some m => rw [hz] at h; cases h; simp
    · split at h
      · split at h
        · cases h; simp
        · cases h
      · cases h; simp
theorem foldR_grows {c : Int} : ∀ (ls : List (List UInt8)) {st st' : RSt}, foldR c st ls = some st' → st.cls ≤ st'.cls ∧ st.lens ≤ st'.lens ∧ st'.fs.length ≤ st.fs.length + ls.length ∧ st'.cls ≤ st.cls + ls.length ∧ st'.lens ≤ st.lens + ls.length ∧ (st'.lens = 0 → st'.n = st.n)
  | [], st, st', h => by cases h; simp
  | l :: t, st, st', h => by
    unfold foldR at h
    cases e : stepR c st l with
    | none => rw [e] at h; cases h
    | some y =>
      rw [e] at h
      obtain ⟨a1, a2, a3, a4, a5, a6⟩ := stepR_grows e
      obtain ⟨b1, b2, b3, b4, b5, b6⟩ := foldR_grows t h
      rw [List.length_cons]
      exact ⟨by omega, by omega, by omega, by omega, by omega, fun h0 => (b6 h0).trans (a6 (by omega))⟩
def hOf (st : RSt) : HdSt := (st.fs, st.cls == 1, if st.lens = 0 then none else some st.n)
def RSt.fine (st : RSt) : Bool := decide (st.cls ≤ 1) && decide (st.lens ≤ 1)
theorem RSt.fine_iff {st : RSt} : st.fine = true ↔ st.cls ≤ 1 ∧ st.lens ≤ 1 := by simp [RSt.fine]
theorem step_ref {c : Int} {st : RSt} {l : List UInt8} (hf : st.fine = true) : stepH c (hOf st) l = match stepR c st l with
    | none => none
    | some st' => if st'.fine then some (hOf st') else none := by
  obtain ⟨h1, h2⟩ := RSt.fine_iff.1 hf
  obtain ⟨fs, cls, lens, n⟩ := st
  dsimp only at h1 h2
  unfold stepH stepR hOf
  dsimp only
  cases g1 : (!(parseB l).2.2 || alikeB (parseB l).1 kCod)
  · simp only [Bool.false_eq_true, if_false]
    cases g2 : alikeB (parseB l).1 kLen
    · simp only [Bool.false_eq_true, if_false]
      cases g3 : (c != 101 && alikeB (parseB l).1 kHold)
      · simp [RSt.fine, h1, h2]
      · simp only [if_true]
        cases g4 : ((parseB l).2.1 == kEnds)
        · simp
        · have : cls = 0 ∨ cls = 1 := by omega
          rcases this with rfl | rfl
          · simp [RSt.fine, h2]
          · simp [RSt.fine]
    · simp only [if_true]
      cases g5 : sizeN (parseB l).2.1 with
      | none => simp
      | some m =>
        have : lens = 0 ∨ lens = 1 := by omega
        rcases this with rfl | rfl
        · simp [RSt.fine, h1]
        · simp [RSt.fine]
  · simp
theorem fold_ref {c : Int} : ∀ (ls : List (List UInt8)) (st : RSt), st.fine = true → foldH c (hOf st) ls = match foldR c st ls with
    | none => none
    | some st' => if st'.fine then some (hOf st') else none
  | [], st, hf => by
    show some (hOf st) = _
    unfold foldR
    dsimp only
    rw [hf]; rfl
  | l :: t, st, hf => by
    unfold foldH foldR
    rw [step_ref hf]
    cases e : stepR c st l with
    | none => rfl
    | some y =>
      dsimp only [Option.bind]
      cases hy : y.fine
      · simp only [Bool.false_eq_true, if_false]
        cases e2 : foldR c y t with
        | none => rfl
        | some z =>
          dsimp only
          obtain ⟨b1, b2, _⟩ := foldR_grows t e2
          have : z.fine = false := by
            rw [Bool.eq_false_iff]
            intro hz
            obtain ⟨z1, z2⟩ := RSt.fine_iff.1 hz
            rw [Bool.eq_false_iff] at hy
            exact hy (RSt.fine_iff.2 ⟨by omega, by omega⟩)
          rw [this]; rfl
      · simp only [if_true]
        exact fold_ref t y hy
def st0R : RSt := ⟨[], 0, 0, 0⟩
/-- What the document makes of a head's lines. -/
theorem parts_bad {l0 : List UInt8} {tl : List (List UInt8)} (h : (statB l0).2.2 = false) : partsR (l0 :: tl) = none := by
  unfold partsR
  rw [List.headD_cons]
  obtain ⟨⟨c, r, ok⟩, hs⟩ : ∃ x, statB l0 = x := ⟨_, rfl⟩
  rw [hs] at h ⊢
  dsimp only at h
  subst h
  rfl
theorem parts_ref {l0 r0 : List UInt8} {tl : List (List UInt8)} {c : Nat} (h : statB l0 = (c, r0, true)) : partsR (l0 :: tl) = match foldR c st0R tl with
    | none => none
    | some st => if st.fine && (bareB c == (st.lens == 0)) then some (c, hOf st) else none := by
  unfold partsR
  rw [List.headD_cons, h]
  dsimp only [List.tail_cons]
  have := fold_ref (c := (c : Int)) tl st0R rfl
  have e0 : hOf st0R = ([], false, none) := rfl
  rw [e0] at this
  rw [this]
  cases foldR c st0R tl with
  | none => rfl
  | some st =>
    dsimp only
    have e1 : (hOf st).2.2.isNone = (st.lens == 0) := by
      unfold hOf
      by_cases h0 : st.lens = 0 <;> simp [h0]
    cases st.fine with
    | false => rfl
    | true =>
      simp only [if_true, Bool.true_and, Option.bind_some, e1]
end Go.Proofs.YtfcokldbpjkjpaaGreatDoor
