/-
  Plain laws of replies: a head's lines as the program goes through them; no program in sight.
-/
import Derived.Test.YtfcokldbpjkjpaaGreatDoorP30
namespace Go.Proofs.YtfcokldbpjkjpaaGreatDoor
/-- What a size is as a number: below 0: it is none. -/
def sizeZ (o : Option Nat) : Int := match o with
  | some n => n
  | none => -1
/-- A head's fields, whether it closes, its length, whether all is fine. -/
structure PSt where
  fs : List (List UInt8 × List UInt8)
  cl : Bool
  n : Int
  ok : Bool
def stepP (c : Int) (st : PSt) (l : List UInt8) : PSt :=
  if !(parseB l).2.2 || alikeB (parseB l).1 kCod then { st with ok := false }
  else if alikeB (parseB l).1 kLen then { st with n := sizeZ (sizeN (parseB l).2.1), ok := st.ok && (decide (st.n < 0) && decide (0 ≤ sizeZ (sizeN (parseB l).2.1))) }
  else if c != 101 && alikeB (parseB l).1 kHold then { st with cl := true, ok := st.ok && (!st.cl && (parseB l).2.1 == kEnds) }
  else { st with fs := st.fs ++ [((parseB l).1, (parseB l).2.1)] }
def foldP (c : Int) : PSt → List (List UInt8) → PSt
  | st, [] => st
  | st, l :: t => foldP c (stepP c st l) t
theorem foldP_snoc (c : Int) : ∀ (a : List (List UInt8)) (st : PSt) (l : List UInt8), foldP c st (a ++ [l]) = stepP c (foldP c st a) l
  | [], _st, _l => rfl
  | x :: t, st, l => foldP_snoc c t (stepP c st x) l
theorem stepP_bad (c : Int) (st : PSt) (l : List UInt8) (h : st.ok = false) : (stepP c st l).ok = false := by
  unfold stepP
  split
  · rfl
  · split
    · show (st.ok && _) = false; rw [h]; rfl
    · split
      · show (st.ok && _) = false; rw [h]; rfl
      · exact h
theorem foldP_bad (c : Int) : ∀ (ls : List (List UInt8)) (st : PSt), st.ok = false → (foldP c st ls).ok = false
  | [], _st, h => h
  | l :: t, st, h => foldP_bad c t _ (stepP_bad c st l h)
theorem sizeZ_neg (o : Option Nat) : decide (sizeZ o < 0) = o.isNone := by
  cases o with
  | none => rfl
  | some n =>
    show decide ((n : Int) < 0) = false
    exact decide_eq_false (by omega)
/-- Where all is fine the program's way is the document's. -/
theorem stepP_eq (c : Int) (st : PSt) (l : List UInt8) (o : Option Nat) (hn : st.n = sizeZ o) (hok : st.ok = true) :
    match stepH c (st.fs, st.cl, o) l with
    | some (fs, cl, o') => stepP c st l = ⟨fs, cl, sizeZ o', true⟩
    | none => (stepP c st l).ok = false := by
  obtain ⟨fs, cl, n, ok⟩ := st
  dsimp only at hn hok
  subst hn hok
  unfold stepH stepP
  dsimp only
  cases h1 : (!(parseB l).2.2 || alikeB (parseB l).1 kCod)
  · simp only [Bool.false_eq_true, if_false]
    cases h2 : alikeB (parseB l).1 kLen
    · simp only [Bool.false_eq_true, if_false]
      cases h3 : (c != 101 && alikeB (parseB l).1 kHold)
      · simp
      · simp only [if_true]
        cases h4 : (!cl && (parseB l).2.1 == kEnds)
        · simp
        · simp
    · simp only [if_true]
      rw [sizeZ_neg]
      cases o with
      | none =>
        cases h5 : sizeN (parseB l).2.1 with
        | none => simp [sizeZ]
        | some m => simp [sizeZ]
      | some k => simp
  · simp
theorem foldP_eq (c : Int) : ∀ (ls : List (List UInt8)) (fs : List (List UInt8 × List UInt8)) (cl : Bool) (o : Option Nat),
    match foldH c (fs, cl, o) ls with
    | some (fs', cl', o') => foldP c ⟨fs, cl, sizeZ o, true⟩ ls = ⟨fs', cl', sizeZ o', true⟩
    | none => (foldP c ⟨fs, cl, sizeZ o, true⟩ ls).ok = false
  | [], fs, cl, o => rfl
  | l :: t, fs, cl, o => by
    have h := stepP_eq c ⟨fs, cl, sizeZ o, true⟩ l o rfl rfl
    dsimp only at h
    unfold foldH foldP
    cases e : stepH c (fs, cl, o) l with
    | none =>
      rw [e] at h
      exact foldP_bad c t _ h
    | some st =>
      obtain ⟨fs1, cl1, o1⟩ := st
      rw [e] at h
      dsimp only at h
      rw [h]
      exact foldP_eq c t fs1 cl1 o1
/-- What the program makes of a head's lines: the code, and its state. -/
def progP (ls : List (List UInt8)) : Nat × PSt := ((statB (ls.headD [])).1, foldP (statB (ls.headD [])).1 ⟨[], false, -1, (statB (ls.headD [])).2.2⟩ ls.tail)
def progOk (ls : List (List UInt8)) : Bool := (progP ls).2.ok && (bareB (progP ls).1 == decide ((progP ls).2.n < 0))
theorem progP_eq (ls : List (List UInt8)) :
    match partsR ls with
    | some (c, fs, cl, o) => progP ls = (c, ⟨fs, cl, sizeZ o, true⟩) ∧ progOk ls = true
    | none => progOk ls = false := by
  unfold partsR progOk progP
  obtain ⟨⟨c, r, ok⟩, hs⟩ : ∃ x, statB (ls.headD []) = x := ⟨_, rfl⟩
  rw [hs]
  cases ok with
  | false =>
    dsimp only
    rw [foldP_bad _ _ _ rfl]; rfl
  | true =>
    dsimp only
    have h := foldP_eq c ls.tail [] false none
    cases e : foldH c ([], false, none) ls.tail with
    | none =>
      rw [e] at h
      dsimp only [Option.bind] at h ⊢
      have h' : (foldP (↑c) ⟨[], false, -1, true⟩ ls.tail).ok = false := h
      rw [h']; rfl
    | some st =>
      obtain ⟨fs, cl, o⟩ := st
      rw [e] at h
      have h' : foldP (↑c) ⟨[], false, -1, true⟩ ls.tail = ⟨fs, cl, sizeZ o, true⟩ := h
      dsimp only [Option.bind]
      rw [h']
      dsimp only
      rw [sizeZ_neg]
      cases hb : (bareB ↑c == o.isNone)
      · simp
      · simp
end Go.Proofs.YtfcokldbpjkjpaaGreatDoor
