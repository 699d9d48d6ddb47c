/-
  Plain laws of replies: lines and their ends, what a reply is written as, what bytes are read as; no program in sight.
-/
import Derived.Test.YtfcokldbpjkjpaaGreatDoorP8
import Derived.Test.YtfcokldbpjkjpaaGreatDoorP5
import Derived.Lib.Split
import Derived.Lib.SplitLaws
namespace Go.Proofs.YtfcokldbpjkjpaaGreatDoor

def eolL : List UInt8 := [13, 10]
def eol2 : List UInt8 := [13, 10, 13, 10]
/-- A text's lines. -/
def splitE : List UInt8 → List (List UInt8)
  | [] => [[]]
  | c :: t =>
    if c = 13 ∧ t.head? = some 10 then [] :: splitE t.tail
    else match splitE t with
      | [] => [[c]]
      | l :: r => (c :: l) :: r
termination_by l => l.length
decreasing_by all_goals (simp; try omega)
theorem splitE_ne (l : List UInt8) : splitE l ≠ [] := by
  cases l with
  | nil => simp [splitE]
  | cons c t =>
    unfold splitE
    split
    · simp
    · split <;> simp
theorem splitE_eol (t : List UInt8) : splitE (13 :: 10 :: t) = [] :: splitE t := by
  rw [splitE]; simp
theorem splitE_other {c : UInt8} {t : List UInt8} (h : ¬ (c = 13 ∧ t.head? = some 10)) : splitE (c :: t) = (c :: (splitE t).headD []) :: (splitE t).tail := by
  rw [splitE, if_neg h]
  cases e : splitE t with
  | nil => exact absurd e (splitE_ne t)
  | cons l r => rfl
/-- As the library finds an instance. -/
theorem splitE_at : ∀ (i : Nat) (s : List UInt8), i ≤ s.length → Lib.occAt s eolL i = true → (∀ j, j < i → Lib.occAt s eolL j = false) → splitE s = s.take i :: splitE (s.drop (i + 2))
  | 0, s, _, h, _ => by
    match s, h with
    | 13 :: 10 :: t, _ => rw [splitE_eol]; rfl
    | [], h => simp [Lib.occAt, eolL] at h
    | [a], h => simp [Lib.occAt, eolL] at h
    | a :: b :: t, h =>
      simp [Lib.occAt, eolL] at h
      obtain ⟨rfl, rfl⟩ := h
      rw [splitE_eol]; rfl
  | i + 1, [], hi, _, _ => by simp at hi
  | i + 1, c :: t, hi, h, hno => by
    have h0 := hno 0 (by omega)
    have hne : ¬ (c = 13 ∧ t.head? = some 10) := by
      rintro ⟨rfl, h2⟩
      cases t with
      | nil => simp at h2
      | cons d t => simp at h2; subst h2; simp [Lib.occAt, eolL] at h0
    rw [splitE_other hne, splitE_at i t (by simpa using hi) h (fun j hj => hno (j + 1) (by omega))]
    rfl
theorem splitE_none : ∀ (s : List UInt8), (∀ j, j ≤ s.length → Lib.occAt s eolL j = false) → splitE s = [s]
  | [], _ => by simp [splitE]
  | c :: t, hno => by
    have h0 := hno 0 (by omega)
    have hne : ¬ (c = 13 ∧ t.head? = some 10) := by
      rintro ⟨rfl, h2⟩
      cases t with
      | nil => simp at h2
      | cons d t => simp at h2; subst h2; simp [Lib.occAt, eolL] at h0
    rw [splitE_other hne, splitE_none t (fun j hj => hno (j + 1) (by simp; omega))]
    rfl
theorem splitK_eq : ∀ (n : Nat) (s : List UInt8), s.length ≤ n → ∀ f, s.length < f → Lib.splitK eolL 0 (Lib.countFrom eolL f s) s = splitE s
  | n, s, hn, f, hf => by
    obtain ⟨f, rfl⟩ : ∃ g, f = g + 1 := ⟨f - 1, by omega⟩
    rcases Lib.index_spec s eolL with ⟨h, hno⟩ | ⟨i, h, hi, ho, hno⟩
    · unfold Lib.countFrom
      rw [h, if_pos (by decide)]
      rw [splitE_none s hno]; rfl
    · have hroom := Lib.index_room s eolL (by rw [h]; omega)
      rw [h] at hroom
      have hl2 : eolL.length = 2 := rfl
      rw [hl2] at hroom
      unfold Lib.countFrom
      rw [h, if_neg (by intro e; have := eq_of_beq e; omega), Nat.add_comm 1]
      unfold Lib.splitK
      rw [h, if_neg (by intro e; have := eq_of_beq e; omega), Int.toNat_natCast, hl2, Nat.add_zero]
      rw [splitE_at i s hi ho (fun j hj => hno j hj)]
      cases n with
      | zero => omega
      | succ n =>
        rw [splitK_eq n (s.drop (i + 2)) (by rw [List.length_drop]; omega) f (by rw [List.length_drop]; omega)]
theorem split_eq (s : List UInt8) : Lib.split s eolL = splitE s := splitK_eq s.length s (Nat.le_refl _) _ (Nat.lt_succ_self _)

def kLen : List UInt8 := [67, 111, 110, 116, 101, 110, 116, 45, 76, 101, 110, 103, 116, 104]
def kCod : List UInt8 := [84, 114, 97, 110, 115, 102, 101, 114, 45, 69, 110, 99, 111, 100, 105, 110, 103]
def kHold : List UInt8 := [67, 111, 110, 110, 101, 99, 116, 105, 111, 110]
def kEnds : List UInt8 := [99, 108, 111, 115, 101]
/-- A code's reason. -/
def reasonL (c : Int) : List UInt8 :=
  if c = 101 then [83, 119, 105, 116, 99, 104, 105, 110, 103, 32, 80, 114, 111, 116, 111, 99, 111, 108, 115]
  else if c = 200 then [79, 75]
  else if c = 400 then [66, 97, 100, 32, 82, 101, 113, 117, 101, 115, 116]
  else if c = 403 then [70, 111, 114, 98, 105, 100, 100, 101, 110]
  else if c = 404 then [78, 111, 116, 32, 70, 111, 117, 110, 100]
  else if c = 405 then [77, 101, 116, 104, 111, 100, 32, 78, 111, 116, 32, 65, 108, 108, 111, 119, 101, 100]
  else if c = 413 then [67, 111, 110, 116, 101, 110, 116, 32, 84, 111, 111, 32, 76, 97, 114, 103, 101]
  else if c = 426 then [85, 112, 103, 114, 97, 100, 101, 32, 82, 101, 113, 117, 105, 114, 101, 100]
  else if c = 431 then [82, 101, 113, 117, 101, 115, 116, 32, 72, 101, 97, 100, 101, 114, 32, 70, 105, 101, 108, 100, 115, 32, 84, 111, 111, 32, 76, 97, 114, 103, 101]
  else [83, 116, 97, 116, 117, 115]
def bareB (c : Int) : Bool := decide (c < 200) || (c == 204 || c == 304)
/-- May a reply of this code bear this field? -/
def fieldOk (c : Int) (f : List UInt8 × List UInt8) : Bool :=
  decide (parseB (f.1 ++ [58] ++ f.2) = (f.1, f.2, true)) && !(alikeB f.1 kLen || (alikeB f.1 kCod || (c != 101 && alikeB f.1 kHold)))
def rightR (r : Rp) : Bool :=
  decide (100 ≤ r.code) && (decide (r.code ≤ 599) && (!(bareB r.code && !r.b.isEmpty) && (decide (r.b.length ≤ 65536) && r.fs.all (fieldOk r.code))))
/-- The lines of a reply's head. -/
def linesR (r : Rp) (close : Bool) : List (List UInt8) :=
  [aheadL ++ Lib.itoa r.code ++ [32] ++ reasonL r.code] ++ r.fs.map (fun f => f.1 ++ [58, 32] ++ f.2) ++ (if bareB r.code then [] else [kLen ++ [58, 32] ++ Lib.itoa r.b.length]) ++ (if close then [kHold ++ [58, 32] ++ kEnds] else [])
def headR (r : Rp) (close : Bool) : List UInt8 := (linesR r close).flatMap (· ++ eolL) ++ eolL
/-- A reply's bytes, or none. -/
def bytesR (r : Rp) (head close : Bool) : Option (List UInt8) :=
  if !rightR r || (close && r.code == 101) then none else some (headR r close ++ if head then [] else r.b)

/-- What a Content-Length says. -/
def sizeN (s : List UInt8) : Option Nat := if !s.isEmpty && (decide (s.length ≤ 6) && s.all digB) then Lib.decNat s else none
/-- A head's fields so far, whether it closes, how long its body is. -/
abbrev HdSt := List (List UInt8 × List UInt8) × Bool × Option Nat
def stepH (c : Int) (st : HdSt) (l : List UInt8) : Option HdSt :=
  if !(parseB l).2.2 || alikeB (parseB l).1 kCod then none
  else if alikeB (parseB l).1 kLen then (if st.2.2.isNone then (sizeN (parseB l).2.1).map fun n => (st.1, st.2.1, some n) else none)
  else if c != 101 && alikeB (parseB l).1 kHold then (if !st.2.1 && (parseB l).2.1 == kEnds then some (st.1, true, st.2.2) else none)
  else some (st.1 ++ [((parseB l).1, (parseB l).2.1)], st.2.1, st.2.2)
def foldH (c : Int) : HdSt → List (List UInt8) → Option HdSt
  | st, [] => some st
  | st, l :: t => (stepH c st l).bind fun st' => foldH c st' t
theorem foldH_app (c : Int) : ∀ (a b : List (List UInt8)) (st : HdSt), foldH c st (a ++ b) = (foldH c st a).bind fun st' => foldH c st' b
  | [], b, st => rfl
  | l :: t, b, st => by
    simp only [List.cons_append, foldH]
    cases stepH c st l with
    | none => rfl
    | some st' => exact foldH_app c t b st'
/-- What a head's lines say: the code, the fields, whether it closes, how long the body is; or nothing. -/
def partsR (ls : List (List UInt8)) : Option (Nat × HdSt) :=
  match statB (ls.headD []) with
  | (c, _, true) => (foldH c ([], false, none) ls.tail).bind fun st => if bareB c == st.2.2.isNone then some (c, st) else none
  | _ => none
/-- What is read: a reply, whether it closes, how many bytes; or 7 (too short), 8 (none). -/
inductive Rd10 where
  | good (r : Rp) (close : Bool) (n : Nat)
  | bad (e : Nat)
def readR (s : List UInt8) (head : Bool) : Rd10 :=
  if Lib.index s eol2 = -1 then (if s.length < 65536 then .bad 7 else .bad 8)
  else match partsR (splitE (s.take (Lib.index s eol2).toNat)) with
    | none => .bad 8
    | some (c, fs, close, n) =>
      let at4 := (Lib.index s eol2).toNat + 4
      let k := if head then 0 else n.getD 0
      if s.length < at4 + k then .bad 7 else .good ⟨c, fs, (s.drop at4).take k⟩ close (at4 + k)

/-- Lines with ends between. -/
def joinE : List (List UInt8) → List UInt8
  | [] => []
  | [l] => l
  | l :: t => l ++ eolL ++ joinE t
theorem joinE_cons {l : List UInt8} {t : List (List UInt8)} (h : t ≠ []) : joinE (l :: t) = l ++ eolL ++ joinE t := by
  cases t with
  | nil => exact absurd rfl h
  | cons a b => rfl
theorem flat_join : ∀ (ls : List (List UInt8)), ls ≠ [] → ls.flatMap (· ++ eolL) = joinE ls ++ eolL
  | [l], _ => by simp [joinE]
  | l :: a :: b, _ => by
    rw [List.flatMap_cons, flat_join (a :: b) (by simp), joinE_cons (List.cons_ne_nil a b)]; simp
/-- A line without an end in it. -/
def LineOk (l : List UInt8) : Prop := l ≠ [] ∧ ∀ c ∈ l, c ≠ 13
theorem split_line {l t : List UInt8} (h : ∀ c ∈ l, c ≠ 13) : splitE (l ++ 13 :: 10 :: t) = l :: splitE t := by
  induction l with
  | nil => exact splitE_eol t
  | cons c l ih =>
    rw [List.cons_append, splitE_other (fun e => h c (by simp) e.1), ih (fun x hx => h x (by simp [hx]))]; rfl
theorem split_last {l : List UInt8} (h : ∀ c ∈ l, c ≠ 13) : splitE l = [l] := by
  induction l with
  | nil => simp [splitE]
  | cons c l ih =>
    rw [splitE_other (fun e => h c (by simp) e.1), ih (fun x hx => h x (by simp [hx]))]; rfl
theorem split_join : ∀ (ls : List (List UInt8)), ls ≠ [] → (∀ l ∈ ls, LineOk l) → splitE (joinE ls) = ls
  | [l], _, h => split_last (h l (by simp)).2
  | l :: a :: b, _, h => by
    rw [joinE_cons (by simp), eolL, List.append_assoc]
    show splitE (l ++ 13 :: 10 :: joinE (a :: b)) = _
    rw [split_line (h l (by simp)).2, split_join (a :: b) (by simp) (fun x hx => h x (by simp [hx]))]
theorem index_skip {c : UInt8} {t : List UInt8} (h : List.isPrefixOf eol2 (c :: t) = false) (hi : 0 ≤ Lib.index t eol2) : Lib.index (c :: t) eol2 = Lib.index t eol2 + 1 := by
  rw [Lib.index, h]
  have : (Lib.index t eol2 == -1) = false := beq_eq_false_iff_ne.2 (by omega)
  simp [this]
theorem index_line {l x : List UInt8} (h : ∀ c ∈ l, c ≠ 13) (hi : 0 ≤ Lib.index x eol2) : Lib.index (l ++ x) eol2 = l.length + Lib.index x eol2 := by
  induction l with
  | nil => simp
  | cons c l ih =>
    have ih := ih (fun y hy => h y (by simp [hy]))
    rw [List.cons_append, index_skip (by simp [eol2, List.isPrefixOf, Ne.symm (h c (by simp))]) (by rw [ih]; omega), ih]
    simp only [List.length_cons]; omega
theorem index_end (x : List UInt8) : Lib.index (eol2 ++ x) eol2 = 0 := by
  show Lib.index (13 :: ([10, 13, 10] ++ x)) eol2 = 0
  rw [Lib.index]
  simp [eol2, List.isPrefixOf]
theorem index_join : ∀ (ls : List (List UInt8)) (x : List UInt8), ls ≠ [] → (∀ l ∈ ls, LineOk l) → Lib.index (joinE ls ++ (eol2 ++ x)) eol2 = (joinE ls).length
  | [l], x, _, h => by
    show Lib.index (l ++ (eol2 ++ x)) eol2 = l.length
    rw [index_line (h l (by simp)).2 (by rw [index_end]; omega), index_end]; simp
  | l :: a :: b, x, _, h => by
    have ih := index_join (a :: b) x (by simp) (fun y hy => h y (by simp [hy]))
    rw [joinE_cons (by simp), List.append_assoc, List.append_assoc]
    obtain ⟨c, y, hy⟩ : ∃ c y, joinE (a :: b) ++ (eol2 ++ x) = c :: y ∧ c ≠ 13 := by
      obtain ⟨ha, hc⟩ := h a (by simp)
      cases a with
      | nil => exact absurd rfl ha
      | cons c a =>
        cases b with
        | nil => exact ⟨c, _, rfl, hc c (by simp)⟩
        | cons d e => exact ⟨c, _, by rw [joinE_cons (by simp)]; rfl, hc c (by simp)⟩
    obtain ⟨hy, hc⟩ := hy
    have e1 : Lib.index (eolL ++ (joinE (a :: b) ++ (eol2 ++ x))) eol2 = 2 + Lib.index (joinE (a :: b) ++ (eol2 ++ x)) eol2 := by
      show Lib.index (13 :: 10 :: (joinE (a :: b) ++ (eol2 ++ x))) eol2 = _
      have h2 : Lib.index (10 :: (joinE (a :: b) ++ (eol2 ++ x))) eol2 = Lib.index (joinE (a :: b) ++ (eol2 ++ x)) eol2 + 1 :=
        index_skip (by simp [eol2, List.isPrefixOf]) (by rw [ih]; omega)
      rw [index_skip (by rw [hy]; simp [eol2, List.isPrefixOf, Ne.symm hc]) (by rw [h2, ih]; omega), h2]
      omega
    rw [index_line (h l (by simp)).2 (by rw [e1, ih]; omega), e1, ih]
    simp [eolL]; omega
end Go.Proofs.YtfcokldbpjkjpaaGreatDoor
