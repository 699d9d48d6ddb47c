/-
  Plain laws: a text's lines, where a head ends; no program in sight. (Out of P30, P32, P33 and Vj.)
  Plain laws: the parts of a text.
  Plain laws of steps around a handler: no program in sight.
  Plain laws of requests: what a head says, the parser; no program in sight.
-/
import Derived.Test.YtpncfeaaffgkfaaGreatDoorP1
import Derived.Lib.Split
import Derived.Lib.SplitLaws
import Derived.Test.YtpncfeaaffgkfaaGreatDoorG
import Derived.Lib.AtoiAll
namespace Go.Proofs.YtpncfeaaffgkfaaGreatDoor
def eolL : List UInt8 := [13, 10]
def eol2 : List UInt8 := [13, 10, 13, 10]
/-- A text's lines. -/
def splitE : List UInt8 → List (List UInt8)
  | [] => [[]]
  | c :: t =>
    if c = 13 ∧ t.head? = some 10 then [] :: splitE t.tail
    else match splitE t with
      | [] => [[c]]
      | l :: r => (c :: l) :: r
termination_by l => l.length
decreasing_by all_goals (simp; try omega)
theorem splitE_ne (l : List UInt8) : splitE l ≠ [] := by
  cases l with
  | nil => simp [splitE]
  | cons c t =>
    unfold splitE
    split
    · simp
    · split <;> simp
theorem splitE_eol (t : List UInt8) : splitE (13 :: 10 :: t) = [] :: splitE t := by
  rw [splitE]; simp
theorem splitE_other {c : UInt8} {t : List UInt8} (h : ¬ (c = 13 ∧ t.head? = some 10)) : splitE (c :: t) = (c :: (splitE t).headD []) :: (splitE t).tail := by
  rw [splitE, if_neg h]
  cases e : splitE t with
  | nil => exact absurd e (splitE_ne t)
  | cons l r => rfl
/-- As the library finds an instance. -/
theorem splitE_at : ∀ (i : Nat) (s : List UInt8), i ≤ s.length → Lib.occAt s eolL i = true → (∀ j, j < i → Lib.occAt s eolL j = false) → splitE s = s.take i :: splitE (s.drop (i + 2))
  | 0, s, _, h, _ => by
    match s, h with
    | 13 :: 10 :: t, _ => rw [splitE_eol]; rfl
    | [], h => simp [Lib.occAt, eolL] at h
    | [a], h => simp [Lib.occAt, eolL] at h
    | a :: b :: t, h =>
      simp [Lib.occAt, eolL] at h
      obtain ⟨rfl, rfl⟩ := h
      rw [splitE_eol]; rfl
  | i + 1, [], hi, _, _ => by simp at hi
  | i + 1, c :: t, hi, h, hno => by
    have h0 := hno 0 (by omega)
    have hne : ¬ (c = 13 ∧ t.head? = some 10) := by
      rintro ⟨rfl, h2⟩
      cases t with
      | nil => simp at h2
      | cons d t => simp at h2; subst h2; simp [Lib.occAt, eolL] at h0
    rw [splitE_other hne, splitE_at i t (by simpa using hi) h (fun j hj => hno (j + 1) (by omega))]
    rfl
theorem splitE_none : ∀ (s : List UInt8), (∀ j, j ≤ s.length → Lib.occAt s eolL j = false) → splitE s = [s]
  | [], _ => by simp [splitE]
  | c :: t, hno => by
    have h0 := hno 0 (by omega)
    have hne : ¬ (c = 13 ∧ t.head? = some 10) := by
      rintro ⟨rfl, h2⟩
      cases t with
      | nil => simp at h2
      | cons d t => simp at h2; subst h2; simp [Lib.occAt, eolL] at h0
    rw [splitE_other hne, splitE_none t (fun j hj => hno (j + 1) (by simp; omega))]
    rfl
theorem splitK_eq : ∀ (n : Nat) (s : List UInt8), s.length ≤ n → ∀ f, s.length < f → Lib.splitK eolL 0 (Lib.countFrom eolL f s) s = splitE s
  | n, s, hn, f, hf => by
    obtain ⟨f, rfl⟩ : ∃ g, f = g + 1 := ⟨f - 1, by omega⟩
    rcases Lib.index_spec s eolL with ⟨h, hno⟩ | ⟨i, h, hi, ho, hno⟩
    · unfold Lib.countFrom
      rw [h, if_pos (by decide)]
      rw [splitE_none s hno]; rfl
    · have hroom := Lib.index_room s eolL (by rw [h]; omega)
      rw [h] at hroom
      have hl2 : eolL.length = 2 := rfl
      rw [hl2] at hroom
      unfold Lib.countFrom
      rw [h, if_neg (by intro e; have := eq_of_beq e; omega), Nat.add_comm 1]
      unfold Lib.splitK
      rw [h, if_neg (by intro e; have := eq_of_beq e; omega), Int.toNat_natCast, hl2, Nat.add_zero]
      rw [splitE_at i s hi ho (fun j hj => hno j hj)]
      cases n with
      | zero => omega
      | succ n =>
        rw [splitK_eq n (s.drop (i + 2)) (by rw [List.length_drop]; omega) f (by rw [List.length_drop]; omega)]
theorem split_eq (s : List UInt8) : Lib.split s eolL = splitE s := splitK_eq s.length s (Nat.le_refl _) _ (Nat.lt_succ_self _)

/-- Lines with ends between. -/
def joinE : List (List UInt8) → List UInt8
  | [] => []
  | [l] => l
  | l :: t => l ++ eolL ++ joinE t
theorem joinE_cons {l : List UInt8} {t : List (List UInt8)} (h : t ≠ []) : joinE (l :: t) = l ++ eolL ++ joinE t := by
  cases t with
  | nil => exact absurd rfl h
  | cons a b => rfl
theorem flat_join : ∀ (ls : List (List UInt8)), ls ≠ [] → ls.flatMap (· ++ eolL) = joinE ls ++ eolL
  | [l], _ => by simp [joinE]
  | l :: a :: b, _ => by
    rw [List.flatMap_cons, flat_join (a :: b) (by simp), joinE_cons (List.cons_ne_nil a b)]; simp
/-- A line without an end in it. -/
def LineOk (l : List UInt8) : Prop := l ≠ [] ∧ ∀ c ∈ l, c ≠ 13
theorem split_line {l t : List UInt8} (h : ∀ c ∈ l, c ≠ 13) : splitE (l ++ 13 :: 10 :: t) = l :: splitE t := by
  induction l with
  | nil => exact splitE_eol t
  | cons c l ih =>
    rw [List.cons_append, splitE_other (fun e => h c (by simp) e.1), ih (fun x hx => h x (by simp [hx]))]; rfl
theorem split_last {l : List UInt8} (h : ∀ c ∈ l, c ≠ 13) : splitE l = [l] := by
  induction l with
  | nil => simp [splitE]
  | cons c l ih =>
    rw [splitE_other (fun e => h c (by simp) e.1), ih (fun x hx => h x (by simp [hx]))]; rfl
theorem split_join : ∀ (ls : List (List UInt8)), ls ≠ [] → (∀ l ∈ ls, LineOk l) → splitE (joinE ls) = ls
  | [l], _, h => split_last (h l (by simp)).2
  | l :: a :: b, _, h => by
    rw [joinE_cons (by simp), eolL, List.append_assoc]
    show splitE (l ++ 13 :: 10 :: joinE (a :: b)) = _
    rw [split_line (h l (by simp)).2, split_join (a :: b) (by simp) (fun x hx => h x (by simp [hx]))]
theorem index_skip {c : UInt8} {t : List UInt8} (h : List.isPrefixOf eol2 (c :: t) = false) (hi : 0 ≤ Lib.index t eol2) : Lib.index (c :: t) eol2 = Lib.index t eol2 + 1 := by
  rw [Lib.index, h]
  have : (Lib.index t eol2 == -1) = false := beq_eq_false_iff_ne.2 (by omega)
  simp [this]
theorem index_line {l x : List UInt8} (h : ∀ c ∈ l, c ≠ 13) (hi : 0 ≤ Lib.index x eol2) : Lib.index (l ++ x) eol2 = l.length + Lib.index x eol2 := by
  induction l with
  | nil => simp
  | cons c l ih =>
    have ih := ih (fun y hy => h y (by simp [hy]))
    rw [List.cons_append, index_skip (by simp [eol2, List.isPrefixOf, Ne.symm (h c (by simp))]) (by rw [ih]; omega), ih]
    simp only [List.length_cons]; omega
theorem index_end (x : List UInt8) : Lib.index (eol2 ++ x) eol2 = 0 := by
  show Lib.index (13 :: ([10, 13, 10] ++ x)) eol2 = 0
  rw [Lib.index]
  simp [eol2, List.isPrefixOf]
theorem index_join : ∀ (ls : List (List UInt8)) (x : List UInt8), ls ≠ [] → (∀ l ∈ ls, LineOk l) → Lib.index (joinE ls ++ (eol2 ++ x)) eol2 = (joinE ls).length
  | [l], x, _, h => by
    show Lib.index (l ++ (eol2 ++ x)) eol2 = l.length
    rw [index_line (h l (by simp)).2 (by rw [index_end]; omega), index_end]; simp
  | l :: a :: b, x, _, h => by
    have ih := index_join (a :: b) x (by simp) (fun y hy => h y (by simp [hy]))
    rw [joinE_cons (by simp), List.append_assoc, List.append_assoc]
    obtain ⟨c, y, hy⟩ : ∃ c y, joinE (a :: b) ++ (eol2 ++ x) = c :: y ∧ c ≠ 13 := by
      obtain ⟨ha, hc⟩ := h a (by simp)
      cases a with
      | nil => exact absurd rfl ha
      | cons c a =>
        cases b with
        | nil => exact ⟨c, _, rfl, hc c (by simp)⟩
        | cons d e => exact ⟨c, _, by rw [joinE_cons (by simp)]; rfl, hc c (by simp)⟩
    obtain ⟨hy, hc⟩ := hy
    have e1 : Lib.index (eolL ++ (joinE (a :: b) ++ (eol2 ++ x))) eol2 = 2 + Lib.index (joinE (a :: b) ++ (eol2 ++ x)) eol2 := by
      show Lib.index (13 :: 10 :: (joinE (a :: b) ++ (eol2 ++ x))) eol2 = _
      have h2 : Lib.index (10 :: (joinE (a :: b) ++ (eol2 ++ x))) eol2 = Lib.index (joinE (a :: b) ++ (eol2 ++ x)) eol2 + 1 :=
        index_skip (by simp [eol2, List.isPrefixOf]) (by rw [ih]; omega)
      rw [index_skip (by rw [hy]; simp [eol2, List.isPrefixOf, Ne.symm hc]) (by rw [h2, ih]; omega), h2]
      omega
    rw [index_line (h l (by simp)).2 (by rw [e1, ih]; omega), e1, ih]
    simp [eolL]; omega
theorem occ_take {s sep : List UInt8} {k i : Nat} (h : Lib.occAt (s.take k) sep i = true) (h0 : sep ≠ []) : Lib.occAt s sep i = true ∧ i + sep.length ≤ k := by
  unfold Lib.occAt at h ⊢
  rw [List.isPrefixOf_iff_prefix] at h ⊢
  rw [List.drop_take] at h
  refine ⟨h.trans (List.take_prefix _ _), ?_⟩
  have h1 := h.length_le
  rw [List.length_take] at h1
  have : 0 < sep.length := List.length_pos_iff.2 h0
  omega
theorem occ_into {s sep : List UInt8} {k i : Nat} (h : Lib.occAt s sep i = true) (hk : i + sep.length ≤ k) : Lib.occAt (s.take k) sep i = true := by
  unfold Lib.occAt at h ⊢
  rw [List.isPrefixOf_iff_prefix] at h ⊢
  obtain ⟨t, ht⟩ := h
  rw [List.drop_take, ← ht]
  refine ⟨t.take (k - i - sep.length), ?_⟩
  rw [List.take_append, List.take_of_length_le (l := sep) (by omega)]
theorem index_cut {s : List UInt8} {k at4 : Nat} (h : Lib.index s eol2 = at4) : Lib.index (s.take k) eol2 = -1 ∨ (at4 + 4 ≤ k ∧ Lib.index (s.take k) eol2 = at4) := by
  rcases Lib.index_spec (s.take k) eol2 with ⟨h1, _⟩ | ⟨i, h1, hi, ho, hno⟩
  · exact .inl h1
  · right
    obtain ⟨o1, o2⟩ := occ_take ho (by decide)
    have o2 : i + 4 ≤ k := o2
    rcases Lib.index_spec s eol2 with ⟨h2, hno2⟩ | ⟨j, h2, hj, ho2, hno2⟩
    · rw [h2] at h; omega
    · rw [h2] at h
      obtain rfl : j = at4 := by omega
      have hji : j ≤ i := by
        rcases Nat.lt_or_ge i j with hlt | hge
        · rw [hno2 i hlt] at o1; cases o1
        · exact hge
      have hij : i ≤ j := by
        rcases Nat.lt_or_ge j i with hlt | hge
        · have := hno j hlt
          rw [occ_into ho2 (show j + 4 ≤ k by omega)] at this; cases this
        · exact hge
      obtain rfl : i = j := by omega
      exact ⟨o2, h1⟩
/-- Where a scan for lines stands. -/
def SplI (t : List UInt8) (L : List (List UInt8)) (a i : Nat) : Prop :=
  splitE t = L ++ splitE (t.drop a) ∧ a ≤ t.length ∧ (a ≤ i ∨ (a = i + 1 ∧ t[i]? = some 10)) ∧ ∀ j, a ≤ j → j < i → Lib.occAt t eolL j = false
theorem occ_eol {t : List UInt8} {i : Nat} : Lib.occAt t eolL i = true ↔ (t[i]? = some 13 ∧ t[i + 1]? = some 10) := by
  unfold Lib.occAt
  rw [List.isPrefixOf_iff_prefix]
  have e1 : t[i]? = (t.drop i)[0]? := by rw [List.getElem?_drop]; rfl
  have e2 : t[i + 1]? = (t.drop i)[1]? := by rw [List.getElem?_drop]
  rw [e1, e2]
  generalize t.drop i = u
  constructor
  · rintro ⟨v, rfl⟩; exact ⟨rfl, rfl⟩
  · rintro ⟨h1, h2⟩
    match u, h1, h2 with
    | [], h1, _ => cases h1
    | [a], _, h2 => cases h2
    | a :: b :: v, h1, h2 =>
      cases h1; cases h2
      exact ⟨v, rfl⟩
theorem SplI.start (t : List UInt8) : SplI t [] 0 0 := ⟨rfl, Nat.zero_le _, .inl (Nat.le_refl _), fun _j _ h => absurd h (Nat.not_lt_zero _)⟩
theorem SplI.found {t : List UInt8} {L : List (List UInt8)} {a i : Nat} (h : SplI t L a i) (h1 : t[i]? = some 13) (h2 : t[i + 1]? = some 10) : SplI t (L ++ [(t.take i).drop a]) (i + 2) (i + 1) := by
  obtain ⟨k1, k2, k3, k4⟩ := h
  have hi := (List.getElem?_eq_some_iff.1 h2).1
  have ha : a ≤ i := by
    rcases k3 with k3 | ⟨_, k3⟩
    · exact k3
    · rw [h1] at k3; cases k3
  refine ⟨?_, by omega, .inr ⟨rfl, h2⟩, fun j hj hj2 => by omega⟩
  have ho : Lib.occAt (t.drop a) eolL (i - a) = true := by
    rw [occ_eol, List.getElem?_drop, List.getElem?_drop, show a + (i - a) = i by omega, show a + (i - a + 1) = i + 1 by omega]
    exact ⟨h1, h2⟩
  rw [k1, splitE_at (i - a) (t.drop a) (by rw [List.length_drop]; omega) ho (fun j hj => by
    have := k4 (a + j) (by omega) (by omega)
    unfold Lib.occAt at this ⊢
    rwa [List.drop_drop]), List.drop_drop, List.append_assoc, List.drop_take, show a + (i - a + 2) = i + 2 by omega]
  rfl
theorem SplI.other {t : List UInt8} {L : List (List UInt8)} {a i : Nat} (h : SplI t L a i) (h1 : ¬ (t[i]? = some 13 ∧ t[i + 1]? = some 10)) : SplI t L a (i + 1) := by
  obtain ⟨k1, k2, k3, k4⟩ := h
  refine ⟨k1, k2, .inl (by omega), fun j hj hj2 => ?_⟩
  by_cases e : j = i
  · subst e
    rw [Bool.eq_false_iff]
    exact fun h => h1 (occ_eol.1 h)
  · exact k4 j hj (by omega)
theorem SplI.done {t : List UInt8} {L : List (List UInt8)} {a i : Nat} (h : SplI t L a i) (h1 : t.length ≤ i + 1) : splitE t = L ++ [t.drop a] := by
  obtain ⟨k1, k2, k3, k4⟩ := h
  rw [k1, splitE_none]
  intro j hj
  rw [Bool.eq_false_iff]
  intro ho
  have ho2 := occ_eol.1 ho
  rw [List.getElem?_drop, List.getElem?_drop] at ho2
  have hlt := (List.getElem?_eq_some_iff.1 ho2.2).1
  have := k4 (a + j) (by omega) (by omega)
  rw [Bool.eq_false_iff] at this
  exact this (occ_eol.2 ho2)

theorem splitE_count (s : List UInt8) : Lib.splitK eolL 0 (Lib.count s eolL) s = splitE s := split_eq s
theorem splitE_len : ∀ (n : Nat) (s : List UInt8), s.length ≤ n → (splitE s).length ≤ s.length + 1 ∧ ∀ l ∈ splitE s, l.length ≤ s.length
  | 0, s, h => by
    obtain rfl : s = [] := List.eq_nil_of_length_eq_zero (by omega)
    simp [splitE]
  | n + 1, [], h => by simp [splitE]
  | n + 1, c :: t, h => by
    rw [List.length_cons] at h
    by_cases hc : c = 13 ∧ t.head? = some 10
    · obtain ⟨rfl, h2⟩ := hc
      cases t with
      | nil => simp at h2
      | cons d t =>
        simp at h2; subst h2
        rw [List.length_cons] at h
        obtain ⟨h1, h2⟩ := splitE_len n t (by omega)
        rw [splitE_eol]
        refine ⟨by simp; omega, fun l hl => ?_⟩
        rcases List.mem_cons.1 hl with rfl | hl
        · simp
        · have := h2 l hl; simp; omega
    · obtain ⟨h1, h2⟩ := splitE_len n t (by omega)
      rw [splitE_other hc]
      have hne := splitE_ne t
      obtain ⟨a, b, hab⟩ : ∃ a b, splitE t = a :: b := by
        cases e : splitE t with
        | nil => exact absurd e hne
        | cons a b => exact ⟨a, b, rfl⟩
      rw [hab] at h1 h2 ⊢
      simp only [List.headD_cons, List.tail_cons, List.length_cons] at h1 ⊢
      refine ⟨by omega, fun l hl => ?_⟩
      rcases List.mem_cons.1 hl with rfl | hl
      · have := h2 a (by simp); simp; omega
      · have := h2 l (by simp [hl]); omega
theorem cut4 {s : List UInt8} {k : Nat} : ((s.take (k + 4)).drop k == [13, 10, 13, 10]) = Lib.occAt s eol2 k := by
  have e : (s.take (k + 4)).drop k = (s.drop k).take 4 := by rw [List.drop_take, show k + 4 - k = 4 by omega]
  rw [e, Bool.eq_iff_iff, beq_iff_eq]
  unfold Lib.occAt
  rw [List.isPrefixOf_iff_prefix, List.prefix_iff_eq_take]
  exact eq_comm
theorem index_of {s : List UInt8} {k : Nat} (h : Lib.occAt s eol2 k = true) (h4 : k + 4 ≤ s.length) (hno : ∀ j, j < k → Lib.occAt s eol2 j = false) : Lib.index s eol2 = k := by
  rcases Lib.index_spec s eol2 with ⟨_, h2⟩ | ⟨i, h1, _, h2, h3⟩
  · rw [h2 k (by omega)] at h; cases h
  · rw [h1]
    have a : ¬ i < k := fun hi => by rw [hno i hi] at h2; cases h2
    have b : ¬ k < i := fun hi => by rw [h3 k hi] at h; cases h
    omega
theorem index_not {s : List UInt8} {k : Nat} (h4 : s.length < k + 4) (hno : ∀ j, j < k → Lib.occAt s eol2 j = false) : Lib.index s eol2 = -1 := by
  rcases Lib.index_spec s eol2 with ⟨h1, _⟩ | ⟨i, h1, _, h2, h3⟩
  · exact h1
  · have hr := Lib.index_room s eol2 (by rw [h1]; omega)
    rw [h1] at hr
    have hl : eol2.length = 4 := rfl
    rw [hno i (by omega)] at h2; cases h2
theorem step_no {s : List UInt8} {k : Nat} (hno : ∀ j, j < k → Lib.occAt s eol2 j = false) (h : Lib.occAt s eol2 k = false) : ∀ j, j < k + 1 → Lib.occAt s eol2 j = false := fun j hj => by
  by_cases e : j = k
  · subst e; exact h
  · exact hno j (by omega)
theorem SplI.le {t : List UInt8} {L : List (List UInt8)} {a i : Nat} (h : SplI t L a i) (h1 : t[i]? = some 13) : a ≤ i := by
  rcases h.2.2.1 with h3 | ⟨_, h3⟩
  · exact h3
  · rw [h1] at h3; cases h3
def lsum : List (List UInt8) → Nat
  | [] => 0
  | l :: t => l.length + lsum t
theorem lsum_split : ∀ (n : Nat) (s : List UInt8), s.length ≤ n → lsum (splitE s) ≤ s.length
  | 0, s, h => by
    obtain rfl : s = [] := List.eq_nil_of_length_eq_zero (by omega)
    simp [splitE, lsum]
  | n + 1, [], h => by simp [splitE, lsum]
  | n + 1, c :: t, h => by
    rw [List.length_cons] at h
    by_cases hc : c = 13 ∧ t.head? = some 10
    · obtain ⟨rfl, h2⟩ := hc
      cases t with
      | nil => simp at h2
      | cons d t =>
        simp at h2; subst h2
        rw [List.length_cons] at h
        have h1 := lsum_split n t (by omega)
        rw [splitE_eol]
        simp only [lsum, List.length_cons, List.length_nil]; omega
    · have h1 := lsum_split n t (by omega)
      rw [splitE_other hc]
      obtain ⟨a, b, hab⟩ : ∃ a b, splitE t = a :: b := by
        cases e : splitE t with
        | nil => exact absurd e (splitE_ne t)
        | cons a b => exact ⟨a, b, rfl⟩
      rw [hab] at h1 ⊢
      simp only [List.headD_cons, List.tail_cons, lsum, List.length_cons] at h1 ⊢
      omega
end Go.Proofs.YtpncfeaaffgkfaaGreatDoor
namespace Go.Proofs.YtpncfeaaffgkfaaGreatDoor

/-- What stands between the separators. -/
def splitB (c : UInt8) : List UInt8 → List (List UInt8)
  | [] => [[]]
  | b :: t => if b = c then [] :: splitB c t else match splitB c t with | h :: r => (b :: h) :: r | [] => [[b]]
theorem splitB_ne (c : UInt8) (l : List UInt8) : splitB c l ≠ [] := by
  cases l with
  | nil => simp [splitB]
  | cons b t =>
    unfold splitB
    split
    · simp
    · split <;> simp
theorem splitB_none (c : UInt8) : ∀ (l : List UInt8), (∀ j, (hj : j < l.length) → l[j] ≠ c) → splitB c l = [l]
  | [], _ => rfl
  | b :: t, h => by
    have h0 : b ≠ c := h 0 (by simp)
    have ht := splitB_none c t (fun j hj => h (j + 1) (by simp; omega))
    unfold splitB
    rw [if_neg h0, ht]
theorem splitB_cons (c b : UInt8) (t : List UInt8) : splitB c (b :: t) = if b = c then [] :: splitB c t else match splitB c t with | h :: r => (b :: h) :: r | [] => [[b]] := rfl
theorem splitB_at (c : UInt8) : ∀ (l : List UInt8) (k : Nat) (hk : k < l.length), l[k] = c → (∀ j, (hj : j < k) → l[j]'(by omega) ≠ c) → splitB c l = l.take k :: splitB c (l.drop (k + 1))
  | [], k, hk, _, _ => by simp at hk
  | b :: t, 0, _, h, _ => by
    have : b = c := h
    rw [splitB_cons, if_pos this]; rfl
  | b :: t, k + 1, hk, h, hb => by
    have h0 : b ≠ c := hb 0 (by omega)
    have ht := splitB_at c t k (by simpa using hk) h (fun j hj => hb (j + 1) (by omega))
    rw [splitB_cons, if_neg h0, ht]
    rfl
theorem indexByte_spec (l : List UInt8) (c : UInt8) : (Lib.indexByte l c = -1 ∧ ∀ j, (hj : j < l.length) → l[j] ≠ c) ∨
    ∃ k : Nat, Lib.indexByte l c = k ∧ ∃ hk : k < l.length, l[k] = c ∧ ∀ j, (hj : j < k) → l[j]'(by omega) ≠ c := by
  induction l with
  | nil => exact .inl ⟨rfl, fun j hj => by simp at hj⟩
  | cons b t ih =>
    unfold Lib.indexByte
    by_cases hb : b = c
    · exact .inr ⟨0, by simp [hb], by simp, hb, fun j hj => by omega⟩
    · have hb' : (b == c) = false := beq_eq_false_iff_ne.2 hb
      rw [hb']
      rcases ih with ⟨h1, h2⟩ | ⟨k, h1, hk, h2, h3⟩
      · refine .inl ⟨by simp [h1], fun j hj => ?_⟩
        cases j with
        | zero => exact hb
        | succ j => exact h2 j (by simpa using hj)
      · refine .inr ⟨k + 1, ?_, by simpa using hk, h2, fun j hj => ?_⟩
        · have : (Lib.indexByte t c == -1) = false := beq_eq_false_iff_ne.2 (by omega)
          simp [h1]
        · cases j with
          | zero => exact hb
          | succ j => exact h3 j (by omega)
theorem splitB_len (c : UInt8) : ∀ (l x : List UInt8), x ∈ splitB c l → x.length ≤ l.length
  | [], x, h => by
    have : x = [] := by simpa [splitB] using h
    simp [this]
  | b :: t, x, h => by
    rw [splitB_cons] at h
    have ih := splitB_len c t
    split at h
    · rcases List.mem_cons.1 h with h | h
      · simp [h]
      · have := ih x h; simp; omega
    · cases hs : splitB c t with
      | nil => rw [hs] at h; simp at h; simp [h]
      | cons y r =>
        rw [hs] at h ih
        rcases List.mem_cons.1 h with h | h
        · have := ih y (by simp); simp [h]; omega
        · have := ih x (by simp [h]); simp; omega
theorem trimB_len (l : List UInt8) : (trimB l).length ≤ l.length := by
  rw [trimB_eq]
  unfold ldrop rdrop
  have h1 := (List.dropWhile_suffix (p := isBlank) (l := (l.reverse.dropWhile isBlank).reverse)).length_le
  have h2 := (List.dropWhile_suffix (p := isBlank) (l := l.reverse)).length_le
  simp at h1 h2 ⊢
  omega
theorem splitB_length (c : UInt8) : ∀ (l : List UInt8), (splitB c l).length ≤ l.length + 1
  | [] => by simp [splitB]
  | b :: t => by
    have ih := splitB_length c t
    rw [splitB_cons]
    split
    · simp; omega
    · split
      · rename_i h; rw [h] at ih; simp at ih ⊢; omega
      · simp
def partsOf (ps : List (List UInt8)) : List (List UInt8) := (ps.map trimB).filter (fun p => !p.isEmpty)
theorem partsOf_snoc_0 (ps : List (List UInt8)) (x : List UInt8) (h : trimB x = []) : partsOf (ps ++ [x]) = partsOf ps := by
  unfold partsOf; simp [h]
theorem partsOf_snoc_s (ps : List (List UInt8)) (x : List UInt8) (h : trimB x ≠ []) : partsOf (ps ++ [x]) = partsOf ps ++ [trimB x] := by
  unfold partsOf; simp [h]
theorem partsOf_len (ps : List (List UInt8)) : (partsOf ps).length ≤ ps.length := by
  unfold partsOf
  exact Nat.le_trans (List.length_filter_le _ _) (by simp)
/-- The parts of a value. -/
def partsB (l : List UInt8) : List (List UInt8) := ((splitB 44 l).map trimB).filter (fun p => !p.isEmpty)
def hasB (l word : List UInt8) : Bool := (partsB l).any (fun p => alikeB p word)
theorem partsB_len (l x : List UInt8) (h : x ∈ partsB l) : x.length ≤ l.length := by
  unfold partsB at h
  rw [List.mem_filter, List.mem_map] at h
  obtain ⟨⟨y, hy, rfl⟩, _⟩ := h
  exact Nat.le_trans (trimB_len y) (splitB_len 44 l y hy)
/-- How far Parts is: the pieces that are done, where the next one begins, and where the reader is. -/
def PartsAt (l : List UInt8) (k a : Nat) (done : List (List UInt8)) : Prop :=
  (k ≤ l.length ∧ a ≤ k ∧ splitB 44 l = done ++ splitB 44 (l.drop a) ∧ ∀ j, a ≤ j → j < k → (hj : j < l.length) → l[j] ≠ 44) ∨ (k = l.length + 1 ∧ a = k ∧ splitB 44 l = done)
theorem PartsAt.begin (l : List UInt8) : PartsAt l 0 0 [] := .inl ⟨Nat.zero_le _, Nat.le_refl _, rfl, fun j _ h => by omega⟩
theorem PartsAt.skip {l : List UInt8} {k a : Nat} {done : List (List UInt8)} (h : PartsAt l k a done) (hk : k < l.length) (hc : l[k] ≠ 44) : PartsAt l (k + 1) a done := by
  rcases h with ⟨h1, h2, h3, h4⟩ | ⟨h1, _, _⟩
  · refine .inl ⟨hk, by omega, h3, fun j ha hj hl => ?_⟩
    by_cases e : j = k
    · subst e; exact hc
    · exact h4 j ha (by omega) hl
  · omega
theorem PartsAt.piece {l : List UInt8} {k a : Nat} {done : List (List UInt8)} (h : PartsAt l k a done) (hk : k ≤ l.length) (hc : k = l.length ∨ ∃ hk : k < l.length, l[k] = 44) : PartsAt l (k + 1) (k + 1) (done ++ [(l.take k).drop a]) := by
  rcases h with ⟨h1, h2, h3, h4⟩ | ⟨h1, _, _⟩
  · have hd : ∀ j, (hj : j < k - a) → (hl : j < (l.drop a).length) → (l.drop a)[j] ≠ 44 := fun j hj hl => by
      rw [List.getElem_drop]; exact h4 (a + j) (by omega) (by omega) (by simp at hl; omega)
    rcases hc with hc | ⟨hlt, hc⟩
    · refine .inr ⟨by omega, rfl, ?_⟩
      rw [h3, splitB_none 44 (l.drop a) (fun j hj => hd j (by simp at hj; omega) hj), List.take_of_length_le (by omega)]
    · refine .inl ⟨hlt, Nat.le_refl _, ?_, fun j ha hj => by omega⟩
      have e44 : (l.drop a)[k - a]'(by simp; omega) = 44 := by
        rw [List.getElem_drop, ← hc]
        congr 1
        omega
      rw [h3, splitB_at 44 (l.drop a) (k - a) (by simp; omega) e44 (fun j hj => hd j hj (by simp; omega))]
      rw [List.append_assoc, List.singleton_append, List.drop_drop, List.drop_take]
      have : a + (k - a + 1) = k + 1 := by omega
      rw [this]
  · omega
theorem PartsAt.len {l : List UInt8} {k a : Nat} {done : List (List UInt8)} (h : PartsAt l k a done) : done.length ≤ l.length + 1 := by
  have := splitB_length 44 l
  rcases h with ⟨_, _, h3, _⟩ | ⟨_, _, h3⟩
  · rw [h3, List.length_append] at this; omega
  · rw [h3] at this; exact this
theorem PartsAt.fin {l : List UInt8} {k a : Nat} {done : List (List UInt8)} (h : PartsAt l k a done) (hk : ¬ k ≤ l.length) : partsB l = partsOf done := by
  rcases h with ⟨h1, _, _, _⟩ | ⟨_, _, h3⟩
  · exact absurd h1 hk
  · unfold partsB partsOf; rw [h3]
end Go.Proofs.YtpncfeaaffgkfaaGreatDoor
namespace Go.Proofs.YtpncfeaaffgkfaaGreatDoor

theorem trim_same (l : List UInt8) : (trimB l == l) = (l.isEmpty || (!isBlank (l.headD 0) && !isBlank (l.getLastD 0))) := by
  by_cases h0 : l = []
  · subst h0; rfl
  · have hlen : 0 < l.length := List.length_pos_iff.2 h0
    have hE : l.isEmpty = false := by simpa using h0
    rw [hE, Bool.false_or]
    have hh : l.headD 0 = l[0] := by cases l; cases hlen; rfl
    have hl : l.getLastD 0 = l[l.length - 1] := by
      rw [List.getLastD_eq_getLast?, List.getLast?_eq_getElem?, List.getElem?_eq_getElem (by omega)]; rfl
    rw [hh, hl, Bool.eq_iff_iff, beq_iff_eq, Bool.and_eq_true, Bool.not_eq_true', Bool.not_eq_true']
    constructor
    · intro e
      have h1 := trim_head (l := l) (by rw [e]; exact hlen)
      have h2 := trim_last (l := l) (by rw [e]; exact hlen)
      simp only [e] at h1 h2
      exact ⟨h1, h2⟩
    · rintro ⟨h1, h2⟩
      rw [trimB_eq, rdrop_id (k := l.length - 1) (by omega) h2]
      cases l with
      | nil => cases hlen
      | cons c t => exact ldrop_cons_f h1

/-- A step. -/
structure Stp where
  kind : Int
  name : List UInt8
  value : List UInt8
  n : Int
/-- A request. -/
structure Rq where
  m : List UInt8
  p : List UInt8
  q : List UInt8
  v : Int
  fs : List (List UInt8 × List UInt8)
  b : List UInt8
  c : Bool
/-- A reply. -/
structure Rp where
  code : Int
  fs : List (List UInt8 × List UInt8)
  b : List UInt8

def wAllow : List UInt8 := [65, 108, 108, 111, 119]
def wConn : List UInt8 := [67, 111, 110, 110, 101, 99, 116, 105, 111, 110]
def wLen : List UInt8 := [67, 111, 110, 116, 101, 110, 116, 45, 76, 101, 110, 103, 116, 104]
def wAcc : List UInt8 := [83, 101, 99, 45, 87, 101, 98, 83, 111, 99, 107, 101, 116, 45, 65, 99, 99, 101, 112, 116]
def wVer : List UInt8 := [83, 101, 99, 45, 87, 101, 98, 83, 111, 99, 107, 101, 116, 45, 86, 101, 114, 115, 105, 111, 110]
def wTra : List UInt8 := [84, 114, 97, 110, 115, 102, 101, 114, 45, 69, 110, 99, 111, 100, 105, 110, 103]
def wUpg : List UInt8 := [85, 112, 103, 114, 97, 100, 101]
def ownsL : List (List UInt8) := [wAllow, wConn, wLen, wAcc, wVer, wTra, wUpg]
def ownB (s : List UInt8) : Bool := ownsL.any fun o => alikeB o s
def lowsL : List (List UInt8) := ownsL.map (·.map lower)
theorem own_low (s : List UInt8) : ownB s = lowsL.contains (s.map lower) := by
  unfold ownB lowsL alikeB
  induction ownsL with
  | nil => rfl
  | cons o t ih =>
    rw [List.any_cons, ih, List.map_cons, List.contains_cons, Bool.beq_comm]

def plainB (v : List UInt8) : Bool := v.all isVal && (v.isEmpty || (!isBlank (v.headD 0) && !isBlank (v.getLastD 0)))
def addB (name value : List UInt8) : Bool := (parseB (name ++ [58] ++ value)).2.2 && ((parseB (name ++ [58] ++ value)).1 == name && (parseB (name ++ [58] ++ value)).2.1 == value)
theorem addB_eq (name value : List UInt8) : addB name value = (tokB name && plainB value) := by
  unfold addB plainB
  cases ht : tokB name
  · rcases parse_cases (name ++ [58] ++ value) with h | ⟨n, x, _, hn, _, hp⟩
    · rw [h]; rfl
    · rw [hp]
      have : (n == name) = false := beq_eq_false_iff_ne.2 fun e => by rw [e, ht] at hn; cases hn
      simp [this]
  · rw [parse_colon ht, ← trim_same]
    cases hv : value.all isVal <;> simp

def slashB (l : List UInt8) : Bool := decide (1 < l.length) && (l.headD 0 == 47) && !(l.getLastD 0 == 47)
/-- Is a step right? -/
def rightB (s : Stp) : Bool :=
  if s.kind = 1 then tokB s.name && plainB s.value && !ownB s.name && decide (s.n = 0)
  else if s.kind = 2 then tokB s.name && decide (s.n = 0)
  else if s.kind = 3 then decide (0 ≤ s.n) && s.name.isEmpty && s.value.isEmpty
  else if s.kind = 4 then slashB s.value && s.name.isEmpty && decide (s.n = 0)
  else if s.kind = 5 then tokB s.name && tokB s.value && !ownB s.value && decide (s.n = 0)
  else false

/-- The first value of a name's field. -/
def getO (fs : List (List UInt8 × List UInt8)) (name : List UInt8) : Option (List UInt8) := (fs.find? fun f => alikeB f.1 name).map (·.2)

def rForb : Rp := ⟨403, [], [102, 111, 114, 98, 105, 100, 100, 101, 110]⟩
def rLong : Rp := ⟨413, [], [116, 111, 111, 32, 108, 111, 110, 103]⟩
def rNone : Rp := ⟨404, [], [110, 111, 116, 32, 102, 111, 117, 110, 100]⟩
/-- What is left of a text behind a beginning. -/
def restO (l p : List UInt8) : Option (List UInt8) := if p.isPrefixOf l then some (l.drop p.length) else none
/-- Does a step refuse a request, and with what? -/
def refuses (s : Stp) (r : Rq) : Option Rp :=
  if s.kind = 2 then
    match getO r.fs s.name with
    | none => some rForb
    | some v => if !s.value.isEmpty && !(v == s.value) then some rForb else none
  else if s.kind = 3 then (if s.n < r.b.length then some rLong else none)
  else if s.kind = 4 then
    match restO r.p s.value with
    | none => some rNone
    | some t => if !t.isEmpty && !(t.headD 0 == 47) then some rNone else none
  else none
/-- The request behind a step. -/
def turns (s : Stp) (r : Rq) : Rq :=
  if s.kind = 4 then { r with p := if r.p.drop s.value.length = [] then [47] else r.p.drop s.value.length } else r
/-- What a step adds to a reply. -/
def adds (s : Stp) (fs : List (List UInt8 × List UInt8)) : List (List UInt8 × List UInt8) :=
  if s.kind = 1 then [(s.name, s.value)]
  else if s.kind = 2 ∨ s.kind = 3 ∨ s.kind = 4 then []
  else [(s.value, (getO fs s.name).getD [45])]
theorem turns_fs (s : Stp) (r : Rq) : (turns s r).fs = r.fs := by unfold turns; split <;> rfl
theorem turns_b (s : Stp) (r : Rq) : (turns s r).b = r.b := by unfold turns; split <;> rfl
/-- How many steps a request passes, and what it is then; and what refuses it. -/
def goesB : List Stp → Rq → Nat × Rq × Option Rp
  | [], r => (0, r, none)
  | s :: l, r => match refuses s r with
    | some x => (0, r, some x)
    | none => let t := goesB l (turns s r); (t.1 + 1, t.2.1, t.2.2)
/-- The fields that a reply has more behind the steps. -/
def backB (l : List Stp) (fs : List (List UInt8 × List UInt8)) : List (List UInt8 × List UInt8) := (l.reverse.map fun s => adds s fs).flatten
theorem backB_cons (s : Stp) (l : List Stp) (fs : List (List UInt8 × List UInt8)) : backB (s :: l) fs = backB l fs ++ adds s fs := by simp [backB]
theorem backB_nil (fs : List (List UInt8 × List UInt8)) : backB [] fs = [] := rfl
theorem backB_app (l m : List Stp) (fs : List (List UInt8 × List UInt8)) : backB (l ++ m) fs = backB m fs ++ backB l fs := by simp [backB]
theorem goesB_le : ∀ (l : List Stp) (r : Rq), (goesB l r).1 ≤ l.length
  | [], _ => Nat.le_refl _
  | s :: l, r => by
    unfold goesB
    cases refuses s r with
    | some x => exact Nat.zero_le _
    | none => have := goesB_le l (turns s r); simp; omega
theorem goesB_fs : ∀ (l : List Stp) (r : Rq), (goesB l r).2.1.fs = r.fs
  | [], _ => rfl
  | s :: l, r => by
    unfold goesB
    cases refuses s r with
    | some x => rfl
    | none => exact (goesB_fs l (turns s r)).trans (turns_fs s r)
/-- What steps around a handler answer: the handler's reply to what comes to it, or the refusal, with the fields of the steps that were passed. -/
def through (l : List Stp) (r : Rq) (x : Rp) : Rp :=
  match (goesB l r).2.2 with
  | some y => { y with fs := y.fs ++ backB (l.take (goesB l r).1) r.fs }
  | none => { x with fs := x.fs ++ backB l r.fs }
theorem through_nil (r : Rq) (x : Rp) : through [] r x = x := by
  unfold through goesB; simp [backB_nil]
theorem through_refused {s : Stp} {l : List Stp} {r : Rq} {x y : Rp} (h : refuses s r = some y) : through (s :: l) r x = y := by
  unfold through goesB
  rw [h]
  simp [backB_nil]
theorem through_passed {s : Stp} {l : List Stp} {r : Rq} {x : Rp} (h : refuses s r = none) :
    through (s :: l) r x = { through l (turns s r) x with fs := (through l (turns s r) x).fs ++ adds s r.fs } := by
  unfold through
  rw [show goesB (s :: l) r = ((goesB l (turns s r)).1 + 1, (goesB l (turns s r)).2.1, (goesB l (turns s r)).2.2) by rw [goesB, h]]
  dsimp only
  cases (goesB l (turns s r)).2.2 with
  | some y => simp only [List.take_succ_cons, backB_cons, turns_fs, List.append_assoc]
  | none => simp only [backB_cons, turns_fs, List.append_assoc]
end Go.Proofs.YtpncfeaaffgkfaaGreatDoor
namespace Go.Proofs.YtpncfeaaffgkfaaGreatDoor
def qHost : List UInt8 := [72, 111, 115, 116]
def qTra : List UInt8 := [84, 114, 97, 110, 115, 102, 101, 114, 45, 69, 110, 99, 111, 100, 105, 110, 103]
def qLen : List UInt8 := [67, 111, 110, 116, 101, 110, 116, 45, 76, 101, 110, 103, 116, 104]
def qConn : List UInt8 := [67, 111, 110, 110, 101, 99, 116, 105, 111, 110]
def qClose : List UInt8 := [99, 108, 111, 115, 101]
def qChunk : List UInt8 := [99, 104, 117, 110, 107, 101, 100]
def qDig (c : UInt8) : Bool := 48 ≤ c && c ≤ 57
/-- Lines as fields. -/
def fieldsL : List (List UInt8) → Option (List Fl)
  | [] => some []
  | l :: t => if (parseB l).2.2 then (fieldsL t).map fun fs => ((parseB l).1, (parseB l).2.1) :: fs else none
/-- What fields say of a body's length; below 0: they are wrong. -/
def numQ (s : List UInt8) : Int := match Lib.atoiAll s with
  | .ok n => n
  | _ => 4097
def lengthQ (fs : List Fl) : Int :=
  if fs.any (fun f => alikeB f.1 qLen && f.2 != (getB fs qLen).1) then -1
  else if (getB fs qLen).2 = 0 then 0
  else if (getB fs qLen).1.isEmpty || !(getB fs qLen).1.all qDig then -1
  else numQ (getB fs qLen).1
/-- What a head says: what is wrong; or the request, how long its body is, whether it comes in chunks. -/
inductive HeadR where
  | bad (c : Nat)
  | good (r : Rq) (n : Nat) (chunked : Bool)
def closeF (f : Fl) : Bool := alikeB f.1 qConn && hasB f.2 qClose
def headQ (ls : List (List UInt8)) : HeadR :=
  if 33 < ls.length then .bad 431
  else match fieldsL ls.tail with
    | none => .bad 400
    | some fs =>
      let li := lineB (ls.headD [])
      let ta := targetB li.2.1
      if !(li.2.2.2 && ta.2.2) || ((li.2.2.1 == 11 && (getB fs qHost).2 != 1) || decide (lengthQ fs < 0)) then .bad 400
      else if decide (0 < (getB fs qTra).2) && (li.2.2.1 == 10 || (decide (0 < (getB fs qLen).2) || (decide (1 < (getB fs qTra).2) || !alikeB (getB fs qTra).1 qChunk))) then .bad 400
      else if 4096 < lengthQ fs then .bad 413
      else .good ⟨li.1, ta.1, ta.2.1, li.2.2.1, fs, [], li.2.2.1 == 10 || fs.any closeF⟩ (lengthQ fs).toNat (decide (0 < (getB fs qTra).2))
/-- A parser: what was fed and not read, what was read of the one under way, its head?, what it says, how long its body is, its chunks, what is wrong. -/
structure Ps where
  inp : List UInt8
  und : List UInt8
  head : Bool
  r : Rq
  len : Nat
  ch : Option Ck
  bad : Nat
def rq0 : Rq := ⟨[], [], [], 0, [], [], false⟩
def ps0 : Ps := ⟨[], [], false, rq0, 0, none, 0⟩
def feedQ (p : Ps) (s : List UInt8) : Ps := if p.bad = 0 then { p with inp := p.inp ++ s } else p
def takesQ (p : Ps) (n : Nat) : Ps := { p with und := p.und ++ p.inp.take n, inp := p.inp.drop n }
def readsQ (p : Ps) (s : List UInt8) : Ps := match headQ (splitE s) with
  | .bad c => { p with bad := c }
  | .good r n ch => { p with r := r, len := n, ch := if ch then some ck0 else p.ch, bad := 0 }
def headsQ (p : Ps) : Ps :=
  if decide (0 ≤ Lib.index p.inp eol2) && decide (Lib.index p.inp eol2 + 4 ≤ 2048) then
    (if (readsQ p (p.inp.take (Lib.index p.inp eol2).toNat)).bad = 0 then takesQ { readsQ p (p.inp.take (Lib.index p.inp eol2).toNat) with head := true } ((Lib.index p.inp eol2).toNat + 4) else readsQ p (p.inp.take (Lib.index p.inp eol2).toNat))
  else if 2048 ≤ p.inp.length then { p with bad := 431 } else p
def bodyQ (p : Ps) : Ps × Bool := match p.ch with
  | none => if p.inp.length < p.len then (p, false) else ({ p with r := { p.r with b := p.inp.take p.len }, inp := p.inp.drop p.len }, true)
  | some c => ({ takesQ p (feedC c p.inp).1 with ch := some (feedC c p.inp).2, bad := (feedC c p.inp).2.bad, r := { p.r with b := (feedC c p.inp).2.data } }, decide ((feedC c p.inp).2.st = 4 ∧ (feedC c p.inp).2.bad = 0))
def nextQ (p : Ps) : Ps × Option Rq :=
  if p.bad ≠ 0 then (p, none)
  else
    let h := if p.head then p else headsQ p
    if !h.head then (h, none)
    else if (bodyQ h).2 then ({ ps0 with inp := (bodyQ h).1.inp }, some (bodyQ h).1.r) else ((bodyQ h).1, none)
def idleQ (p : Ps) : Bool := decide (p.bad = 0) && (p.inp.isEmpty && p.und.isEmpty)
def restQ (p : Ps) : Ps × List UInt8 := if p.bad ≠ 0 then (p, []) else (ps0, p.und ++ p.inp)
end Go.Proofs.YtpncfeaaffgkfaaGreatDoor
