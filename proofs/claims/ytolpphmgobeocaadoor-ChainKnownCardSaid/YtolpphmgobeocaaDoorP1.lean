/-
  Plain laws: blanks at both ends; the first colon; alike words.
-/
import Derived.Test.YtolpphmgobeocaaDoorP0
namespace Go.Proofs.YtolpphmgobeocaaDoor

def isBlank (c : UInt8) : Bool := c == 9 || c == 32
def ldrop (l : List UInt8) : List UInt8 := l.dropWhile isBlank
def rdrop (l : List UInt8) : List UInt8 := (l.reverse.dropWhile isBlank).reverse
theorem blank_contains (c : UInt8) : ([32, 9] : List UInt8).contains c = isBlank c := by
  refine u8_all (p := fun c => ([32, 9] : List UInt8).contains c = isBlank c) ?_ c
  decide +kernel
theorem trimB_eq (l : List UInt8) : trimB l = ldrop (rdrop l) := by
  unfold trimB Lib.trimS Lib.trimLeftS Lib.trimRightS ldrop rdrop
  have : (fun c => ([32, 9] : List UInt8).contains c) = isBlank := funext blank_contains
  rw [this]
theorem rdrop_nil : rdrop [] = [] := rfl
theorem rdrop_cons (c : UInt8) (t : List UInt8) : rdrop (c :: t) = if rdrop t = [] then (if isBlank c then [] else [c]) else c :: rdrop t := by
  unfold rdrop
  rw [List.reverse_cons, List.dropWhile_append]
  by_cases h : t.reverse.dropWhile isBlank = []
  · rw [h]; cases hc : isBlank c <;> simp [List.dropWhile, hc]
  · have h2 : (t.reverse.dropWhile isBlank).isEmpty = false := by simpa using h
    rw [h2]; simp [h]
theorem ldrop_cons_t {c : UInt8} {t : List UInt8} (h : isBlank c = true) : ldrop (c :: t) = ldrop t := by simp [ldrop, List.dropWhile, h]
theorem ldrop_cons_f {c : UInt8} {t : List UInt8} (h : isBlank c = false) : ldrop (c :: t) = c :: t := by simp [ldrop, List.dropWhile, h]
theorem rdrop_ldrop (l : List UInt8) : rdrop (ldrop l) = ldrop (rdrop l) := by
  induction l with
  | nil => rfl
  | cons c t ih =>
    cases h : isBlank c
    · rw [ldrop_cons_f h, rdrop_cons]
      split
      · simp [h, ldrop_cons_f]
      · rw [ldrop_cons_f h]
    · rw [ldrop_cons_t h, ih, rdrop_cons]
      split
      · rename_i h2; rw [h2]
      · rw [ldrop_cons_t h]
theorem trimB_bare (l : List UInt8) : trimB l = rdrop (ldrop l) := by rw [trimB_eq, rdrop_ldrop]
theorem rdrop_concat (l : List UInt8) (c : UInt8) : rdrop (l ++ [c]) = if isBlank c then rdrop l else l ++ [c] := by
  unfold rdrop
  rw [List.reverse_append, List.reverse_singleton, List.singleton_append, List.dropWhile_cons]
  cases isBlank c <;> simp
theorem rdrop_last {l : List UInt8} {k : Nat} (hk : l.length = k + 1) (h : isBlank (l[k]'(by omega)) = true) : rdrop (l.take k) = rdrop l := by
  have : l = l.take k ++ [l[k]'(by omega)] := by
    rw [← List.take_succ_eq_append_getElem (by omega), List.take_of_length_le (by omega)]
  conv => rhs; rw [this]
  rw [rdrop_concat, h]; simp
theorem rdrop_id {l : List UInt8} {k : Nat} (hk : l.length = k + 1) (h : isBlank (l[k]'(by omega)) = false) : rdrop l = l := by
  have : l = l.take k ++ [l[k]'(by omega)] := by
    rw [← List.take_succ_eq_append_getElem (by omega), List.take_of_length_le (by omega)]
  conv => lhs; rw [this]
  rw [rdrop_concat, h]; simp [← this]
theorem blank_eq (c : UInt8) : isBlank c = decide ((c.toNat : Int) = 9 ∨ (c.toNat : Int) = 32) := by
  rw [Bool.eq_iff_iff]; simp [isBlank, ← UInt8.toNat_inj]; omega

theorem u8_of_bne {a b : UInt8} (h : ((a.toNat : Int) != b.toNat) = false) : a = b := by
  have h2 : (a.toNat : Int) = b.toNat := by simpa using h
  exact UInt8.toNat_inj.1 (by omega)
theorem tok_58 : isTok 58 = false := by decide +kernel
/-- The first colon at k: Cut's parts. -/
theorem occ_one (s : List UInt8) (c : UInt8) (i : Nat) : Lib.occAt s [c] i = (s[i]? == some c) := by
  unfold Lib.occAt
  cases h : s.drop i with
  | nil =>
    have : s[i]? = none := by rw [List.getElem?_eq_none]; simpa using h
    simp [this]
  | cons x t =>
    have : s[i]? = some x := by
      have := congrArg (·[0]?) h
      simpa using this
    rw [this]
    show (c == x && true) = (some x == some c)
    rw [Bool.and_true, Option.some_beq_some, Bool.beq_comm]
theorem cut_at {s : List UInt8} {c : UInt8} {k : Nat} (hk : k < s.length) (h : s[k] = c) (hb : ∀ j, (hj : j < k) → s[j]'(by omega) ≠ c) : Lib.cut s [c] = (s.take k, s.drop (k + 1), true) := by
  have hi : Lib.index s [c] = k := Lib.index_first (by omega) (by rw [occ_one]; simp [hk, h]) (fun j hj => by
    rw [occ_one]; simp [show j < s.length by omega, hb j hj])
  unfold Lib.cut
  rw [hi]; simp
theorem cut_none {s : List UInt8} {c : UInt8} (h : ∀ j, (hj : j < s.length) → s[j] ≠ c) : Lib.cut s [c] = (s, [], false) := by
  have hi : Lib.index s [c] = -1 := Lib.index_none (fun j hj => by
    rw [occ_one]
    rcases Nat.lt_or_ge j s.length with h' | h'
    · simp [h', h j h']
    · rw [List.getElem?_eq_none h']; rfl)
  unfold Lib.cut
  rw [hi]; simp
/-- Cut, either way. -/
theorem cut_cases (s : List UInt8) (c : UInt8) : (Lib.cut s [c] = (s, [], false) ∧ ∀ j, (hj : j < s.length) → s[j] ≠ c) ∨
    ∃ k, ∃ hk : k < s.length, s[k] = c ∧ (∀ j, (hj : j < k) → s[j]'(by omega) ≠ c) ∧ Lib.cut s [c] = (s.take k, s.drop (k + 1), true) := by
  rcases Lib.index_spec s [c] with ⟨_, h2⟩ | ⟨i, _, h2, h3, h4⟩
  · have : ∀ j, (hj : j < s.length) → s[j] ≠ c := fun j hj e => by
      have := h2 j (by omega)
      rw [occ_one] at this; simp [hj, e] at this
    exact .inl ⟨cut_none this, this⟩
  · rw [occ_one] at h3
    have hi : i < s.length := by
      rcases Nat.lt_or_ge i s.length with h' | h'
      · exact h'
      · rw [List.getElem?_eq_none h'] at h3; cases h3
    have hc : s[i] = c := by simpa [hi] using h3
    have hb : ∀ j, (hj : j < i) → s[j]'(by omega) ≠ c := fun j hj e => by
      have := h4 j hj
      rw [occ_one] at this; simp [show j < s.length by omega, e] at this
    exact .inr ⟨i, hi, hc, hb, cut_at hi hc hb⟩

theorem all_get {l : List UInt8} {p : UInt8 → Bool} {k j : Nat} (h : (l.take k).all p = true) (hj : j < k) (hl : j < l.length) : p l[j] = true := by
  refine List.all_eq_true.1 h _ ?_
  have : (l.take k)[j]'(by simp; omega) = l[j] := by simp
  rw [← this]; exact List.getElem_mem _
/-- The first place k that is no token's character: what Parse says. -/
theorem parse_none {l : List UInt8} {k : Nat} (hk : k ≤ l.length) (ha : (l.take k).all isTok = true) (h : k = 0 ∨ k = l.length ∨ ∃ hk : k < l.length, l[k] ≠ 58 ∧ isTok l[k] = false) (hs : ∀ hk : k < l.length, isTok l[k] = false) : parseB l = ([], [], false) := by
  unfold parseB
  rcases cut_cases l 58 with ⟨hc, _⟩ | ⟨i, hi, h58, hb, hc⟩
  · rw [hc]; rfl
  · rw [hc]
    by_cases ht : tokB (l.take i) = true
    · exfalso
      unfold tokB at ht
      simp only [Bool.and_eq_true] at ht
      -- the name is l.take i: all of it tokens, so i ≤ k; and l[i] is no token, so k ≤ i
      have h1 : ¬ i < k := fun hik => by
        have := all_get ha hik hi
        rw [h58, tok_58] at this; cases this
      have h2 : ¬ k < i := fun hki => by
        have hk' : k < l.length := by omega
        have := all_get ht.2 hki hk'
        rw [hs hk'] at this; cases this
      have h3 : i = k := by omega
      subst h3
      rcases h with h | h | ⟨_, h, _⟩
      · subst h; simp at ht
      · omega
      · exact h h58
    · have : tokB (l.take i) = false := by simpa using ht
      simp [this]
theorem parse_at {l : List UInt8} {k : Nat} (hk : k < l.length) (ha : (l.take k).all isTok = true) (h0 : 0 < k) (h : l[k] = 58) :
    parseB l = if (l.drop (k + 1)).all isVal then (l.take k, trimB (l.drop (k + 1)), true) else ([], [], false) := by
  have hc := cut_at hk h (fun j hj e => by
    have := all_get ha hj (by omega)
    rw [e, tok_58] at this; cases this)
  rw [parseB_eq hc]
  have ht : tokB (l.take k) = true := by
    unfold tokB; rw [ha, Bool.and_true]
    cases hl : l.take k
    · have := congrArg List.length hl; rw [List.length_take, List.length_nil] at this; omega
    · rfl
  rw [ht]; simp
end Go.Proofs.YtolpphmgobeocaaDoor
