/-
  Plain laws: blanks at both ends; the first colon; alike words.
  Plain laws: alike words; lines put together.
  Plain laws of a request's line, a target, and a reply's line: no program in sight.
  Plain laws of a body in chunks: the reader byte by byte, and the reference's lines: no program in sight.
-/
import Derived.Test.YtpncfeaaffgkfaaGreatDoorP0
import Derived.Lib.Atoi
import Derived.Lib.ItoaNum
namespace Go.Proofs.YtpncfeaaffgkfaaGreatDoor

def isBlank (c : UInt8) : Bool := c == 9 || c == 32
def ldrop (l : List UInt8) : List UInt8 := l.dropWhile isBlank
def rdrop (l : List UInt8) : List UInt8 := (l.reverse.dropWhile isBlank).reverse
theorem blank_contains (c : UInt8) : ([32, 9] : List UInt8).contains c = isBlank c := by
  refine u8_all (p := fun c => ([32, 9] : List UInt8).contains c = isBlank c) ?_ c
  decide +kernel
theorem trimB_eq (l : List UInt8) : trimB l = ldrop (rdrop l) := by
  unfold trimB Lib.trimS Lib.trimLeftS Lib.trimRightS ldrop rdrop
  have : (fun c => ([32, 9] : List UInt8).contains c) = isBlank := funext blank_contains
  rw [this]
theorem rdrop_nil : rdrop [] = [] := rfl
theorem rdrop_cons (c : UInt8) (t : List UInt8) : rdrop (c :: t) = if rdrop t = [] then (if isBlank c then [] else [c]) else c :: rdrop t := by
  unfold rdrop
  rw [List.reverse_cons, List.dropWhile_append]
  by_cases h : t.reverse.dropWhile isBlank = []
  · rw [h]; cases hc : isBlank c <;> simp [List.dropWhile, hc]
  · have h2 : (t.reverse.dropWhile isBlank).isEmpty = false := by simpa using h
    rw [h2]; simp [h]
theorem ldrop_cons_t {c : UInt8} {t : List UInt8} (h : isBlank c = true) : ldrop (c :: t) = ldrop t := by simp [ldrop, List.dropWhile, h]
theorem ldrop_cons_f {c : UInt8} {t : List UInt8} (h : isBlank c = false) : ldrop (c :: t) = c :: t := by simp [ldrop, List.dropWhile, h]
theorem rdrop_ldrop (l : List UInt8) : rdrop (ldrop l) = ldrop (rdrop l) := by
  induction l with
  | nil => rfl
  | cons c t ih =>
    cases h : isBlank c
    · rw [ldrop_cons_f h, rdrop_cons]
      split
      · simp [h, ldrop_cons_f]
      · rw [ldrop_cons_f h]
    · rw [ldrop_cons_t h, ih, rdrop_cons]
      split
      · rename_i h2; rw [h2]
      · rw [ldrop_cons_t h]
theorem trimB_bare (l : List UInt8) : trimB l = rdrop (ldrop l) := by rw [trimB_eq, rdrop_ldrop]
theorem rdrop_concat (l : List UInt8) (c : UInt8) : rdrop (l ++ [c]) = if isBlank c then rdrop l else l ++ [c] := by
  unfold rdrop
  rw [List.reverse_append, List.reverse_singleton, List.singleton_append, List.dropWhile_cons]
  cases isBlank c <;> simp
theorem rdrop_last {l : List UInt8} {k : Nat} (hk : l.length = k + 1) (h : isBlank (l[k]'(by omega)) = true) : rdrop (l.take k) = rdrop l := by
  have : l = l.take k ++ [l[k]'(by omega)] := by
    rw [← List.take_succ_eq_append_getElem (by omega), List.take_of_length_le (by omega)]
  conv => rhs; rw [this]
  rw [rdrop_concat, h]; simp
theorem rdrop_id {l : List UInt8} {k : Nat} (hk : l.length = k + 1) (h : isBlank (l[k]'(by omega)) = false) : rdrop l = l := by
  have : l = l.take k ++ [l[k]'(by omega)] := by
    rw [← List.take_succ_eq_append_getElem (by omega), List.take_of_length_le (by omega)]
  conv => lhs; rw [this]
  rw [rdrop_concat, h]; simp [← this]
theorem blank_eq (c : UInt8) : isBlank c = decide ((c.toNat : Int) = 9 ∨ (c.toNat : Int) = 32) := by
  rw [Bool.eq_iff_iff]; simp [isBlank, ← UInt8.toNat_inj]; omega

theorem u8_of_bne {a b : UInt8} (h : ((a.toNat : Int) != b.toNat) = false) : a = b := by
  have h2 : (a.toNat : Int) = b.toNat := by simpa using h
  exact UInt8.toNat_inj.1 (by omega)
theorem tok_58 : isTok 58 = false := by decide +kernel
/-- The first colon at k: Cut's parts. -/
theorem occ_one (s : List UInt8) (c : UInt8) (i : Nat) : Lib.occAt s [c] i = (s[i]? == some c) := by
  unfold Lib.occAt
  cases h : s.drop i with
  | nil =>
    have : s[i]? = none := by rw [List.getElem?_eq_none]; simpa using h
    simp [this]
  | cons x t =>
    have : s[i]? = some x := by
      have := congrArg (·[0]?) h
      simpa using this
    rw [this]
    show (c == x && true) = (some x == some c)
    rw [Bool.and_true, Option.some_beq_some, Bool.beq_comm]
theorem cut_at {s : List UInt8} {c : UInt8} {k : Nat} (hk : k < s.length) (h : s[k] = c) (hb : ∀ j, (hj : j < k) → s[j]'(by omega) ≠ c) : Lib.cut s [c] = (s.take k, s.drop (k + 1), true) := by
  have hi : Lib.index s [c] = k := Lib.index_first (by omega) (by rw [occ_one]; simp [hk, h]) (fun j hj => by
    rw [occ_one]; simp [show j < s.length by omega, hb j hj])
  unfold Lib.cut
  rw [hi]; simp
theorem cut_none {s : List UInt8} {c : UInt8} (h : ∀ j, (hj : j < s.length) → s[j] ≠ c) : Lib.cut s [c] = (s, [], false) := by
  have hi : Lib.index s [c] = -1 := Lib.index_none (fun j hj => by
    rw [occ_one]
    rcases Nat.lt_or_ge j s.length with h' | h'
    · simp [h', h j h']
    · rw [List.getElem?_eq_none h']; rfl)
  unfold Lib.cut
  rw [hi]; simp
/-- Cut, either way. -/
theorem cut_cases (s : List UInt8) (c : UInt8) : (Lib.cut s [c] = (s, [], false) ∧ ∀ j, (hj : j < s.length) → s[j] ≠ c) ∨
    ∃ k, ∃ hk : k < s.length, s[k] = c ∧ (∀ j, (hj : j < k) → s[j]'(by omega) ≠ c) ∧ Lib.cut s [c] = (s.take k, s.drop (k + 1), true) := by
  rcases Lib.index_spec s [c] with ⟨_, h2⟩ | ⟨i, _, h2, h3, h4⟩
  · have : ∀ j, (hj : j < s.length) → s[j] ≠ c := fun j hj e => by
      have := h2 j (by omega)
      rw [occ_one] at this; simp [hj, e] at this
    exact .inl ⟨cut_none this, this⟩
  · rw [occ_one] at h3
    have hi : i < s.length := by
      rcases Nat.lt_or_ge i s.length with h' | h'
      · exact h'
      · rw [List.getElem?_eq_none h'] at h3; cases h3
    have hc : s[i] = c := by simpa [hi] using h3
    have hb : ∀ j, (hj : j < i) → s[j]'(by omega) ≠ c := fun j hj e => by
      have := h4 j hj
      rw [occ_one] at this; simp [show j < s.length by omega, e] at this
    exact .inr ⟨i, hi, hc, hb, cut_at hi hc hb⟩

theorem all_get {l : List UInt8} {p : UInt8 → Bool} {k j : Nat} (h : (l.take k).all p = true) (hj : j < k) (hl : j < l.length) : p l[j] = true := by
  refine List.all_eq_true.1 h _ ?_
  have : (l.take k)[j]'(by simp; omega) = l[j] := by simp
  rw [← this]; exact List.getElem_mem _
/-- The first place k that is no token's character: what Parse says. -/
theorem parse_none {l : List UInt8} {k : Nat} (hk : k ≤ l.length) (ha : (l.take k).all isTok = true) (h : k = 0 ∨ k = l.length ∨ ∃ hk : k < l.length, l[k] ≠ 58 ∧ isTok l[k] = false) (hs : ∀ hk : k < l.length, isTok l[k] = false) : parseB l = ([], [], false) := by
  unfold parseB
  rcases cut_cases l 58 with ⟨hc, _⟩ | ⟨i, hi, h58, hb, hc⟩
  · rw [hc]; rfl
  · rw [hc]
    by_cases ht : tokB (l.take i) = true
    · exfalso
      unfold tokB at ht
      simp only [Bool.and_eq_true] at ht
      -- the name is l.take i: all of it tokens, so i ≤ k; and l[i] is no token, so k ≤ i
      have h1 : ¬ i < k := fun hik => by
        have := all_get ha hik hi
        rw [h58, tok_58] at this; cases this
      have h2 : ¬ k < i := fun hki => by
        have hk' : k < l.length := by omega
        have := all_get ht.2 hki hk'
        rw [hs hk'] at this; cases this
      have h3 : i = k := by omega
      subst h3
      rcases h with h | h | ⟨_, h, _⟩
      · subst h; simp at ht
      · omega
      · exact h h58
    · have : tokB (l.take i) = false := by simpa using ht
      simp [this]
theorem parse_at {l : List UInt8} {k : Nat} (hk : k < l.length) (ha : (l.take k).all isTok = true) (h0 : 0 < k) (h : l[k] = 58) :
    parseB l = if (l.drop (k + 1)).all isVal then (l.take k, trimB (l.drop (k + 1)), true) else ([], [], false) := by
  have hc := cut_at hk h (fun j hj e => by
    have := all_get ha hj (by omega)
    rw [e, tok_58] at this; cases this)
  rw [parseB_eq hc]
  have ht : tokB (l.take k) = true := by
    unfold tokB; rw [ha, Bool.and_true]
    cases hl : l.take k
    · have := congrArg List.length hl; rw [List.length_take, List.length_nil] at this; omega
    · rfl
  rw [ht]; simp
end Go.Proofs.YtpncfeaaffgkfaaGreatDoor
namespace Go.Proofs.YtpncfeaaffgkfaaGreatDoor

def up (c : UInt8) : UInt8 := if 97 ≤ c ∧ c ≤ 122 then c - 32 else c
set_option maxRecDepth 100000 in
theorem lower_up (c : UInt8) : lower (up c) = lower c := by
  refine u8_all (p := fun c => lower (up c) = lower c) ?_ c
  decide +kernel
set_option maxRecDepth 100000 in
theorem tok_up (c : UInt8) : isTok (up c) = isTok c := by
  refine u8_all (p := fun c => isTok (up c) = isTok c) ?_ c
  decide +kernel
theorem map_lower_up (a : List UInt8) : (a.map up).map lower = a.map lower := by
  rw [List.map_map]; exact List.map_congr_left fun c _ => lower_up c
theorem alike_refl (a : List UInt8) : alikeB a a = true := by simp [alikeB]
theorem alike_up (a : List UInt8) : alikeB a (a.map up) = true := by unfold alikeB; rw [map_lower_up]; simp
theorem alike_up_l (a b : List UInt8) : alikeB (a.map up) b = alikeB a b := by unfold alikeB; rw [map_lower_up]
theorem alike_comm (a b : List UInt8) : alikeB a b = alikeB b a := by unfold alikeB; rw [Bool.beq_comm]
theorem alike_trans {a b c : List UInt8} (h : alikeB a b = true) (k : alikeB b c = true) : alikeB a c = true := by
  unfold alikeB at *; rw [beq_iff_eq] at *; rw [h, k]
theorem alike_len {a b : List UInt8} (h : alikeB a b = true) : a.length = b.length := by
  unfold alikeB at h; rw [beq_iff_eq] at h
  have := congrArg List.length h
  simpa using this
theorem tokB_up (a : List UInt8) : tokB (a.map up) = tokB a := by
  unfold tokB
  rw [List.all_map]
  have : (isTok ∘ up) = isTok := funext tok_up
  rw [this]; cases a <;> rfl
theorem up_toNat (c : UInt8) : ((up c).toNat : Int) = if 97 ≤ (c.toNat : Int) ∧ (c.toNat : Int) ≤ 122 then (c.toNat : Int) - 32 else c.toNat := by
  unfold up
  by_cases h : 97 ≤ c ∧ c ≤ 122
  · have h' : 97 ≤ c.toNat ∧ c.toNat ≤ 122 := by simpa [UInt8.le_iff_toNat_le] using h
    rw [if_pos h, if_pos (by omega), UInt8.toNat_sub_of_le _ _ (by rw [UInt8.le_iff_toNat_le]; simp; omega)]
    simp; omega
  · have h' : ¬ (97 ≤ c.toNat ∧ c.toNat ≤ 122) := by simpa [UInt8.le_iff_toNat_le] using h
    rw [if_neg h, if_neg (by omega)]

/-- Blanks by a number. -/
def padAt (n i : Nat) : UInt8 := if (n + i) % 2 = 0 then 32 else 9
def padL (n k : Nat) : List UInt8 := (List.range k).map (padAt n)
def padB (n : UInt8) : List UInt8 := padL n.toNat (n.toNat % 5)
theorem padL_succ (n k : Nat) : padL n (k + 1) = padL n k ++ [padAt n k] := by simp [padL, List.range_succ]
theorem padL_len (n k : Nat) : (padL n k).length = k := by simp [padL]
theorem padB_blank (n : UInt8) : (padB n).all isBlank = true := by
  simp only [padB, padL, List.all_map, List.all_eq_true]
  intro i _
  show isBlank (padAt n.toNat i) = true
  unfold padAt
  split <;> rfl
theorem blank_val {c : UInt8} (h : isBlank c = true) : isVal c = true := by
  revert h
  refine u8_all (p := fun c => isBlank c = true → isVal c = true) ?_ c
  decide +kernel
theorem ldrop_blank {p l : List UInt8} (h : p.all isBlank = true) : ldrop (p ++ l) = ldrop l := by
  induction p with
  | nil => rfl
  | cons c p ih =>
    simp only [List.all_cons, Bool.and_eq_true] at h
    rw [List.cons_append, ldrop_cons_t h.1, ih h.2]
theorem rdrop_blank {p l : List UInt8} (h : p.all isBlank = true) : rdrop (l ++ p) = rdrop l := by
  unfold rdrop
  rw [List.reverse_append]
  have : p.reverse.all isBlank = true := by rw [List.all_reverse]; exact h
  have h2 := ldrop_blank (l := l.reverse) this
  unfold ldrop at h2
  rw [h2]
theorem trim_pads {p q l : List UInt8} (hp : p.all isBlank = true) (hq : q.all isBlank = true) : trimB (p ++ l ++ q) = trimB l := by
  rw [trimB_eq, rdrop_blank hq, ← rdrop_ldrop, ldrop_blank hp, rdrop_ldrop, trimB_eq]
theorem ldrop_idem (l : List UInt8) : ldrop (ldrop l) = ldrop l := by
  induction l with
  | nil => rfl
  | cons c l ih =>
    cases h : isBlank c
    · rw [ldrop_cons_f h, ldrop_cons_f h]
    · rw [ldrop_cons_t h, ih]
theorem rdrop_idem (l : List UInt8) : rdrop (rdrop l) = rdrop l := by
  have := ldrop_idem l.reverse
  unfold ldrop at this
  unfold rdrop; rw [List.reverse_reverse, this]
theorem trim_idem (l : List UInt8) : trimB (trimB l) = trimB l := by
  rw [trimB_eq (trimB l), trimB_eq l, rdrop_ldrop (rdrop l), rdrop_idem, ldrop_idem]
theorem ldrop_head {c : UInt8} {l t : List UInt8} (h : ldrop l = c :: t) : isBlank c = false := by
  induction l with
  | nil => simp [ldrop] at h
  | cons d l ih =>
    cases hd : isBlank d
    · rw [ldrop_cons_f hd] at h; cases h; exact hd
    · rw [ldrop_cons_t hd] at h; exact ih h
theorem trim_head {l : List UInt8} (h : 0 < (trimB l).length) : isBlank ((trimB l)[0]) = false := by
  obtain ⟨t, ht⟩ : ∃ t, trimB l = t := ⟨_, rfl⟩
  simp only [ht] at h ⊢
  cases t with
  | nil => simp at h
  | cons c t => rw [trimB_eq] at ht; exact ldrop_head ht
theorem trim_last {l : List UInt8} (h : 0 < (trimB l).length) : isBlank ((trimB l)[(trimB l).length - 1]) = false := by
  obtain ⟨t, ht⟩ : ∃ t, trimB l = t := ⟨_, rfl⟩
  have h2 : rdrop t = t := by rw [← ht, trimB_bare, rdrop_idem]
  simp only [ht] at h ⊢
  cases hb : isBlank (t[t.length - 1]) with
  | false => rfl
  | true =>
    have h3 := rdrop_last (l := t) (k := t.length - 1) (by omega) hb
    rw [h2] at h3
    have h4 : (rdrop (t.take (t.length - 1))).length ≤ t.length - 1 := by
      unfold rdrop
      rw [List.length_reverse]
      refine Nat.le_trans ((List.dropWhile_sublist _).length_le) ?_
      simp
    have := congrArg List.length h3
    omega
theorem all_dropWhile {p q : UInt8 → Bool} {l : List UInt8} (h : l.all p = true) : (l.dropWhile q).all p = true := by
  rw [List.all_eq_true] at *
  exact fun x hx => h x ((List.dropWhile_sublist q).subset hx)
theorem trim_all {p : UInt8 → Bool} {l : List UInt8} (h : l.all p = true) : (trimB l).all p = true := by
  rw [trimB_eq]; unfold ldrop rdrop
  refine all_dropWhile ?_
  rw [List.all_reverse]
  refine all_dropWhile ?_
  rw [List.all_reverse]; exact h
theorem tok_no58 {n : List UInt8} (h : tokB n = true) : ∀ j, (hj : j < n.length) → n[j] ≠ 58 := fun j hj e => by
  unfold tokB at h
  rw [Bool.and_eq_true, List.all_eq_true] at h
  have := h.2 n[j] (List.getElem_mem hj)
  rw [e, tok_58] at this; cases this
theorem cut_colon {n y : List UInt8} (h : tokB n = true) : Lib.cut (n ++ [58] ++ y) [58] = (n, y, true) := by
  have := cut_at (s := n ++ [58] ++ y) (c := 58) (k := n.length) (by simp) (by simp) (fun j hj => by
    have := tok_no58 h j hj
    simpa [List.getElem_append, hj, show j < n.length + 1 by omega] using this)
  rw [this]
  simp
theorem parse_colon {n y : List UInt8} (h : tokB n = true) : parseB (n ++ [58] ++ y) = if y.all isVal then (n, trimB y, true) else ([], [], false) := by
  rw [parseB_eq (cut_colon h), h]; simp
/-- What Parse says of a line. -/
theorem parse_cases (l : List UInt8) : parseB l = ([], [], false) ∨ ∃ n x, Lib.cut l [58] = (n, x, true) ∧ tokB n = true ∧ x.all isVal = true ∧ parseB l = (n, trimB x, true) := by
  obtain ⟨⟨n, x, c⟩, hc⟩ : ∃ r, Lib.cut l [58] = r := ⟨_, rfl⟩
  rw [parseB_eq hc]
  by_cases h : (c && tokB n && x.all isVal) = true
  · rw [if_pos h]
    simp only [Bool.and_eq_true] at h
    obtain ⟨⟨h1, h2⟩, h3⟩ := h
    subst h1
    exact .inr ⟨n, x, hc, h2, h3, rfl⟩
  · rw [if_neg h]; exact .inl rfl
theorem back_law {name value pa pb : List UInt8} (ha : pa.all isBlank = true) (hb : pb.all isBlank = true) :
    parseB (name ++ [58] ++ pa ++ value ++ pb) = ([], [], false) ∨ ∃ n v, parseB (name ++ [58] ++ pa ++ value ++ pb) = (n, v, true) ∧ tokB n = true ∧
      (∀ h : 0 < v.length, isBlank v[0] = false ∧ isBlank (v[v.length - 1]) = false) ∧ parseB (n ++ [58] ++ v) = (n, v, true) ∧ parseB (n ++ [58] ++ pb ++ v ++ pa) = (n, v, true) ∧
      (tokB name = true → n = name) ∧ n.length ≤ (name ++ [58] ++ pa ++ value ++ pb).length ∧ v.length ≤ (name ++ [58] ++ pa ++ value ++ pb).length := by
  rcases parse_cases (name ++ [58] ++ pa ++ value ++ pb) with h | ⟨n, x, hc, ht, hv, h⟩
  · exact .inl h
  · refine .inr ⟨n, trimB x, h, ht, fun h0 => ⟨trim_head h0, trim_last h0⟩, ?_, ?_, fun h2 => ?_, ?_, ?_⟩
    · rw [parse_colon ht, if_pos (trim_all hv), trim_idem]
    · have e : n ++ [58] ++ pb ++ trimB x ++ pa = n ++ [58] ++ (pb ++ trimB x ++ pa) := by simp
      have hall : (pb ++ trimB x ++ pa).all isVal = true := by
        rw [List.all_append, List.all_append, trim_all hv]
        have h1 : pb.all isVal = true := by rw [List.all_eq_true] at *; exact fun c hc => blank_val (hb c hc)
        have h2 : pa.all isVal = true := by rw [List.all_eq_true] at *; exact fun c hc => blank_val (ha c hc)
        rw [h1, h2]; rfl
      rw [e, parse_colon ht, if_pos hall, trim_pads hb ha, trim_idem]
    · have e : name ++ [58] ++ pa ++ value ++ pb = name ++ [58] ++ (pa ++ value ++ pb) := by simp
      rw [e, cut_colon h2] at hc
      exact (congrArg Prod.fst hc).symm
    · have := cut_le1 (name ++ [58] ++ pa ++ value ++ pb) [58]
      rw [hc] at this; exact this
    · have h1 := cut_le2 (name ++ [58] ++ pa ++ value ++ pb) [58]
      rw [hc] at h1
      refine Nat.le_trans ?_ h1
      rw [trimB_eq]; unfold ldrop rdrop
      refine Nat.le_trans ((List.dropWhile_sublist _).length_le) ?_
      rw [List.length_reverse]
      refine Nat.le_trans ((List.dropWhile_sublist _).length_le) ?_
      simp
end Go.Proofs.YtpncfeaaffgkfaaGreatDoor
namespace Go.Proofs.YtpncfeaaffgkfaaGreatDoor

/-- A byte that a target's text may bear. -/
def isVis (c : UInt8) : Bool := 33 ≤ c && c ≤ 126
theorem vis_eq (c : UInt8) : isVis c = decide (33 ≤ (c.toNat : Int) ∧ (c.toNat : Int) ≤ 126) := by
  rw [Bool.eq_iff_iff]; simp [isVis, UInt8.le_iff_toNat_le]; omega
theorem vis_32 : isVis 32 = false := by decide +kernel
theorem tok_32 : isTok 32 = false := by decide +kernel

def pH10 : List UInt8 := [72, 84, 84, 80, 47, 49, 46, 48]
def pH11 : List UInt8 := [72, 84, 84, 80, 47, 49, 46, 49]
def protoN (l : List UInt8) : Nat := if l = pH10 then 10 else if l = pH11 then 11 else 0
/-- A request's line: method, target, version, and whether it is one. -/
def lineB (l : List UInt8) : List UInt8 × List UInt8 × Nat × Bool :=
  let m := (Lib.cut l [32]).1
  let t := (Lib.cut (Lib.cut l [32]).2.1 [32]).1
  let v := protoN (Lib.cut (Lib.cut l [32]).2.1 [32]).2.1
  if t.all isVis && (tokB m && (!t.isEmpty && v != 0)) then (m, t, v, true) else ([], [], 0, false)
theorem lineB_eq {l m r t p : List UInt8} {c d : Bool} (h1 : Lib.cut l [32] = (m, r, c)) (h2 : Lib.cut r [32] = (t, p, d)) :
    lineB l = if t.all isVis && (tokB m && (!t.isEmpty && protoN p != 0)) then (m, t, protoN p, true) else ([], [], 0, false) := by
  unfold lineB; rw [h1]; dsimp only; rw [h2]
/-- As the reference reads it: the first blank at a, the first byte that cannot be seen at b. -/
theorem line_ref {l : List UInt8} {a b : Nat} (ha : a < l.length) (hsp : l[a] = 32) (hno : ∀ j, (hj : j < a) → l[j]'(by omega) ≠ 32)
    (hab : a + 1 ≤ b) (hb : b ≤ l.length) (hvis : ∀ j, (h1 : a + 1 ≤ j) → (h2 : j < b) → isVis (l[j]'(by omega)) = true) (hend : ∀ h : b < l.length, isVis l[b] = false) :
    lineB l = if tokB (l.take a) && (decide (b < l.length) && (decide (b ≠ a + 1) && ((l[b]? == some 32) && protoN (l.drop (b + 1)) != 0))) then (l.take a, (l.take b).drop (a + 1), protoN (l.drop (b + 1)), true) else ([], [], 0, false) := by
  have h1 := cut_at ha hsp hno
  by_cases hbl : b < l.length
  · have hbe := hend hbl
    by_cases hb32 : l[b] = 32
    · have hk : b - (a + 1) < (l.drop (a + 1)).length := by rw [List.length_drop]; omega
      have h2 := cut_at (s := l.drop (a + 1)) (c := 32) (k := b - (a + 1)) hk (by rw [List.getElem_drop]; simpa [show a + 1 + (b - (a + 1)) = b by omega] using hb32) (fun j hj => by
        rw [List.getElem_drop]; intro e
        have := hvis (a + 1 + j) (by omega) (by omega)
        rw [e, vis_32] at this; cases this)
      rw [lineB_eq h1 h2, List.drop_drop, show a + 1 + (b - (a + 1) + 1) = b + 1 by omega]
      have ht : (l.drop (a + 1)).take (b - (a + 1)) = (l.take b).drop (a + 1) := by rw [List.drop_take]
      have hall : ((l.take b).drop (a + 1)).all isVis = true := by
        rw [List.all_eq_true]; intro x hx
        obtain ⟨j, hj, e⟩ := List.getElem_of_mem hx
        rw [List.length_drop, List.length_take] at hj
        rw [List.getElem_drop, List.getElem_take] at e
        rw [← e]; exact hvis _ (by omega) (by omega)
      rw [ht, hall, Bool.true_and, List.getElem?_eq_getElem hbl, hb32]
      have he : (!((l.take b).drop (a + 1)).isEmpty) = decide (b ≠ a + 1) := by
        rw [Bool.eq_iff_iff]; simp only [Bool.not_eq_true', decide_eq_true_eq, List.isEmpty_eq_false_iff, ne_eq, ← List.length_eq_zero_iff, List.length_drop, List.length_take]
        omega
      rw [he]; simp [hbl]
    · have : (l[b]? == some 32) = false := by rw [List.getElem?_eq_getElem hbl]; simpa using hb32
      rw [this]
      simp only [Bool.false_and, Bool.and_false, Bool.false_eq_true, if_false]
      -- the target would bear a byte that cannot be seen
      rcases cut_cases (l.drop (a + 1)) 32 with ⟨h2, _⟩ | ⟨i, hi, h32, hbef, h2⟩
      · rw [lineB_eq h1 h2]
        have : (l.drop (a + 1)).all isVis = false := all_false (k := b - (a + 1)) (by rw [List.length_drop]; omega) (by rw [List.getElem_drop]; simpa [show a + 1 + (b - (a + 1)) = b by omega] using hbe)
        rw [this]; rfl
      · rw [lineB_eq h1 h2]
        rw [List.length_drop] at hi
        rw [List.getElem_drop] at h32
        have hbi : b - (a + 1) < i := by
          rcases Nat.lt_trichotomy (b - (a + 1)) i with h | h | h
          · exact h
          · subst h; exfalso; apply hb32; simpa [show a + 1 + (b - (a + 1)) = b by omega] using h32
          · have := hvis (a + 1 + i) (by omega) (by omega)
            rw [h32, vis_32] at this; cases this
        have : ((l.drop (a + 1)).take i).all isVis = false := all_false (k := b - (a + 1)) (by rw [List.length_take, List.length_drop]; omega) (by rw [List.getElem_take, List.getElem_drop]; simpa [show a + 1 + (b - (a + 1)) = b by omega] using hbe)
        rw [this]; rfl
  · have : decide (b < l.length) = false := by simpa using hbl
    rw [this]
    simp only [Bool.false_and, Bool.and_false, Bool.false_eq_true, if_false]
    have hn : ∀ j, (hj : j < (l.drop (a + 1)).length) → (l.drop (a + 1))[j] ≠ 32 := fun j hj e => by
      rw [List.length_drop] at hj
      rw [List.getElem_drop] at e
      have := hvis (a + 1 + j) (by omega) (by omega)
      rw [e, vis_32] at this; cases this
    rw [lineB_eq h1 (cut_none hn)]
    simp [protoN, pH10, pH11]
theorem line_noblank {l : List UInt8} (h : ∀ j, (hj : j < l.length) → l[j] ≠ 32) : lineB l = ([], [], 0, false) := by
  rw [lineB_eq (cut_none h) (show Lib.cut [] [32] = ([], [], false) by decide +kernel)]; simp

/-- A path's characters. -/
def pmarks : List UInt8 := [45, 46, 95, 126, 33, 36, 38, 39, 40, 41, 42, 43, 44, 59, 61, 58, 64, 47]
def hexesL : List UInt8 := [48, 49, 50, 51, 52, 53, 54, 55, 56, 57, 97, 98, 99, 100, 101, 102, 65, 66, 67, 68, 69, 70]
def isPath (c : UInt8) : Bool := isLetter c || pmarks.contains c
def isHex (c : UInt8) : Bool := hexesL.contains c
/-- Is a text made of a path's characters, and of more; of percent signs with two digits? -/
def plainT (q : Bool) : List UInt8 → Bool
  | [] => true
  | c :: t =>
    if isPath c || (q && c == 63) then plainT q t
    else if c == 37 then match t with
      | a :: b :: t' => isHex a && isHex b && plainT q t'
      | _ => false
    else false
theorem plainT_path {q : Bool} {c : UInt8} (t : List UInt8) (h : (isPath c || (q && c == 63)) = true) : plainT q (c :: t) = plainT q t := by
  conv => lhs; unfold plainT
  rw [if_pos h]
theorem plainT_bad {q : Bool} {c : UInt8} (t : List UInt8) (h : (isPath c || (q && c == 63)) = false) (h2 : c ≠ 37) : plainT q (c :: t) = false := by
  conv => lhs; unfold plainT
  rw [if_neg (by rw [h]; decide), if_neg (by simpa using h2)]
theorem path_37 : isPath 37 = false := by decide +kernel
theorem path_63 : isPath 63 = false := by decide +kernel
theorem hex_63 : isHex 63 = false := by decide +kernel
def pctT (q : Bool) : List UInt8 → Bool
  | a :: b :: t' => isHex a && isHex b && plainT q t'
  | _ => false
theorem plainT_pct (q : Bool) (t : List UInt8) : plainT q (37 :: t) = pctT q t := by
  match t with
  | [] => cases q <;> rfl
  | [a] => cases q <;> rfl
  | a :: b :: t' => rw [plainT, if_neg (by rw [path_37]; cases q <;> decide), if_pos (by decide)]; rfl
/-- A text with its first question mark. -/
theorem plainT_mark : ∀ (n : Nat) (p q : List UInt8), p.length ≤ n → (∀ x ∈ p, x ≠ 63) → plainT true (p ++ 63 :: q) = (plainT false p && plainT true q) := by
  intro n
  induction n with
  | zero =>
    intro p q hn _
    obtain rfl : p = [] := List.length_eq_zero_iff.1 (by omega)
    rw [List.nil_append, plainT_path _ (by rfl)]; rfl
  | succ n ih =>
    intro p q hn hp
    cases p with
    | nil => rw [List.nil_append, plainT_path _ (by rfl)]; rfl
    | cons c t =>
      have hc : (c == 63) = false := beq_eq_false_iff_ne.2 (hp c (List.mem_cons_self ..))
      have htn : t.length ≤ n := by simpa using hn
      have ht : ∀ x ∈ t, x ≠ 63 := fun x hx => hp x (List.mem_cons_of_mem _ hx)
      rw [List.cons_append]
      by_cases h : isPath c = true
      · rw [plainT_path _ (by rw [h]; rfl), plainT_path _ (by rw [h]; rfl), ih t q htn ht]
      · have h' : isPath c = false := by simpa using h
        by_cases h37 : c = 37
        · subst h37
          rw [plainT_pct, plainT_pct]
          match t with
          | [] =>
            cases q with
            | nil => rfl
            | cons b q' => simp [pctT, hex_63]
          | [a] =>
            simp [pctT, hex_63]
          | a :: b :: t' =>
            have := ih t' q (by simp at htn; omega) (fun x hx => ht x (List.mem_cons_of_mem _ (List.mem_cons_of_mem _ hx)))
            simp only [List.cons_append, pctT, this, Bool.and_assoc]
        · rw [plainT_bad _ (by rw [h', hc]; rfl) h37, plainT_bad _ (by rw [h']; rfl) h37]; rfl
theorem plainT_nomark : ∀ (n : Nat) (p : List UInt8), p.length ≤ n → (∀ x ∈ p, x ≠ 63) → plainT true p = plainT false p := by
  intro n
  induction n with
  | zero =>
    intro p hn _
    obtain rfl : p = [] := List.length_eq_zero_iff.1 (by omega)
    rfl
  | succ n ih =>
    intro p hn hp
    cases p with
    | nil => rfl
    | cons c t =>
      have hc : (c == 63) = false := beq_eq_false_iff_ne.2 (hp c (List.mem_cons_self ..))
      have htn : t.length ≤ n := by simpa using hn
      have ht : ∀ x ∈ t, x ≠ 63 := fun x hx => hp x (List.mem_cons_of_mem _ hx)
      by_cases h : isPath c = true
      · rw [plainT_path _ (by rw [h]; rfl), plainT_path _ (by rw [h]; rfl), ih t htn ht]
      · have h' : isPath c = false := by simpa using h
        by_cases h37 : c = 37
        · subst h37
          rw [plainT_pct, plainT_pct]
          match t with
          | [] => rfl
          | [a] => rfl
          | a :: b :: t' => simp only [pctT, ih t' (by simp at htn; omega) (fun x hx => ht x (List.mem_cons_of_mem _ (List.mem_cons_of_mem _ hx)))]
        · rw [plainT_bad _ (by rw [h', hc]; rfl) h37, plainT_bad _ (by rw [h']; rfl) h37]
/-- A target: path, query, and whether it is one. -/
def targetB (l : List UInt8) : List UInt8 × List UInt8 × Bool :=
  let p := (Lib.cut l [63]).1
  let q := (Lib.cut l [63]).2.1
  if decide (l.length ≤ 512) && ((Lib.hasPrefix p [47]) && (plainT false p && plainT true q)) then (p, q, true) else ([], [], false)
theorem pre_47 (p : List UInt8) : Lib.hasPrefix p [47] = (p.head? == some 47) := by
  unfold Lib.hasPrefix
  cases p with
  | nil => rfl
  | cons c t => simp [List.isPrefixOf, Bool.beq_comm]
/-- As the reference reads it. -/
theorem target_ref (l : List UInt8) : targetB l = if decide (l.length ≤ 512) && ((l.head? == some 47) && plainT true l) then ((Lib.cut l [63]).1, (Lib.cut l [63]).2.1, true) else ([], [], false) := by
  unfold targetB
  dsimp only
  rw [pre_47]
  rcases cut_cases l 63 with ⟨h, hno⟩ | ⟨k, hk, h63, hbef, h⟩
  · rw [h]
    have hno' : ∀ x ∈ l, x ≠ 63 := fun x hx => by obtain ⟨j, hj, e⟩ := List.getElem_of_mem hx; rw [← e]; exact hno j hj
    rw [plainT_nomark l.length l (Nat.le_refl _) hno', show plainT true [] = true from rfl, Bool.and_true]
  · rw [h]
    have hl : l = l.take k ++ 63 :: l.drop (k + 1) := by
      conv => lhs; rw [← List.take_append_drop k l, List.drop_eq_getElem_cons hk, h63]
    have hb : ∀ x ∈ l.take k, x ≠ 63 := fun x hx => by
      obtain ⟨j, hj, e⟩ := List.getElem_of_mem hx
      rw [List.length_take] at hj
      rw [List.getElem_take] at e
      rw [← e]; exact hbef j (by omega)
    have hp : plainT true l = (plainT false (l.take k) && plainT true (l.drop (k + 1))) := by
      conv => lhs; rw [hl]
      exact plainT_mark k _ _ (by simp; omega) hb
    have hh : ((l.take k).head? == some 47) = (l.head? == some 47) := by
      cases k with
      | zero =>
        cases l with
        | nil => cases hk
        | cons c t => simp at h63; subst h63; simp
      | succ k => cases l <;> simp
    dsimp only
    rw [hp, hh]
end Go.Proofs.YtpncfeaaffgkfaaGreatDoor
namespace Go.Proofs.YtpncfeaaffgkfaaGreatDoor

/-- A reader: what it reads (0: a head, 1: data, 2: behind data, 3: trailers, 4: nothing more), the line under way, bytes to come, the data, trailers and their bytes, what is wrong. -/
structure Ck where
  st : Nat
  line : List UInt8
  left : Nat
  data : List UInt8
  nf : Nat
  tail : Nat
  bad : Nat
def ck0 : Ck := ⟨0, [], 0, [], 0, 0, 0⟩
def wrongC (r : Ck) (c : Nat) : Ck := { r with st := 4, bad := c }
def hexD (c : UInt8) : Nat := if 97 ≤ c then c.toNat - 87 else if 65 ≤ c then c.toNat - 55 else c.toNat - 48
def hexN (l : List UInt8) : Nat := l.foldl (fun x c => 16 * x + hexD c) 0
/-- What a head's line says. -/
def sizeC (s : List UInt8) : Option Nat :=
  if (Lib.cut s [59]).2.1.all isVal && (!(Lib.cut s [59]).1.isEmpty && (decide ((Lib.cut s [59]).1.length ≤ 8) && (Lib.cut s [59]).1.all isHex)) then some (hexN (Lib.cut s [59]).1) else none
def headC (r : Ck) (s : List UInt8) : Ck :=
  match sizeC s with
  | none => wrongC r 400
  | some n => if 4096 < r.data.length + n then wrongC r 413 else if n = 0 then { r with st := 3 } else { r with st := 1, left := n }
def trailerC (r : Ck) (s : List UInt8) : Ck :=
  if s.isEmpty then { r with st := 4 } else if (parseB s).2.2 then (if 32 ≤ r.nf then { r with nf := r.nf + 1, st := 4, bad := 431 } else { r with nf := r.nf + 1 }) else { r with nf := r.nf + 1, st := 4, bad := 400 }
def crB (l : List UInt8) : Bool := l.getLast? == some 13
def letterC (r0 : Ck) (c : UInt8) : Ck :=
  let r := if r0.st = 3 then { r0 with tail := r0.tail + 1 } else r0
  if 2048 < r.tail then wrongC r 431
  else if crB r.line != (c == 10) then wrongC r 400
  else if crB r.line then (if r.st = 0 then headC { r with line := [] } r.line.dropLast else trailerC { r with line := [] } r.line.dropLast)
  else if r.st = 0 ∧ r.line.length = 2048 then wrongC r 431
  else { r with line := r.line ++ [c] }
def endC (r : Ck) (c : UInt8) : Ck :=
  if c = (if r.line.isEmpty then 13 else 10) then (if c = 10 then { r with line := [], st := 0 } else { r with line := r.line ++ [c] }) else wrongC r 400
def dataC (r : Ck) (c : UInt8) : Ck := { r with data := r.data ++ [c], left := r.left - 1, st := if r.left = 1 then 2 else 1 }
def stepC (r : Ck) (c : UInt8) : Ck := if r.st = 1 then dataC r c else if r.st = 2 then endC r c else letterC r c
/-- What feeding does: how many bytes are read, and the reader. -/
def feedC : Ck → List UInt8 → Nat × Ck
  | r, [] => (0, r)
  | r, c :: t => if r.st = 4 then (0, r) else ((feedC (stepC r c) t).1 + 1, (feedC (stepC r c) t).2)
/-- What a reader that came to be may be. -/
structure CkOk (r : Ck) : Prop where
  st : r.st ≤ 4
  one : r.st = 1 → 1 ≤ r.left ∧ r.line = [] ∧ r.data.length + r.left ≤ 4096
  two : r.st = 2 → r.line = [] ∨ r.line = [13]
  zero : r.st = 0 → r.line.length ≤ 2048 ∧ r.tail = 0 ∧ r.nf = 0
  three : r.st = 3 → r.line.length ≤ r.tail ∧ r.tail ≤ 2048 ∧ r.nf ≤ 32
  data : r.data.length ≤ 4096
  live : r.st ≠ 4 → r.bad = 0 ∧ r.nf ≤ 32 ∧ r.tail ≤ 2048
  ends : r.st = 4 → r.nf ≤ 33 ∧ r.tail ≤ 2049 ∧ r.line.length ≤ 2048 ∧ r.left ≤ 4096
  early : r.st = 1 ∨ r.st = 2 → r.tail = 0 ∧ r.nf = 0 ∧ r.left ≤ 4096
  left : r.left ≤ 4096
  codes : r.bad = 0 ∨ r.bad = 400 ∨ r.bad = 413 ∨ r.bad = 431
theorem ck0_ok : CkOk ck0 := ⟨by decide, by decide, by decide, by decide, by decide, by decide, by decide, by decide, by decide, by decide, .inl rfl⟩

theorem wrong_ok {r : Ck} {c : Nat} (hc : c = 400 ∨ c = 413 ∨ c = 431) (h1 : r.data.length ≤ 4096) (h2 : r.nf ≤ 33) (h3 : r.tail ≤ 2049) (h4 : r.line.length ≤ 2048) (h5 : r.left ≤ 4096) : CkOk (wrongC r c) :=
  ⟨by simp [wrongC], fun h => by simp [wrongC] at h, fun h => by simp [wrongC] at h, fun h => by simp [wrongC] at h, fun h => by simp [wrongC] at h, h1, fun h => absurd rfl h, fun _ => ⟨h2, h3, h4, h5⟩, fun h => by simp [wrongC] at h, h5, .inr hc⟩
theorem head_ok {r : Ck} (s : List UInt8) (h1 : r.data.length ≤ 4096) (h2 : r.nf = 0) (h3 : r.tail = 0) (h4 : r.line = []) (h5 : r.left ≤ 4096) (h6 : r.bad = 0) : CkOk (headC r s) := by
  unfold headC
  cases sizeC s with
  | none => exact wrong_ok (.inl rfl) h1 (by omega) (by omega) (by rw [h4]; simp) h5
  | some n =>
    dsimp only
    split
    · exact wrong_ok (.inr (.inl rfl)) h1 (by omega) (by omega) (by rw [h4]; simp) h5
    · split
      · exact ⟨by simp, fun h => by simp at h, fun h => by simp at h, fun h => by simp at h, fun _ => ⟨by simp [h4], by simp [h3], by simp [h2]⟩, h1, fun _ => ⟨h6, by simp [h2], by simp [h3]⟩, fun h => by simp at h, fun h => by simp at h, h5, .inl h6⟩
      · exact ⟨by simp, fun _ => ⟨by simp; omega, h4, by simp; omega⟩, fun h => by simp at h, fun h => by simp at h, fun h => by simp at h, h1, fun _ => ⟨h6, by simp [h2], by simp [h3]⟩, fun h => by simp at h, fun _ => ⟨h3, h2, by simp; omega⟩, by simp; omega, .inl h6⟩
theorem trailer_ok {r : Ck} (s : List UInt8) (h0 : r.st = 3) (h1 : r.data.length ≤ 4096) (h2 : r.nf ≤ 32) (h3 : r.tail ≤ 2048) (h4 : r.line = []) (h5 : r.left ≤ 4096) (h6 : r.bad = 0) : CkOk (trailerC r s) := by
  unfold trailerC
  split
  · exact ⟨by simp, fun h => by simp at h, fun h => by simp at h, fun h => by simp at h, fun h => by simp at h, h1, fun h => absurd rfl h, fun _ => ⟨by simp; omega, by simp; omega, by simp [h4], h5⟩, fun h => by simp at h, h5, .inl h6⟩
  · split
    · split
      · exact ⟨by simp, fun h => by simp at h, fun h => by simp at h, fun h => by simp at h, fun h => by simp at h, h1, fun h => absurd rfl h, fun _ => ⟨by simp; omega, by simp; omega, by simp [h4], h5⟩, fun h => by simp at h, h5, .inr (.inr (.inr rfl))⟩
      · exact ⟨by simp [h0], fun h => by simp [h0] at h, fun h => by simp [h0] at h, fun h => by simp [h0] at h, fun _ => ⟨by simp [h4], h3, by simp; omega⟩, h1, fun _ => ⟨h6, by simp; omega, h3⟩, fun h => by simp [h0] at h, fun h => by simp [h0] at h, h5, .inl h6⟩
    · exact ⟨by simp, fun h => by simp at h, fun h => by simp at h, fun h => by simp at h, fun h => by simp at h, h1, fun h => absurd rfl h, fun _ => ⟨by simp; omega, by simp; omega, by simp [h4], h5⟩, fun h => by simp at h, h5, .inr (.inl rfl)⟩
theorem letter_ok {r0 : Ck} (c : UInt8) (h : CkOk r0) (hs : r0.st = 0 ∨ r0.st = 3) : CkOk (letterC r0 c) := by
  obtain ⟨b0, b1, b2⟩ := h.live (by omega)
  have hd := h.data
  have hl := h.left
  rcases hs with hs | hs
  · obtain ⟨z1, z2, z3⟩ := h.zero hs
    unfold letterC
    simp only [hs]
    rw [if_neg (show ¬ (0 = 3) by decide), if_neg (by omega)]
    split
    · exact wrong_ok (.inl rfl) hd (by omega) (by omega) z1 hl
    · split
      · exact head_ok _ hd z3 z2 rfl hl b0
      · split
        · exact wrong_ok (.inr (.inr rfl)) hd (by omega) (by omega) z1 hl
        · rename_i hn
          have hn2 : r0.line.length ≠ 2048 := fun e => hn ⟨hs, e⟩
          exact ⟨by simp [hs], fun h => by simp [hs] at h, fun h => by simp [hs] at h, fun _ => ⟨by simp; omega, z2, z3⟩, fun h => by simp [hs] at h, hd, fun _ => ⟨b0, b1, b2⟩, fun h => by simp [hs] at h, fun h => by simp [hs] at h, hl, h.codes⟩
  · obtain ⟨z1, z2, z3⟩ := h.three hs
    unfold letterC
    rw [if_pos hs]
    dsimp only
    split
    · exact wrong_ok (.inr (.inr rfl)) hd (by simp; omega) (by simp; omega) (by simp; omega) hl
    · rename_i ht
      split
      · exact wrong_ok (.inl rfl) hd (by simp; omega) (by simp; omega) (by simp; omega) hl
      · split
        · rw [if_neg (by omega)]
          exact trailer_ok _ hs hd z3 (by simp; omega) rfl hl b0
        · rw [if_neg (by omega)]
          exact ⟨by simp [hs], fun h => by simp [hs] at h, fun h => by simp [hs] at h, fun h => by simp [hs] at h, fun _ => ⟨by simp; omega, by simp; omega, z3⟩, hd, fun _ => ⟨b0, b1, by simp; omega⟩, fun h => by simp [hs] at h, fun h => by simp [hs] at h, hl, h.codes⟩
theorem end_ok {r : Ck} (c : UInt8) (h : CkOk r) (hs : r.st = 2) : CkOk (endC r c) := by
  obtain ⟨b0, b1, b2⟩ := h.live (by omega)
  obtain ⟨e1, e2, e3⟩ := h.early (.inr hs)
  have hln := h.two hs
  have hl2 : r.line.length ≤ 2048 := by rcases hln with h | h <;> rw [h] <;> simp
  unfold endC
  by_cases hc : c = (if r.line.isEmpty then 13 else 10)
  · rw [if_pos hc]
    by_cases hc10 : c = 10
    · rw [if_pos hc10]
      exact ⟨by simp, fun h => by simp at h, fun h => by simp at h, fun _ => ⟨by simp, e1, e2⟩, fun h => by simp at h, h.data, fun _ => ⟨b0, b1, b2⟩, fun h => by simp at h, fun h => by simp at h, e3, h.codes⟩
    · rw [if_neg hc10]
      have hle : r.line = [] := by
        rcases hln with h | h
        · exact h
        · rw [h] at hc; simp at hc; exact absurd hc hc10
      rw [hle] at hc ⊢
      simp at hc
      subst hc
      exact ⟨by simp [hs], fun h => by simp [hs] at h, fun _ => .inr rfl, fun h => by simp [hs] at h, fun h => by simp [hs] at h, h.data, fun _ => ⟨b0, b1, b2⟩, fun h => by simp [hs] at h, fun _ => ⟨e1, e2, e3⟩, e3, h.codes⟩
  · rw [if_neg hc]
    exact wrong_ok (.inl rfl) h.data (by omega) (by omega) hl2 e3
theorem data_ok {r : Ck} (c : UInt8) (h : CkOk r) (hs : r.st = 1) : CkOk (dataC r c) := by
  obtain ⟨b0, b1, b2⟩ := h.live (by omega)
  obtain ⟨e1, e2, e3⟩ := h.early (.inl hs)
  obtain ⟨o1, o2, o3⟩ := h.one hs
  unfold dataC
  by_cases h1 : r.left = 1
  · rw [if_pos h1]
    exact ⟨by simp, fun h => by simp at h, fun _ => .inl o2, fun h => by simp at h, fun h => by simp at h, by simp; omega, fun _ => ⟨b0, b1, b2⟩, fun h => by simp at h, fun _ => ⟨e1, e2, by simp; omega⟩, by simp; omega, h.codes⟩
  · rw [if_neg h1]
    exact ⟨by simp, fun _ => ⟨by simp; omega, o2, by simp; omega⟩, fun h => by simp at h, fun h => by simp at h, fun h => by simp at h, by simp; omega, fun _ => ⟨b0, b1, b2⟩, fun h => by simp at h, fun _ => ⟨e1, e2, by simp; omega⟩, by simp; omega, h.codes⟩
theorem step_ok {r : Ck} (c : UInt8) (h : CkOk r) (hs : r.st ≠ 4) : CkOk (stepC r c) := by
  unfold stepC
  have := h.st
  split
  · exact data_ok c h (by assumption)
  · split
    · exact end_ok c h (by assumption)
    · exact letter_ok c h (by omega)
theorem feed_ok : ∀ (s : List UInt8) {r : Ck}, CkOk r → CkOk (feedC r s).2
  | [], _, h => h
  | c :: t, r, h => by
    unfold feedC
    split
    · exact h
    · exact feed_ok t (step_ok c h (by assumption))
theorem feed_le : ∀ (s : List UInt8) (r : Ck), (feedC r s).1 ≤ s.length
  | [], _ => Nat.le_refl _
  | c :: t, r => by
    unfold feedC
    split
    · exact Nat.zero_le _
    · have := feed_le t (stepC r c); simp; omega
theorem feed_over {r : Ck} (h : r.st = 4) (s : List UInt8) : feedC r s = (0, r) := by
  cases s with
  | nil => rfl
  | cons c t => unfold feedC; rw [if_pos h]
theorem feed_cons {r : Ck} (h : r.st ≠ 4) (c : UInt8) (t : List UInt8) : feedC r (c :: t) = ((feedC (stepC r c) t).1 + 1, (feedC (stepC r c) t).2) := by
  rw [feedC, if_neg h]
/-- What is left unread: then the reader reads nothing more. -/
theorem feed_short : ∀ (s : List UInt8) (r : Ck), (feedC r s).1 < s.length → (feedC r s).2.st = 4
  | [], _, h => by simp at h
  | c :: t, r, h => by
    unfold feedC at h ⊢
    split
    · assumption
    · rename_i hs
      rw [if_neg hs] at h
      exact feed_short t _ (by simp at h; omega)
theorem feed_app : ∀ (a b : List UInt8) (r : Ck), feedC r (a ++ b) = ((feedC r a).1 + (feedC (feedC r a).2 b).1, (feedC (feedC r a).2 b).2)
  | [], b, r => by simp [feedC]
  | c :: t, b, r => by
    by_cases h : r.st = 4
    · simp [feed_over h]
    · rw [List.cons_append, feed_cons h, feed_cons h, feed_app t b]
      simp; omega
/-- Many bytes of data at a time. -/
theorem feed_data : ∀ (a : List UInt8) {r : Ck}, r.st = 1 → 1 ≤ a.length → a.length ≤ r.left → feedC r a = (a.length, { r with data := r.data ++ a, left := r.left - a.length, st := if r.left = a.length then 2 else 1 })
  | [], _, _, h, _ => by simp at h
  | [c], r, hs, _, h => by
    rw [feed_cons (by omega)]
    simp [feedC, stepC, hs, dataC]
  | c :: d :: t, r, hs, _, h => by
    simp only [List.length_cons] at h
    have hne : r.left ≠ 1 := by omega
    rw [feed_cons (by omega), show stepC r c = { r with data := r.data ++ [c], left := r.left - 1, st := 1 } by unfold stepC; rw [if_pos hs]; unfold dataC; rw [if_neg hne]]
    rw [feed_data (d :: t) rfl (by simp) (by simp; omega)]
    simp only [List.length_cons, Prod.mk.injEq, true_and]
    have e : (r.left - 1 = t.length + 1) = (r.left = t.length + 1 + 1) := by rw [eq_iff_iff]; omega
    simp only [e]
    simp
    omega
end Go.Proofs.YtpncfeaaffgkfaaGreatDoor
