/-
  Plain laws: alike words; lines put together.
-/
import Derived.Test.YtolpphmgobeocaaDoorP1
namespace Go.Proofs.YtolpphmgobeocaaDoor

def up (c : UInt8) : UInt8 := if 97 ≤ c ∧ c ≤ 122 then c - 32 else c
set_option maxRecDepth 100000 in
theorem lower_up (c : UInt8) : lower (up c) = lower c := by
  refine u8_all (p := fun c => lower (up c) = lower c) ?_ c
  decide +kernel
set_option maxRecDepth 100000 in
theorem tok_up (c : UInt8) : isTok (up c) = isTok c := by
  refine u8_all (p := fun c => isTok (up c) = isTok c) ?_ c
  decide +kernel
theorem map_lower_up (a : List UInt8) : (a.map up).map lower = a.map lower := by
  rw [List.map_map]; exact List.map_congr_left fun c _ => lower_up c
theorem alike_refl (a : List UInt8) : alikeB a a = true := by simp [alikeB]
theorem alike_up (a : List UInt8) : alikeB a (a.map up) = true := by unfold alikeB; rw [map_lower_up]; simp
theorem alike_up_l (a b : List UInt8) : alikeB (a.map up) b = alikeB a b := by unfold alikeB; rw [map_lower_up]
theorem alike_comm (a b : List UInt8) : alikeB a b = alikeB b a := by unfold alikeB; rw [Bool.beq_comm]
theorem alike_trans {a b c : List UInt8} (h : alikeB a b = true) (k : alikeB b c = true) : alikeB a c = true := by
  unfold alikeB at *; rw [beq_iff_eq] at *; rw [h, k]
theorem alike_len {a b : List UInt8} (h : alikeB a b = true) : a.length = b.length := by
  unfold alikeB at h; rw [beq_iff_eq] at h
  have := congrArg List.length h
  simpa using this
theorem tokB_up (a : List UInt8) : tokB (a.map up) = tokB a := by
  unfold tokB
  rw [List.all_map]
  have : (isTok ∘ up) = isTok := funext tok_up
  rw [this]; cases a <;> rfl
theorem up_toNat (c : UInt8) : ((up c).toNat : Int) = if 97 ≤ (c.toNat : Int) ∧ (c.toNat : Int) ≤ 122 then (c.toNat : Int) - 32 else c.toNat := by
  unfold up
  by_cases h : 97 ≤ c ∧ c ≤ 122
  · have h' : 97 ≤ c.toNat ∧ c.toNat ≤ 122 := by simpa [UInt8.le_iff_toNat_le] using h
    rw [if_pos h, if_pos (by omega), UInt8.toNat_sub_of_le _ _ (by rw [UInt8.le_iff_toNat_le]; simp; omega)]
    simp; omega
  · have h' : ¬ (97 ≤ c.toNat ∧ c.toNat ≤ 122) := by simpa [UInt8.le_iff_toNat_le] using h
    rw [if_neg h, if_neg (by omega)]

/-- Blanks by a number. -/
def padAt (n i : Nat) : UInt8 := if (n + i) % 2 = 0 then 32 else 9
def padL (n k : Nat) : List UInt8 := (List.range k).map (padAt n)
def padB (n : UInt8) : List UInt8 := padL n.toNat (n.toNat % 5)
theorem padL_succ (n k : Nat) : padL n (k + 1) = padL n k ++ [padAt n k] := by simp [padL, List.range_succ]
theorem padL_len (n k : Nat) : (padL n k).length = k := by simp [padL]
theorem padB_blank (n : UInt8) : (padB n).all isBlank = true := by
  simp only [padB, padL, List.all_map, List.all_eq_true]
  intro i _
  show isBlank (padAt n.toNat i) = true
  unfold padAt
  split <;> rfl
theorem blank_val {c : UInt8} (h : isBlank c = true) : isVal c = true := by
  revert h
  refine u8_all (p := fun c => isBlank c = true → isVal c = true) ?_ c
  decide +kernel
theorem ldrop_blank {p l : List UInt8} (h : p.all isBlank = true) : ldrop (p ++ l) = ldrop l := by
  induction p with
  | nil => rfl
  | cons c p ih =>
    simp only [List.all_cons, Bool.and_eq_true] at h
    rw [List.cons_append, ldrop_cons_t h.1, ih h.2]
theorem rdrop_blank {p l : List UInt8} (h : p.all isBlank = true) : rdrop (l ++ p) = rdrop l := by
  unfold rdrop
  rw [List.reverse_append]
  have : p.reverse.all isBlank = true := by rw [List.all_reverse]; exact h
  have h2 := ldrop_blank (l := l.reverse) this
  unfold ldrop at h2
  rw [h2]
theorem trim_pads {p q l : List UInt8} (hp : p.all isBlank = true) (hq : q.all isBlank = true) : trimB (p ++ l ++ q) = trimB l := by
  rw [trimB_eq, rdrop_blank hq, ← rdrop_ldrop, ldrop_blank hp, rdrop_ldrop, trimB_eq]
theorem ldrop_idem (l : List UInt8) : ldrop (ldrop l) = ldrop l := by
  induction l with
  | nil => rfl
  | cons c l ih =>
    cases h : isBlank c
    · rw [ldrop_cons_f h, ldrop_cons_f h]
    · rw [ldrop_cons_t h, ih]
theorem rdrop_idem (l : List UInt8) : rdrop (rdrop l) = rdrop l := by
  have := ldrop_idem l.reverse
  unfold ldrop at this
  unfold rdrop; rw [List.reverse_reverse, this]
theorem trim_idem (l : List UInt8) : trimB (trimB l) = trimB l := by
  rw [trimB_eq (trimB l), trimB_eq l, rdrop_ldrop (rdrop l), rdrop_idem, ldrop_idem]
theorem ldrop_head {c : UInt8} {l t : List UInt8} (h : ldrop l = c :: t) : isBlank c = false := by
  induction l with
  | nil => simp [ldrop] at h
  | cons d l ih =>
    cases hd : isBlank d
    · rw [ldrop_cons_f hd] at h; cases h; exact hd
    · rw [ldrop_cons_t hd] at h; exact ih h
theorem trim_head {l : List UInt8} (h : 0 < (trimB l).length) : isBlank ((trimB l)[0]) = false := by
  obtain ⟨t, ht⟩ : ∃ t, trimB l = t := ⟨_, rfl⟩
  simp only [ht] at h ⊢
  cases t with
  | nil => simp at h
  | cons c t => rw [trimB_eq] at ht; exact ldrop_head ht
theorem trim_last {l : List UInt8} (h : 0 < (trimB l).length) : isBlank ((trimB l)[(trimB l).length - 1]) = false := by
  obtain ⟨t, ht⟩ : ∃ t, trimB l = t := ⟨_, rfl⟩
  have h2 : rdrop t = t := by rw [← ht, trimB_bare, rdrop_idem]
  simp only [ht] at h ⊢
  cases hb : isBlank (t[t.length - 1]) with
  | false => rfl
  | true =>
    have h3 := rdrop_last (l := t) (k := t.length - 1) (by omega) hb
    rw [h2] at h3
    have h4 : (rdrop (t.take (t.length - 1))).length ≤ t.length - 1 := by
      unfold rdrop
      rw [List.length_reverse]
      refine Nat.le_trans ((List.dropWhile_sublist _).length_le) ?_
      simp
    have := congrArg List.length h3
    omega
theorem all_dropWhile {p q : UInt8 → Bool} {l : List UInt8} (h : l.all p = true) : (l.dropWhile q).all p = true := by
  rw [List.all_eq_true] at *
  exact fun x hx => h x ((List.dropWhile_sublist q).subset hx)
theorem trim_all {p : UInt8 → Bool} {l : List UInt8} (h : l.all p = true) : (trimB l).all p = true := by
  rw [trimB_eq]; unfold ldrop rdrop
  refine all_dropWhile ?_
  rw [List.all_reverse]
  refine all_dropWhile ?_
  rw [List.all_reverse]; exact h
theorem tok_no58 {n : List UInt8} (h : tokB n = true) : ∀ j, (hj : j < n.length) → n[j] ≠ 58 := fun j hj e => by
  unfold tokB at h
  rw [Bool.and_eq_true, List.all_eq_true] at h
  have := h.2 n[j] (List.getElem_mem hj)
  rw [e, tok_58] at this; cases this
theorem cut_colon {n y : List UInt8} (h : tokB n = true) : Lib.cut (n ++ [58] ++ y) [58] = (n, y, true) := by
  have := cut_at (s := n ++ [58] ++ y) (c := 58) (k := n.length) (by simp) (by simp) (fun j hj => by
    have := tok_no58 h j hj
    simpa [List.getElem_append, hj, show j < n.length + 1 by omega] using this)
  rw [this]
  simp
theorem parse_colon {n y : List UInt8} (h : tokB n = true) : parseB (n ++ [58] ++ y) = if y.all isVal then (n, trimB y, true) else ([], [], false) := by
  rw [parseB_eq (cut_colon h), h]; simp
/-- What Parse says of a line. -/
theorem parse_cases (l : List UInt8) : parseB l = ([], [], false) ∨ ∃ n x, Lib.cut l [58] = (n, x, true) ∧ tokB n = true ∧ x.all isVal = true ∧ parseB l = (n, trimB x, true) := by
  obtain ⟨⟨n, x, c⟩, hc⟩ : ∃ r, Lib.cut l [58] = r := ⟨_, rfl⟩
  rw [parseB_eq hc]
  by_cases h : (c && tokB n && x.all isVal) = true
  · rw [if_pos h]
    simp only [Bool.and_eq_true] at h
    obtain ⟨⟨h1, h2⟩, h3⟩ := h
    subst h1
    exact .inr ⟨n, x, hc, h2, h3, rfl⟩
  · rw [if_neg h]; exact .inl rfl
theorem back_law {name value pa pb : List UInt8} (ha : pa.all isBlank = true) (hb : pb.all isBlank = true) :
    parseB (name ++ [58] ++ pa ++ value ++ pb) = ([], [], false) ∨ ∃ n v, parseB (name ++ [58] ++ pa ++ value ++ pb) = (n, v, true) ∧ tokB n = true ∧
      (∀ h : 0 < v.length, isBlank v[0] = false ∧ isBlank (v[v.length - 1]) = false) ∧ parseB (n ++ [58] ++ v) = (n, v, true) ∧ parseB (n ++ [58] ++ pb ++ v ++ pa) = (n, v, true) ∧
      (tokB name = true → n = name) ∧ n.length ≤ (name ++ [58] ++ pa ++ value ++ pb).length ∧ v.length ≤ (name ++ [58] ++ pa ++ value ++ pb).length := by
  rcases parse_cases (name ++ [58] ++ pa ++ value ++ pb) with h | ⟨n, x, hc, ht, hv, h⟩
  · exact .inl h
  · refine .inr ⟨n, trimB x, h, ht, fun h0 => ⟨trim_head h0, trim_last h0⟩, ?_, ?_, fun h2 => ?_, ?_, ?_⟩
    · rw [parse_colon ht, if_pos (trim_all hv), trim_idem]
    · have e : n ++ [58] ++ pb ++ trimB x ++ pa = n ++ [58] ++ (pb ++ trimB x ++ pa) := by simp
      have hall : (pb ++ trimB x ++ pa).all isVal = true := by
        rw [List.all_append, List.all_append, trim_all hv]
        have h1 : pb.all isVal = true := by rw [List.all_eq_true] at *; exact fun c hc => blank_val (hb c hc)
        have h2 : pa.all isVal = true := by rw [List.all_eq_true] at *; exact fun c hc => blank_val (ha c hc)
        rw [h1, h2]; rfl
      rw [e, parse_colon ht, if_pos hall, trim_pads hb ha, trim_idem]
    · have e : name ++ [58] ++ pa ++ value ++ pb = name ++ [58] ++ (pa ++ value ++ pb) := by simp
      rw [e, cut_colon h2] at hc
      exact (congrArg Prod.fst hc).symm
    · have := cut_le1 (name ++ [58] ++ pa ++ value ++ pb) [58]
      rw [hc] at this; exact this
    · have h1 := cut_le2 (name ++ [58] ++ pa ++ value ++ pb) [58]
      rw [hc] at h1
      refine Nat.le_trans ?_ h1
      rw [trimB_eq]; unfold ldrop rdrop
      refine Nat.le_trans ((List.dropWhile_sublist _).length_le) ?_
      rw [List.length_reverse]
      refine Nat.le_trans ((List.dropWhile_sublist _).length_le) ?_
      simp
end Go.Proofs.YtolpphmgobeocaaDoor
