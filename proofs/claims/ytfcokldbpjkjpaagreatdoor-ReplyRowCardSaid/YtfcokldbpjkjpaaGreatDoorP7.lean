/-
  Plain laws of a request's line, a target, and a reply's line: no program in sight.
-/
import Derived.Test.YtfcokldbpjkjpaaGreatDoorP3
import Derived.Lib.Atoi
import Derived.Lib.ItoaNum
namespace Go.Proofs.YtfcokldbpjkjpaaGreatDoor

/-- A byte that a target's text may bear. -/
def isVis (c : UInt8) : Bool := 33 ≤ c && c ≤ 126
theorem vis_eq (c : UInt8) : isVis c = decide (33 ≤ (c.toNat : Int) ∧ (c.toNat : Int) ≤ 126) := by
  rw [Bool.eq_iff_iff]; simp [isVis, UInt8.le_iff_toNat_le]; omega
theorem vis_32 : isVis 32 = false := by decide +kernel
theorem tok_32 : isTok 32 = false := by decide +kernel

def pH10 : List UInt8 := [72, 84, 84, 80, 47, 49, 46, 48]
def pH11 : List UInt8 := [72, 84, 84, 80, 47, 49, 46, 49]
def protoN (l : List UInt8) : Nat := if l = pH10 then 10 else if l = pH11 then 11 else 0
/-- A request's line: method, target, version, and whether it is one. -/
def lineB (l : List UInt8) : List UInt8 × List UInt8 × Nat × Bool :=
  let m := (Lib.cut l [32]).1
  let t := (Lib.cut (Lib.cut l [32]).2.1 [32]).1
  let v := protoN (Lib.cut (Lib.cut l [32]).2.1 [32]).2.1
  if t.all isVis && (tokB m && (!t.isEmpty && v != 0)) then (m, t, v, true) else ([], [], 0, false)
theorem lineB_eq {l m r t p : List UInt8} {c d : Bool} (h1 : Lib.cut l [32] = (m, r, c)) (h2 : Lib.cut r [32] = (t, p, d)) :
    lineB l = if t.all isVis && (tokB m && (!t.isEmpty && protoN p != 0)) then (m, t, protoN p, true) else ([], [], 0, false) := by
  unfold lineB; rw [h1]; dsimp only; rw [h2]
/-- As the reference reads it: the first blank at a, the first byte that cannot be seen at b. -/
theorem line_ref {l : List UInt8} {a b : Nat} (ha : a < l.length) (hsp : l[a] = 32) (hno : ∀ j, (hj : j < a) → l[j]'(by omega) ≠ 32)
    (hab : a + 1 ≤ b) (hb : b ≤ l.length) (hvis : ∀ j, (h1 : a + 1 ≤ j) → (h2 : j < b) → isVis (l[j]'(by omega)) = true) (hend : ∀ h : b < l.length, isVis l[b] = false) :
    lineB l = if tokB (l.take a) && (decide (b < l.length) && (decide (b ≠ a + 1) && ((l[b]? == some 32) && protoN (l.drop (b + 1)) != 0))) then (l.take a, (l.take b).drop (a + 1), protoN (l.drop (b + 1)), true) else ([], [], 0, false) := by
  have h1 := cut_at ha hsp hno
  by_cases hbl : b < l.length
  · have hbe := hend hbl
    by_cases hb32 : l[b] = 32
    · have hk : b - (a + 1) < (l.drop (a + 1)).length := by rw [List.length_drop]; omega
      have h2 := cut_at (s := l.drop (a + 1)) (c := 32) (k := b - (a + 1)) hk (by rw [List.getElem_drop]; simpa [show a + 1 + (b - (a + 1)) = b by omega] using hb32) (fun j hj => by
        rw [List.getElem_drop]; intro e
        have := hvis (a + 1 + j) (by omega) (by omega)
        rw [e, vis_32] at this; cases this)
      rw [lineB_eq h1 h2, List.drop_drop, show a + 1 + (b - (a + 1) + 1) = b + 1 by omega]
      have ht : (l.drop (a + 1)).take (b - (a + 1)) = (l.take b).drop (a + 1) := by rw [List.drop_take]
      have hall : ((l.take b).drop (a + 1)).all isVis = true := by
        rw [List.all_eq_true]; intro x hx
        obtain ⟨j, hj, e⟩ := List.getElem_of_mem hx
        rw [List.length_drop, List.length_take] at hj
        rw [List.getElem_drop, List.getElem_take] at e
        rw [← e]; exact hvis _ (by omega) (by omega)
      rw [ht, hall, Bool.true_and, List.getElem?_eq_getElem hbl, hb32]
      have he : (!((l.take b).drop (a + 1)).isEmpty) = decide (b ≠ a + 1) := by
        rw [Bool.eq_iff_iff]; simp only [Bool.not_eq_true', decide_eq_true_eq, List.isEmpty_eq_false_iff, ne_eq, ← List.length_eq_zero_iff, List.length_drop, List.length_take]
        omega
      rw [he]; simp [hbl]
    · have : (l[b]? == some 32) = false := by rw [List.getElem?_eq_getElem hbl]; simpa using hb32
      rw [this]
      simp only [Bool.false_and, Bool.and_false, Bool.false_eq_true, if_false]
      -- the target would bear a byte that cannot be seen
      rcases cut_cases (l.drop (a + 1)) 32 with ⟨h2, _⟩ | ⟨i, hi, h32, hbef, h2⟩
      · rw [lineB_eq h1 h2]
        have : (l.drop (a + 1)).all isVis = false := all_false (k := b - (a + 1)) (by rw [List.length_drop]; omega) (by rw [List.getElem_drop]; simpa [show a + 1 + (b - (a + 1)) = b by omega] using hbe)
        rw [this]; rfl
      · rw [lineB_eq h1 h2]
        rw [List.length_drop] at hi
        rw [List.getElem_drop] at h32
        have hbi : b - (a + 1) < i := by
          rcases Nat.lt_trichotomy (b - (a + 1)) i with h | h | h
          · exact h
          · subst h; exfalso; apply hb32; simpa [show a + 1 + (b - (a + 1)) = b by omega] using h32
          · have := hvis (a + 1 + i) (by omega) (by omega)
            rw [h32, vis_32] at this; cases this
        have : ((l.drop (a + 1)).take i).all isVis = false := all_false (k := b - (a + 1)) (by rw [List.length_take, List.length_drop]; omega) (by rw [List.getElem_take, List.getElem_drop]; simpa [show a + 1 + (b - (a + 1)) = b by omega] using hbe)
        rw [this]; rfl
  · have : decide (b < l.length) = false := by simpa using hbl
    rw [this]
    simp only [Bool.false_and, Bool.and_false, Bool.false_eq_true, if_false]
    have hn : ∀ j, (hj : j < (l.drop (a + 1)).length) → (l.drop (a + 1))[j] ≠ 32 := fun j hj e => by
      rw [List.length_drop] at hj
      rw [List.getElem_drop] at e
      have := hvis (a + 1 + j) (by omega) (by omega)
      rw [e, vis_32] at this; cases this
    rw [lineB_eq h1 (cut_none hn)]
    simp [protoN, pH10, pH11]
theorem line_noblank {l : List UInt8} (h : ∀ j, (hj : j < l.length) → l[j] ≠ 32) : lineB l = ([], [], 0, false) := by
  rw [lineB_eq (cut_none h) (show Lib.cut [] [32] = ([], [], false) by decide +kernel)]; simp

/-- A path's characters. -/
def pmarks : List UInt8 := [45, 46, 95, 126, 33, 36, 38, 39, 40, 41, 42, 43, 44, 59, 61, 58, 64, 47]
def hexesL : List UInt8 := [48, 49, 50, 51, 52, 53, 54, 55, 56, 57, 97, 98, 99, 100, 101, 102, 65, 66, 67, 68, 69, 70]
def isPath (c : UInt8) : Bool := isLetter c || pmarks.contains c
def isHex (c : UInt8) : Bool := hexesL.contains c
/-- Is a text made of a path's characters, and of more; of percent signs with two digits? -/
def plainT (q : Bool) : List UInt8 → Bool
  | [] => true
  | c :: t =>
    if isPath c || (q && c == 63) then plainT q t
    else if c == 37 then match t with
      | a :: b :: t' => isHex a && isHex b && plainT q t'
      | _ => false
    else false
theorem plainT_path {q : Bool} {c : UInt8} (t : List UInt8) (h : (isPath c || (q && c == 63)) = true) : plainT q (c :: t) = plainT q t := by
  conv => lhs; unfold plainT
  rw [if_pos h]
theorem plainT_bad {q : Bool} {c : UInt8} (t : List UInt8) (h : (isPath c || (q && c == 63)) = false) (h2 : c ≠ 37) : plainT q (c :: t) = false := by
  conv => lhs; unfold plainT
  rw [if_neg (by rw [h]; decide), if_neg (by simpa using h2)]
theorem path_37 : isPath 37 = false := by decide +kernel
theorem path_63 : isPath 63 = false := by decide +kernel
theorem hex_63 : isHex 63 = false := by decide +kernel
def pctT (q : Bool) : List UInt8 → Bool
  | a :: b :: t' => isHex a && isHex b && plainT q t'
  | _ => false
theorem plainT_pct (q : Bool) (t : List UInt8) : plainT q (37 :: t) = pctT q t := by
  match t with
  | [] => cases q <;> rfl
  | [a] => cases q <;> rfl
  | a :: b :: t' => rw [plainT, if_neg (by rw [path_37]; cases q <;> decide), if_pos (by decide)]; rfl
/-- A text with its first question mark. -/
theorem plainT_mark : ∀ (n : Nat) (p q : List UInt8), p.length ≤ n → (∀ x ∈ p, x ≠ 63) → plainT true (p ++ 63 :: q) = (plainT false p && plainT true q) := by
  intro n
  induction n with
  | zero =>
    intro p q hn _
    obtain rfl : p = [] := List.length_eq_zero_iff.1 (by omega)
    rw [List.nil_append, plainT_path _ (by rfl)]; rfl
  | succ n ih =>
    intro p q hn hp
    cases p with
    | nil => rw [List.nil_append, plainT_path _ (by rfl)]; rfl
    | cons c t =>
      have hc : (c == 63) = false := beq_eq_false_iff_ne.2 (hp c (List.mem_cons_self ..))
      have htn : t.length ≤ n := by simpa using hn
      have ht : ∀ x ∈ t, x ≠ 63 := fun x hx => hp x (List.mem_cons_of_mem _ hx)
      rw [List.cons_append]
      by_cases h : isPath c = true
      · rw [plainT_path _ (by rw [h]; rfl), plainT_path _ (by rw [h]; rfl), ih t q htn ht]
      · have h' : isPath c = false := by simpa using h
        by_cases h37 : c = 37
        · subst h37
          rw [plainT_pct, plainT_pct]
          match t with
          | [] =>
            cases q with
            | nil => rfl
            | cons b q' => simp [pctT, hex_63]
          | [a] =>
            simp [pctT, hex_63]
          | a :: b :: t' =>
            have := ih t' q (by simp at htn; omega) (fun x hx => ht x (List.mem_cons_of_mem _ (List.mem_cons_of_mem _ hx)))
            simp only [List.cons_append, pctT, this, Bool.and_assoc]
        · rw [plainT_bad _ (by rw [h', hc]; rfl) h37, plainT_bad _ (by rw [h']; rfl) h37]; rfl
theorem plainT_nomark : ∀ (n : Nat) (p : List UInt8), p.length ≤ n → (∀ x ∈ p, x ≠ 63) → plainT true p = plainT false p := by
  intro n
  induction n with
  | zero =>
    intro p hn _
    obtain rfl : p = [] := List.length_eq_zero_iff.1 (by omega)
    rfl
  | succ n ih =>
    intro p hn hp
    cases p with
    | nil => rfl
    | cons c t =>
      have hc : (c == 63) = false := beq_eq_false_iff_ne.2 (hp c (List.mem_cons_self ..))
      have htn : t.length ≤ n := by simpa using hn
      have ht : ∀ x ∈ t, x ≠ 63 := fun x hx => hp x (List.mem_cons_of_mem _ hx)
      by_cases h : isPath c = true
      · rw [plainT_path _ (by rw [h]; rfl), plainT_path _ (by rw [h]; rfl), ih t htn ht]
      · have h' : isPath c = false := by simpa using h
        by_cases h37 : c = 37
        · subst h37
          rw [plainT_pct, plainT_pct]
          match t with
          | [] => rfl
          | [a] => rfl
          | a :: b :: t' => simp only [pctT, ih t' (by simp at htn; omega) (fun x hx => ht x (List.mem_cons_of_mem _ (List.mem_cons_of_mem _ hx)))]
        · rw [plainT_bad _ (by rw [h', hc]; rfl) h37, plainT_bad _ (by rw [h']; rfl) h37]
/-- A target: path, query, and whether it is one. -/
def targetB (l : List UInt8) : List UInt8 × List UInt8 × Bool :=
  let p := (Lib.cut l [63]).1
  let q := (Lib.cut l [63]).2.1
  if decide (l.length ≤ 512) && ((Lib.hasPrefix p [47]) && (plainT false p && plainT true q)) then (p, q, true) else ([], [], false)
theorem pre_47 (p : List UInt8) : Lib.hasPrefix p [47] = (p.head? == some 47) := by
  unfold Lib.hasPrefix
  cases p with
  | nil => rfl
  | cons c t => simp [List.isPrefixOf, Bool.beq_comm]
/-- As the reference reads it. -/
theorem target_ref (l : List UInt8) : targetB l = if decide (l.length ≤ 512) && ((l.head? == some 47) && plainT true l) then ((Lib.cut l [63]).1, (Lib.cut l [63]).2.1, true) else ([], [], false) := by
  unfold targetB
  dsimp only
  rw [pre_47]
  rcases cut_cases l 63 with ⟨h, hno⟩ | ⟨k, hk, h63, hbef, h⟩
  · rw [h]
    have hno' : ∀ x ∈ l, x ≠ 63 := fun x hx => by obtain ⟨j, hj, e⟩ := List.getElem_of_mem hx; rw [← e]; exact hno j hj
    rw [plainT_nomark l.length l (Nat.le_refl _) hno', show plainT true [] = true from rfl, Bool.and_true]
  · rw [h]
    have hl : l = l.take k ++ 63 :: l.drop (k + 1) := by
      conv => lhs; rw [← List.take_append_drop k l, List.drop_eq_getElem_cons hk, h63]
    have hb : ∀ x ∈ l.take k, x ≠ 63 := fun x hx => by
      obtain ⟨j, hj, e⟩ := List.getElem_of_mem hx
      rw [List.length_take] at hj
      rw [List.getElem_take] at e
      rw [← e]; exact hbef j (by omega)
    have hp : plainT true l = (plainT false (l.take k) && plainT true (l.drop (k + 1))) := by
      conv => lhs; rw [hl]
      exact plainT_mark k _ _ (by simp; omega) hb
    have hh : ((l.take k).head? == some 47) = (l.head? == some 47) := by
      cases k with
      | zero =>
        cases l with
        | nil => cases hk
        | cons c t => simp at h63; subst h63; simp
      | succ k => cases l <;> simp
    dsimp only
    rw [hp, hh]
end Go.Proofs.YtfcokldbpjkjpaaGreatDoor
