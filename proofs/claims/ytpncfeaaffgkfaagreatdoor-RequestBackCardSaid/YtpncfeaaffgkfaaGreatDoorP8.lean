/-
  Plain laws of a reply's line; what is put together is read as it was: no program in sight.
-/
import Derived.Test.YtpncfeaaffgkfaaGreatDoorP1
import Derived.Lib.ItoaNum
namespace Go.Proofs.YtpncfeaaffgkfaaGreatDoor

def digB (c : UInt8) : Bool := 48 ≤ c && c ≤ 57
theorem dig_eq (c : UInt8) : digB c = decide (48 ≤ (c.toNat : Int) ∧ (c.toNat : Int) ≤ 57) := by
  rw [Bool.eq_iff_iff]; simp [digB, UInt8.le_iff_toNat_le]; omega
def firstB (c : UInt8) : Bool := 49 ≤ c && c ≤ 53
theorem firstB_eq (c : UInt8) : firstB c = decide (49 ≤ (c.toNat : Int) ∧ (c.toNat : Int) ≤ 53) := by
  rw [Bool.eq_iff_iff]; simp [firstB, UInt8.le_iff_toNat_le]; omega
/-- The code that three bytes spell. -/
def code3 (a b c : UInt8) : Option Nat := if firstB a && (digB b && digB c) then some (100 * (a.toNat - 48) + 10 * (b.toNat - 48) + (c.toNat - 48)) else none
theorem itoa_3 {n : Nat} (h1 : 100 ≤ n) (h2 : n ≤ 999) : Lib.itoa (n : Int) = [UInt8.ofNat (48 + n / 100), UInt8.ofNat (48 + n / 10 % 10), UInt8.ofNat (48 + n % 10)] := by
  unfold Lib.itoa
  rw [if_neg (by omega), Int.toNat_natCast, Lib.decDigits, dif_neg (by omega)]
  rw [Lib.decDigits_two (by omega) (by omega), show n / 10 / 10 = n / 100 by omega]; rfl
theorem code3_some {a b c : UInt8} {n : Nat} (h : code3 a b c = some n) : Lib.atoi [a, b, c] = some (n : Int) ∧ 100 ≤ n ∧ n ≤ 599 ∧ Lib.itoa (n : Int) = [a, b, c] := by
  unfold code3 at h
  split at h
  · rename_i hc
    rw [Bool.and_eq_true, Bool.and_eq_true, firstB_eq, dig_eq, dig_eq, decide_eq_true_eq, decide_eq_true_eq, decide_eq_true_eq] at hc
    obtain ⟨⟨a1, a2⟩, ⟨b1, b2⟩, c1, c2⟩ := hc
    have hn := Option.some.inj h
    have n1 : 100 ≤ n := by omega
    have n2 : n ≤ 599 := by omega
    refine ⟨?_, n1, n2, ?_⟩
    · have e1 : (a == 45) = false := beq_eq_false_iff_ne.2 fun e => by subst e; simp at a1
      have e2 : (a == 43) = false := beq_eq_false_iff_ne.2 fun e => by subst e; simp at a1
      simp only [Lib.atoi, e1, e2, Bool.false_eq_true, if_false]
      have d1 : Lib.digitVal a = some (a.toNat - 48) := by unfold Lib.digitVal; rw [if_pos (by omega)]
      have d2 : Lib.digitVal b = some (b.toNat - 48) := by unfold Lib.digitVal; rw [if_pos (by omega)]
      have d3 : Lib.digitVal c = some (c.toNat - 48) := by unfold Lib.digitVal; rw [if_pos (by omega)]
      have : Lib.decNat [a, b, c] = some n := by
        simp only [Lib.decNat, List.isEmpty_cons, Bool.false_eq_true, if_false, Lib.decFrom, d1, d2, d3]
        congr 1; omega
      rw [this]; rfl
    · rw [itoa_3 n1 (by omega)]
      have ea : UInt8.ofNat (48 + n / 100) = a := by apply UInt8.toNat_inj.1; simp; omega
      have eb : UInt8.ofNat (48 + n / 10 % 10) = b := by apply UInt8.toNat_inj.1; simp; omega
      have ec : UInt8.ofNat (48 + n % 10) = c := by apply UInt8.toNat_inj.1; simp; omega
      rw [ea, eb, ec]
  · cases h
theorem code3_itoa {n : Nat} {a b c : UInt8} (h1 : 100 ≤ n) (h2 : n ≤ 599) (h : Lib.itoa (n : Int) = [a, b, c]) : code3 a b c = some n := by
  rw [itoa_3 h1 (by omega)] at h
  simp only [List.cons.injEq, and_true] at h
  obtain ⟨rfl, rfl, rfl⟩ := h
  unfold code3
  have e1 : (UInt8.ofNat (48 + n / 100)).toNat = 48 + n / 100 := by simp; omega
  have e2 : (UInt8.ofNat (48 + n / 10 % 10)).toNat = 48 + n / 10 % 10 := by simp; omega
  have e3 : (UInt8.ofNat (48 + n % 10)).toNat = 48 + n % 10 := by simp; omega
  rw [if_pos, e1, e2, e3]
  · congr 1; omega
  · rw [Bool.and_eq_true, Bool.and_eq_true, firstB_eq, dig_eq, dig_eq, e1, e2, e3, decide_eq_true_eq, decide_eq_true_eq, decide_eq_true_eq]; omega
/-- What the program asks of three bytes. -/
theorem code3_prog {a b c : UInt8} {v : Int} (h : Lib.atoi [a, b, c] = some v) (h1 : 100 ≤ v) (h2 : v ≤ 599) : (Lib.itoa v = [a, b, c] ∧ code3 a b c = some v.toNat) ∨ (Lib.itoa v ≠ [a, b, c] ∧ code3 a b c = none) := by
  by_cases e : Lib.itoa v = [a, b, c]
  · refine .inl ⟨e, code3_itoa (by omega) (by omega) ?_⟩
    rwa [show ((v.toNat : Nat) : Int) = v by omega]
  · refine .inr ⟨e, ?_⟩
    cases hc : code3 a b c with
    | none => rfl
    | some n =>
      obtain ⟨k1, _, _, k4⟩ := code3_some hc
      rw [k1] at h
      obtain rfl := Option.some.inj h
      exact absurd k4 e
theorem code3_range {a b c : UInt8} {v : Int} (h : Lib.atoi [a, b, c] = some v) (h1 : v < 100 ∨ 599 < v) : code3 a b c = none := by
  cases hc : code3 a b c with
  | none => rfl
  | some n =>
    obtain ⟨k1, k2, k3, _⟩ := code3_some hc
    rw [k1] at h
    obtain rfl := Option.some.inj h
    omega
theorem code3_fail {a b c : UInt8} (h : Lib.atoi [a, b, c] = none) : code3 a b c = none := by
  cases hc : code3 a b c with
  | none => rfl
  | some n => rw [(code3_some hc).1] at h; cases h

def aheadL : List UInt8 := [72, 84, 84, 80, 47, 49, 46, 49, 32]
/-- A reply's line: code, reason, and whether it is one. -/
def statB (l : List UInt8) : Nat × List UInt8 × Bool :=
  if Lib.hasPrefix l aheadL && (decide (13 ≤ l.length) && ((l[12]? == some 32) && (l.drop 13).all isVal)) then
    match code3 (l.getD 9 0) (l.getD 10 0) (l.getD 11 0) with
    | some n => (n, l.drop 13, true)
    | none => (0, [], false)
  else (0, [], false)
theorem statB_code {l : List UInt8} {n : Nat} (h : (Lib.hasPrefix l aheadL && (decide (13 ≤ l.length) && ((l[12]? == some 32) && (l.drop 13).all isVal))) = true) (hc : code3 (l.getD 9 0) (l.getD 10 0) (l.getD 11 0) = some n) : statB l = (n, l.drop 13, true) := by
  unfold statB; rw [if_pos h, hc]
theorem statB_no {l : List UInt8} (h : (Lib.hasPrefix l aheadL && (decide (13 ≤ l.length) && ((l[12]? == some 32) && (l.drop 13).all isVal))) = false ∨ code3 (l.getD 9 0) (l.getD 10 0) (l.getD 11 0) = none) : statB l = (0, [], false) := by
  unfold statB
  rcases h with h | h
  · rw [if_neg (by rw [h]; decide)]
  · split
    · rw [h]
    · rfl
theorem statB_true {l : List UInt8} {n : Nat} {r : List UInt8} (h : statB l = (n, r, true)) : 100 ≤ n ∧ n ≤ 599 ∧ l = aheadL ++ Lib.itoa (n : Int) ++ [32] ++ r ∧ r.all isVal = true := by
  unfold statB at h
  split at h
  · rename_i hc
    simp only [Bool.and_eq_true, decide_eq_true_eq, beq_iff_eq] at hc
    obtain ⟨h1, h2, h3, h4⟩ := hc
    cases h5 : code3 (l.getD 9 0) (l.getD 10 0) (l.getD 11 0) with
    | none => rw [h5] at h; cases h
    | some k =>
      rw [h5] at h
      simp only [Prod.mk.injEq, and_true] at h
      obtain ⟨rfl, rfl⟩ := h
      obtain ⟨_, k2, k3, k4⟩ := code3_some h5
      refine ⟨k2, k3, ?_, h4⟩
      rw [k4]
      obtain ⟨t, rfl⟩ := List.isPrefixOf_iff_prefix.1 h1
      have hl : 4 ≤ t.length := by simp [aheadL] at h2; omega
      match t, hl with
      | a :: b :: c :: d :: t', _ =>
        simp [aheadL] at h3
        subst h3
        simp [aheadL, List.getD]
  · cases h
theorem statB_back {n : Nat} {r : List UInt8} (h1 : 100 ≤ n) (h2 : n ≤ 999) : statB (aheadL ++ Lib.itoa (n : Int) ++ [32] ++ r) = if decide (n ≤ 599) && r.all isVal then (n, r, true) else (0, [], false) := by
  have hi := itoa_3 h1 h2
  obtain ⟨a, ha⟩ : ∃ a, UInt8.ofNat (48 + n / 100) = a := ⟨_, rfl⟩
  obtain ⟨b, hb⟩ : ∃ a, UInt8.ofNat (48 + n / 10 % 10) = a := ⟨_, rfl⟩
  obtain ⟨c, hc⟩ : ∃ a, UInt8.ofNat (48 + n % 10) = a := ⟨_, rfl⟩
  rw [ha, hb, hc] at hi
  have hl : aheadL ++ Lib.itoa (n : Int) ++ [32] ++ r = aheadL ++ a :: b :: c :: 32 :: r := by rw [hi]; simp
  have hcond : (Lib.hasPrefix (aheadL ++ a :: b :: c :: 32 :: r) aheadL && (decide (13 ≤ (aheadL ++ a :: b :: c :: 32 :: r).length) && (((aheadL ++ a :: b :: c :: 32 :: r)[12]? == some 32) && ((aheadL ++ a :: b :: c :: 32 :: r).drop 13).all isVal))) = r.all isVal := by
    have e1 : Lib.hasPrefix (aheadL ++ a :: b :: c :: 32 :: r) aheadL = true := List.isPrefixOf_iff_prefix.2 (List.prefix_append _ _)
    rw [e1]; simp [aheadL]
  have g1 : (aheadL ++ a :: b :: c :: 32 :: r).getD 9 0 = a := rfl
  have g2 : (aheadL ++ a :: b :: c :: 32 :: r).getD 10 0 = b := rfl
  have g3 : (aheadL ++ a :: b :: c :: 32 :: r).getD 11 0 = c := rfl
  rw [hl]
  cases hr : r.all isVal
  · rw [statB_no (.inl (hcond.trans hr)), Bool.and_false]; rfl
  · by_cases h5 : n ≤ 599
    · rw [statB_code (hcond.trans hr) (by rw [g1, g2, g3]; exact code3_itoa h1 h5 hi), decide_eq_true h5]; rfl
    · rw [statB_no (.inr ?_), decide_eq_false h5]
      · rfl
      rw [g1, g2, g3]
      cases h6 : code3 a b c with
      | none => rfl
      | some k =>
        obtain ⟨_, k2, k3, k4⟩ := code3_some h6
        exfalso
        have hk := itoa_3 k2 (by omega)
        rw [k4] at hk
        simp only [List.cons.injEq, and_true] at hk
        rw [← ha, ← hb, ← hc] at hk
        obtain ⟨x1, x2, x3⟩ := hk
        have y1 := congrArg UInt8.toNat x1
        have y2 := congrArg UInt8.toNat x2
        have y3 := congrArg UInt8.toNat x3
        simp at y1 y2 y3
        omega

theorem no32_tok {l : List UInt8} (h : tokB l = true) : ∀ x ∈ l, x ≠ 32 := fun x hx e => by
  unfold tokB at h
  rw [Bool.and_eq_true] at h
  have := List.all_eq_true.1 h.2 x hx
  rw [e, tok_32] at this; cases this
theorem no32_vis {l : List UInt8} (h : l.all isVis = true) : ∀ x ∈ l, x ≠ 32 := fun x hx e => by
  have := List.all_eq_true.1 h x hx
  rw [e, vis_32] at this; cases this
theorem cut_32 {m t : List UInt8} (h : ∀ x ∈ m, x ≠ 32) : Lib.cut (m ++ 32 :: t) [32] = (m, t, true) := by
  have := cut_at (s := m ++ 32 :: t) (c := 32) (k := m.length) (by simp) (by simp) (fun j hj => by
    rw [List.getElem_append_left hj]; exact h _ (List.getElem_mem _))
  rw [this]; simp
/-- What is read of a line is put together as it. -/
theorem lineB_true {l m t : List UInt8} {v : Nat} (h : lineB l = (m, t, v, true)) : tokB m = true ∧ t ≠ [] ∧ t.all isVis = true ∧ (v = 10 ∧ l = m ++ 32 :: (t ++ 32 :: pH10) ∨ v = 11 ∧ l = m ++ 32 :: (t ++ 32 :: pH11)) := by
  unfold lineB at h
  dsimp only at h
  split at h
  · rename_i hc
    simp only [Bool.and_eq_true, Bool.not_eq_true', bne_iff_ne, ne_eq] at hc
    obtain ⟨h1, h2, h3, h4⟩ := hc
    simp only [Prod.mk.injEq, and_true] at h
    obtain ⟨e1, e2, e3⟩ := h
    rcases cut_cases l 32 with ⟨hcut, _⟩ | ⟨k, hk, h32, _, hcut⟩
    · exfalso; apply h4
      rw [hcut]
      show protoN (Lib.cut [] [32]).2.1 = 0
      rw [show Lib.cut [] [32] = ([], [], false) by decide +kernel]; rfl
    · rw [hcut] at e1 e2 e3 h1 h2 h3 h4
      dsimp only at e1 e2 e3 h1 h2 h3 h4
      rcases cut_cases (l.drop (k + 1)) 32 with ⟨hcut2, _⟩ | ⟨j, hj, j32, _, hcut2⟩
      · exfalso; apply h4; rw [hcut2]; rfl
      · rw [hcut2] at e2 e3 h1 h3 h4
        dsimp only at e2 e3 h1 h3 h4
        have hl : l = m ++ 32 :: (t ++ 32 :: ((l.drop (k + 1)).drop (j + 1))) := by
          conv => lhs; rw [← List.take_append_drop k l, List.drop_eq_getElem_cons hk, h32]
          rw [e1]; congr 2
          conv => lhs; rw [← List.take_append_drop j (l.drop (k + 1)), List.drop_eq_getElem_cons hj, j32]
          rw [e2]
        refine ⟨by rw [← e1]; exact h2, ?_, by rw [← e2]; exact h1, ?_⟩
        · rw [← e2]; intro e; rw [e] at h3; cases h3
        · obtain ⟨p, hp⟩ : ∃ p, (l.drop (k + 1)).drop (j + 1) = p := ⟨_, rfl⟩
          rw [hp] at hl e3 h4
          unfold protoN at e3 h4
          by_cases p1 : p = pH10
          · rw [if_pos p1] at e3; exact .inl ⟨e3.symm, by rw [← p1]; exact hl⟩
          · rw [if_neg p1] at e3 h4
            by_cases p2 : p = pH11
            · rw [if_pos p2] at e3; exact .inr ⟨e3.symm, by rw [← p2]; exact hl⟩
            · rw [if_neg p2] at h4; exact absurd rfl h4
  · cases h
theorem lineB_false {l m t : List UInt8} {v : Nat} (h : lineB l = (m, t, v, false)) : m = [] ∧ t = [] ∧ v = 0 := by
  unfold lineB at h
  dsimp only at h
  split at h
  · cases h
  · simp only [Prod.mk.injEq, and_true] at h; exact ⟨h.1.symm, h.2.1.symm, h.2.2.symm⟩
theorem lineB_of {m t : List UInt8} (hm : tokB m = true) (ht : t.all isVis = true) (h0 : t ≠ []) : lineB (m ++ 32 :: (t ++ 32 :: pH10)) = (m, t, 10, true) ∧ lineB (m ++ 32 :: (t ++ 32 :: pH11)) = (m, t, 11, true) := by
  have he : (!t.isEmpty) = true := by cases t <;> simp at h0 ⊢
  constructor
  · rw [lineB_eq (cut_32 (no32_tok hm)) (cut_32 (no32_vis ht)), ht, hm, he]; rfl
  · rw [lineB_eq (cut_32 (no32_tok hm)) (cut_32 (no32_vis ht)), ht, hm, he]; rfl
theorem vis_path {c : UInt8} (h : isPath c = true) : isVis c = true := by
  revert h
  refine u8_all (p := fun c => isPath c = true → isVis c = true) ?_ c
  decide +kernel
theorem vis_hex {c : UInt8} (h : isHex c = true) : isVis c = true := by
  revert h
  refine u8_all (p := fun c => isHex c = true → isVis c = true) ?_ c
  decide +kernel
theorem plainT_cases {q : Bool} {c : UInt8} {t : List UInt8} (h : plainT q (c :: t) = true) : ((isPath c || (q && c == 63)) = true ∧ plainT q t = true) ∨ (c = 37 ∧ ∃ a b t', t = a :: b :: t' ∧ isHex a = true ∧ isHex b = true ∧ plainT q t' = true) := by
  by_cases h1 : (isPath c || (q && c == 63)) = true
  · rw [plainT_path _ h1] at h; exact .inl ⟨h1, h⟩
  · have h1' : (isPath c || (q && c == 63)) = false := by simpa using h1
    by_cases h37 : c = 37
    · subst h37
      rw [plainT_pct] at h
      match t, h with
      | [], h => cases h
      | [a], h => cases h
      | a :: b :: t', h =>
        simp only [pctT, Bool.and_eq_true] at h
        exact .inr ⟨rfl, a, b, t', rfl, h.1.1, h.1.2, h.2⟩
    · rw [plainT_bad _ h1' h37] at h; cases h
theorem plainT_vis : ∀ (n : Nat) (q : Bool) (l : List UInt8), l.length ≤ n → plainT q l = true → l.all isVis = true := by
  intro n
  induction n with
  | zero => intro q l hn _; obtain rfl : l = [] := List.length_eq_zero_iff.1 (by omega); rfl
  | succ n ih =>
    intro q l hn h
    cases l with
    | nil => rfl
    | cons c t =>
      rcases plainT_cases h with ⟨h1, h2⟩ | ⟨rfl, a, b, t', rfl, ha, hb, h2⟩
      · have hc : isVis c = true := by
          rw [Bool.or_eq_true, Bool.and_eq_true] at h1
          rcases h1 with h1 | ⟨_, h1⟩
          · exact vis_path h1
          · rw [beq_iff_eq.1 h1]; decide +kernel
        rw [List.all_cons, hc, ih q t (by simpa using hn) h2]; rfl
      · rw [List.all_cons, List.all_cons, List.all_cons, vis_hex ha, vis_hex hb, ih q t' (by simp at hn; omega) h2]; decide +kernel
theorem targetB_true {l p q : List UInt8} (h : targetB l = (p, q, true)) : l.length ≤ 512 ∧ p.head? = some 47 ∧ plainT false p = true ∧ plainT true q = true ∧ (∀ x ∈ p, x ≠ 63) ∧ ((l = p ∧ q = []) ∨ l = p ++ 63 :: q) := by
  unfold targetB at h
  dsimp only at h
  split at h
  · rename_i hc
    simp only [Prod.mk.injEq, and_true] at h
    obtain ⟨e1, e2⟩ := h
    rw [e1, e2, pre_47] at hc
    simp only [Bool.and_eq_true, decide_eq_true_eq, beq_iff_eq] at hc
    obtain ⟨h1, h2, h3, h4⟩ := hc
    rcases cut_cases l 63 with ⟨hcut, hno⟩ | ⟨k, hk, h63, hbef, hcut⟩
    · rw [hcut] at e1 e2
      dsimp only at e1 e2
      subst e1
      refine ⟨h1, h2, h3, h4, fun x hx => ?_, .inl ⟨rfl, e2.symm⟩⟩
      obtain ⟨j, hj, e⟩ := List.getElem_of_mem hx
      rw [← e]; exact hno j hj
    · rw [hcut] at e1 e2
      dsimp only at e1 e2
      refine ⟨h1, h2, h3, h4, fun x hx => ?_, .inr ?_⟩
      · rw [← e1] at hx
        obtain ⟨j, hj, e⟩ := List.getElem_of_mem hx
        rw [List.length_take] at hj
        rw [List.getElem_take] at e
        rw [← e]; exact hbef j (by omega)
      · conv => lhs; rw [← List.take_append_drop k l, List.drop_eq_getElem_cons hk, h63]
        rw [e1, e2]
  · cases h
theorem targetB_false {l p q : List UInt8} (h : targetB l = (p, q, false)) : p = [] ∧ q = [] := by
  unfold targetB at h
  dsimp only at h
  split at h
  · cases h
  · simp only [Prod.mk.injEq, and_true] at h; exact ⟨h.1.symm, h.2.symm⟩
theorem target_vis {l p q : List UInt8} (h : targetB l = (p, q, true)) : l.all isVis = true ∧ l ≠ [] := by
  obtain ⟨_, h2, h3, h4, _, h6⟩ := targetB_true h
  have hp := plainT_vis p.length false p (Nat.le_refl _) h3
  have hq := plainT_vis q.length true q (Nat.le_refl _) h4
  have hne : p ≠ [] := fun e => by rw [e] at h2; cases h2
  rcases h6 with ⟨rfl, _⟩ | rfl
  · exact ⟨hp, hne⟩
  · refine ⟨?_, by simp⟩
    rw [List.all_append, List.all_cons, hp, hq]; decide +kernel
theorem cut_63 {p q : List UInt8} (h : ∀ x ∈ p, x ≠ 63) : Lib.cut (p ++ 63 :: q) [63] = (p, q, true) := by
  have := cut_at (s := p ++ 63 :: q) (c := 63) (k := p.length) (by simp) (by simp) (fun j hj => by
    rw [List.getElem_append_left hj]; exact h _ (List.getElem_mem _))
  rw [this]; simp
theorem cut_no63 {p : List UInt8} (h : ∀ x ∈ p, x ≠ 63) : Lib.cut p [63] = (p, [], false) := cut_none fun _j _hj => h _ (List.getElem_mem _)
theorem target_join {p q : List UInt8} (h1 : p.head? = some 47) (h2 : plainT false p = true) (h3 : plainT true q = true) (h4 : ∀ x ∈ p, x ≠ 63) : targetB (p ++ 63 :: q) = if decide (p.length + 1 + q.length ≤ 512) then (p, q, true) else ([], [], false) := by
  unfold targetB
  rw [cut_63 h4]
  dsimp only
  rw [pre_47, h1, h2, h3]
  simp [Nat.add_assoc, Nat.add_comm 1]
theorem target_path {p : List UInt8} (h1 : p.head? = some 47) (h4 : ∀ x ∈ p, x ≠ 63) : targetB p = if decide (p.length ≤ 512) && plainT false p then (p, [], true) else ([], [], false) := by
  unfold targetB
  rw [cut_no63 h4]
  dsimp only
  rw [pre_47, h1, show plainT true [] = true from rfl]
  simp
theorem hex_37 {c : UInt8} (h : isHex c = true) : c ≠ 37 := fun e => by subst e; revert h; decide +kernel
theorem path_37' {c : UInt8} (h : isPath c = true) : c ≠ 37 := fun e => by subst e; rw [path_37] at h; cases h
theorem plainT_app : ∀ (n : Nat) (p x : List UInt8), p.length ≤ n → plainT false p = true → plainT false (p ++ x) = plainT false x := by
  intro n
  induction n with
  | zero => intro p x hn _; obtain rfl : p = [] := List.length_eq_zero_iff.1 (by omega); rfl
  | succ n ih =>
    intro p x hn h
    cases p with
    | nil => rfl
    | cons c t =>
      rcases plainT_cases h with ⟨h1, h2⟩ | ⟨rfl, a, b, t', rfl, ha, hb, h2⟩
      · rw [List.cons_append, plainT_path _ h1, ih t x (by simpa using hn) h2]
      · rw [List.cons_append, plainT_pct, List.cons_append, List.cons_append]
        simp only [pctT, ha, hb, Bool.true_and]
        exact ih t' x (by simp at hn; omega) h2
/-- Does a cut at k part a percent sign from its digits? -/
def psplitB (p : List UInt8) (k : Nat) : Bool := (p[k - 1]? == some 37) || (decide (1 < k) && (p[k - 2]? == some 37))
theorem plainT_cut : ∀ (n : Nat) (p : List UInt8) (k : Nat), p.length ≤ n → plainT false p = true → 1 ≤ k → k ≤ p.length → plainT false (p.take k) = !psplitB p k := by
  intro n
  induction n with
  | zero => intro p k hn _ h1 h2; omega
  | succ n ih =>
    intro p k hn h h1 h2
    cases p with
    | nil => simp at h2; omega
    | cons c t =>
      rcases plainT_cases h with ⟨hc, ht⟩ | ⟨rfl, a, b, t', rfl, ha, hb, ht⟩
      · have hc37 : c ≠ 37 := by
          rw [Bool.false_and, Bool.or_false] at hc; exact path_37' hc
        match k, h1 with
        | 1, _ =>
          rw [List.take_succ_cons, plainT_path _ hc]
          simp [psplitB, hc37, plainT]
        | k + 2, _ =>
          rw [List.take_succ_cons, plainT_path _ hc, ih t (k + 1) (by simpa using hn) ht (by omega) (by simpa using h2)]
          unfold psplitB
          cases k with
          | zero => simp [hc37]
          | succ k => simp
      · have a37 := hex_37 ha
        have b37 := hex_37 hb
        match k, h1 with
        | 1, _ => simp [psplitB, plainT_pct, pctT]
        | 2, _ => simp [psplitB, plainT_pct, pctT]
        | 3, _ => simp [psplitB, plainT_pct, pctT, ha, hb, a37, b37, plainT]
        | k + 4, _ =>
          have := ih t' (k + 1) (by simp at hn; omega) ht (by omega) (by simp at h2; omega)
          rw [List.take_succ_cons, List.take_succ_cons, List.take_succ_cons, plainT_pct]
          simp only [pctT, ha, hb, Bool.true_and]
          rw [this]
          unfold psplitB
          cases k with
          | zero => simp [b37]
          | succ k => simp
end Go.Proofs.YtpncfeaaffgkfaaGreatDoor
