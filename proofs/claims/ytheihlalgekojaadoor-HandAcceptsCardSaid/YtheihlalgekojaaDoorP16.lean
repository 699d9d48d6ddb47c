/-
  Plain laws of SHA-1: no program in sight.
-/
import Derived.Test.YtheihlalgekojaaDoorP0
namespace Go.Proofs.YtheihlalgekojaaDoor
def rotW (n x : Nat) : Nat := (x * 2 ^ n) % 4294967296 ||| x / 2 ^ (32 - n)
def addW (a b : Nat) : Nat := (a + b) % 4294967296
structure W5 where
  a : Nat
  b : Nat
  c : Nat
  d : Nat
  e : Nat
structure W5.ok (x : W5) : Prop where
  a : x.a < 4294967296
  b : x.b < 4294967296
  c : x.c < 4294967296
  d : x.d < 4294967296
  e : x.e < 4294967296
def first5 : W5 := ⟨1732584193, 4023233417, 2562383102, 271733878, 3285377520⟩
theorem first_ok : first5.ok := ⟨by decide, by decide, by decide, by decide, by decide⟩
def mixF (t b c d : Nat) : Nat :=
  if t < 20 then (b &&& c) ^^^ ((4294967295 ^^^ b) &&& d) else if t < 40 then b ^^^ c ^^^ d else if t < 60 then (b &&& c) ^^^ (b &&& d) ^^^ (c &&& d) else b ^^^ c ^^^ d
def mixK (t : Nat) : Nat := if t < 20 then 1518500249 else if t < 40 then 1859775393 else if t < 60 then 2400959708 else 3395469782
def roundW (t w : Nat) (x : W5) : W5 := ⟨addW (addW (addW (addW (rotW 5 x.a) (mixF t x.b x.c x.d)) x.e) (mixK t)) w, x.a, rotW 30 x.b, x.c, x.d⟩
def byteN (s : List UInt8) (i : Nat) : Nat := (s.getD i 0).toNat
def word0 (s : List UInt8) (t : Nat) : Nat := ((byteN s (4 * t) * 256 + byteN s (4 * t + 1)) * 256 + byteN s (4 * t + 2)) * 256 + byteN s (4 * t + 3)
/-- The first t words of a block's rounds, the newest first. -/
def schedR (s : List UInt8) : Nat → List Nat
  | 0 => []
  | t + 1 => (if t < 16 then word0 s t else rotW 1 ((schedR s t).getD 2 0 ^^^ (schedR s t).getD 7 0 ^^^ (schedR s t).getD 13 0 ^^^ (schedR s t).getD 15 0)) :: schedR s t
def wS (s : List UInt8) (t : Nat) : Nat := (schedR s (t + 1)).getD 0 0
theorem sched_at (s : List UInt8) : ∀ t i, i < t → (schedR s t).getD i 0 = wS s (t - 1 - i)
  | 0, i, h => by omega
  | t + 1, 0, _ => rfl
  | t + 1, i + 1, h => by
    rw [show t + 1 - 1 - (i + 1) = t - 1 - i by omega, ← sched_at s t i (by omega)]
    simp [schedR]
theorem wS_low (s : List UInt8) {t : Nat} (h : t < 16) : wS s t = word0 s t := by simp [wS, schedR, h]
theorem wS_high (s : List UInt8) {t : Nat} (h : ¬ t < 16) : wS s t = rotW 1 (wS s (t - 3) ^^^ wS s (t - 8) ^^^ wS s (t - 14) ^^^ wS s (t - 16)) := by
  have e : wS s t = rotW 1 ((schedR s t).getD 2 0 ^^^ (schedR s t).getD 7 0 ^^^ (schedR s t).getD 13 0 ^^^ (schedR s t).getD 15 0) := by simp [wS, schedR, h]
  rw [e, sched_at s t 2 (by omega), sched_at s t 7 (by omega), sched_at s t 13 (by omega), sched_at s t 15 (by omega)]
  rw [show t - 1 - 2 = t - 3 by omega, show t - 1 - 7 = t - 8 by omega, show t - 1 - 13 = t - 14 by omega, show t - 1 - 15 = t - 16 by omega]
theorem lor_lt32 {a b : Nat} (ha : a < 4294967296) (hb : b < 4294967296) : a ||| b < 4294967296 := Nat.or_lt_two_pow (n := 32) ha hb
theorem xor_lt32 {a b : Nat} (ha : a < 4294967296) (hb : b < 4294967296) : a ^^^ b < 4294967296 := Nat.xor_lt_two_pow (n := 32) ha hb
theorem and_lt32 {a b : Nat} (ha : a < 4294967296) : a &&& b < 4294967296 := Nat.lt_of_le_of_lt Nat.and_le_left ha
theorem rot_lt (n : Nat) {x : Nat} (h : x < 4294967296) : rotW n x < 4294967296 :=
  lor_lt32 (Nat.mod_lt _ (by decide)) (Nat.lt_of_le_of_lt (Nat.div_le_self _ _) h)
theorem add_lt (a b : Nat) : addW a b < 4294967296 := Nat.mod_lt _ (by decide)
theorem byte_lt (s : List UInt8) (i : Nat) : byteN s i < 256 := UInt8.toNat_lt _
theorem word0_lt (s : List UInt8) (t : Nat) : word0 s t < 4294967296 := by
  have := byte_lt s (4 * t); have := byte_lt s (4 * t + 1); have := byte_lt s (4 * t + 2); have := byte_lt s (4 * t + 3)
  unfold word0; omega
theorem wS_lt (s : List UInt8) : ∀ t, wS s t < 4294967296 := by
  intro t
  induction t using Nat.strongRecOn with
  | _ t ih =>
    by_cases h : t < 16
    · rw [wS_low s h]; exact word0_lt s t
    · rw [wS_high s h]
      exact rot_lt 1 (xor_lt32 (xor_lt32 (xor_lt32 (ih _ (by omega)) (ih _ (by omega))) (ih _ (by omega))) (ih _ (by omega)))
theorem mixF_lt (t : Nat) {b c d : Nat} (hb : b < 4294967296) (hc : c < 4294967296) (hd : d < 4294967296) : mixF t b c d < 4294967296 := by
  unfold mixF
  split
  · exact xor_lt32 (and_lt32 hb) (and_lt32 (xor_lt32 (by decide) hb))
  · split
    · exact xor_lt32 (xor_lt32 hb hc) hd
    · split
      · exact xor_lt32 (xor_lt32 (and_lt32 hb) (and_lt32 hb)) (and_lt32 hc)
      · exact xor_lt32 (xor_lt32 hb hc) hd
theorem mixK_lt (t : Nat) : mixK t < 4294967296 := by
  unfold mixK; repeat' split
  all_goals decide
theorem W5.ok.round {x : W5} (h : x.ok) (t w : Nat) : (roundW t w x).ok := ⟨add_lt _ _, h.a, rot_lt 30 h.b, h.c, h.d⟩
def roundsW (s : List UInt8) (x : W5) : Nat → W5
  | 0 => x
  | t + 1 => roundW t (wS s t) (roundsW s x t)
theorem rounds_ok (s : List UInt8) {x : W5} (h : x.ok) : ∀ t, (roundsW s x t).ok
  | 0 => h
  | t + 1 => (rounds_ok s h t).round _ _
def plus5 (h x : W5) : W5 := ⟨addW h.a x.a, addW h.b x.b, addW h.c x.c, addW h.d x.d, addW h.e x.e⟩
theorem plus_ok (h x : W5) : (plus5 h x).ok := ⟨add_lt _ _, add_lt _ _, add_lt _ _, add_lt _ _, add_lt _ _⟩
/-- The words behind a block. -/
def comp5 (h : W5) (s : List UInt8) : W5 := plus5 h (roundsW s h 80)
def absorbN : Nat → W5 → List UInt8 → W5 × List UInt8
  | 0, h, l => (h, l)
  | n + 1, h, l => absorbN n (comp5 h (l.take 64)) (l.drop 64)
/-- What the whole blocks of a text make of the words, and what is left. -/
def absorb (h : W5) (l : List UInt8) : W5 × List UInt8 := absorbN (l.length / 64) h l
theorem absorb_short {h : W5} {l : List UInt8} (hl : l.length < 64) : absorb h l = (h, l) := by
  unfold absorb; rw [Nat.div_eq_of_lt hl]; rfl
theorem absorb_long {h : W5} {l : List UInt8} (hl : 64 ≤ l.length) : absorb h l = absorb (comp5 h (l.take 64)) (l.drop 64) := by
  unfold absorb
  rw [List.length_drop, show l.length / 64 = (l.length - 64) / 64 + 1 by omega]; rfl
theorem absorb_ok : ∀ (n : Nat) {h : W5} {l : List UInt8}, h.ok → l.length ≤ n → (absorb h l).1.ok ∧ (absorb h l).2.length < 64
  | 0, h, l, hh, hl => by rw [absorb_short (by omega)]; exact ⟨hh, by show l.length < 64; omega⟩
  | n + 1, h, l, hh, hl => by
    by_cases h64 : 64 ≤ l.length
    · rw [absorb_long h64]; exact absorb_ok n (plus_ok _ _) (by rw [List.length_drop]; omega)
    · rw [absorb_short (by omega)]; exact ⟨hh, by show l.length < 64; omega⟩
theorem absorb_app : ∀ (n : Nat) (h : W5) (x y : List UInt8), x.length ≤ n → absorb h (x ++ y) = absorb (absorb h x).1 ((absorb h x).2 ++ y)
  | 0, h, x, y, hl => by rw [absorb_short (l := x) (by omega)]
  | n + 1, h, x, y, hl => by
    by_cases h64 : 64 ≤ x.length
    · rw [absorb_long h64, absorb_long (l := x ++ y) (by rw [List.length_append]; omega)]
      rw [List.take_append_of_le_length h64, List.drop_append_of_le_length h64]
      exact absorb_app n _ _ _ (by rw [List.length_drop]; omega)
    · rw [absorb_short (l := x) (by omega)]
theorem absorb_mod : ∀ (n : Nat) (h : W5) (l : List UInt8), l.length ≤ n → (absorb h l).2.length = l.length % 64
  | 0, h, l, hl => by rw [absorb_short (by omega)]; show l.length = _; omega
  | n + 1, h, l, hl => by
    by_cases h64 : 64 ≤ l.length
    · rw [absorb_long h64, absorb_mod n _ _ (by rw [List.length_drop]; omega), List.length_drop]; omega
    · rw [absorb_short (by omega)]; show l.length = _; omega
/-- The lowest n bytes of a number, the highest one first. -/
def beB (x : Nat) : Nat → List UInt8
  | 0 => []
  | n + 1 => UInt8.ofNat (x / 256 ^ n) :: beB x n
theorem beB_len (x : Nat) : ∀ n, (beB x n).length = n
  | 0 => rfl
  | n + 1 => by simp [beB, beB_len x n]
def zerosN (n : Nat) : Nat := (120 - (n + 1) % 64) % 64
def shaPad (s : List UInt8) : List UInt8 := s ++ [128] ++ List.replicate (zerosN s.length) 0 ++ beB (s.length * 8) 8
def outL (h : W5) : List UInt8 := beB h.a 4 ++ beB h.b 4 ++ beB h.c 4 ++ beB h.d 4 ++ beB h.e 4
theorem out_len (h : W5) : (outL h).length = 20 := by simp [outL, beB_len]
def shaL (s : List UInt8) : List UInt8 := outL (absorb first5 (shaPad s)).1
theorem pad_len (s : List UInt8) : (shaPad s).length % 64 = 0 := by
  simp only [shaPad, List.length_append, List.length_cons, List.length_nil, List.length_replicate, beB_len, zerosN]; omega
theorem sha_eval : shaL [97, 98, 99] = [169, 153, 62, 54, 71, 6, 129, 106, 186, 62, 37, 113, 120, 80, 194, 108, 156, 208, 216, 157] := by decide +kernel
end Go.Proofs.YtheihlalgekojaaDoor
