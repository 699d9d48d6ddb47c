/-
  Plain laws of SHA-1: no program in sight.
  Plain laws of base64: no program in sight.
  Plain laws of base64: letters back to bytes: no program in sight.
  Plain laws of base64: what was put into letters is read as it was.
-/
import Derived.Test.YtheihlalgekojaaGreatDoorP0
namespace Go.Proofs.YtheihlalgekojaaGreatDoor
def rotW (n x : Nat) : Nat := (x * 2 ^ n) % 4294967296 ||| x / 2 ^ (32 - n)
def addW (a b : Nat) : Nat := (a + b) % 4294967296
structure W5 where
  a : Nat
  b : Nat
  c : Nat
  d : Nat
  e : Nat
structure W5.ok (x : W5) : Prop where
  a : x.a < 4294967296
  b : x.b < 4294967296
  c : x.c < 4294967296
  d : x.d < 4294967296
  e : x.e < 4294967296
def first5 : W5 := ⟨1732584193, 4023233417, 2562383102, 271733878, 3285377520⟩
theorem first_ok : first5.ok := ⟨by decide, by decide, by decide, by decide, by decide⟩
def mixF (t b c d : Nat) : Nat :=
  if t < 20 then (b &&& c) ^^^ ((4294967295 ^^^ b) &&& d) else if t < 40 then b ^^^ c ^^^ d else if t < 60 then (b &&& c) ^^^ (b &&& d) ^^^ (c &&& d) else b ^^^ c ^^^ d
def mixK (t : Nat) : Nat := if t < 20 then 1518500249 else if t < 40 then 1859775393 else if t < 60 then 2400959708 else 3395469782
def roundW (t w : Nat) (x : W5) : W5 := ⟨addW (addW (addW (addW (rotW 5 x.a) (mixF t x.b x.c x.d)) x.e) (mixK t)) w, x.a, rotW 30 x.b, x.c, x.d⟩
def byteN (s : List UInt8) (i : Nat) : Nat := (s.getD i 0).toNat
def word0 (s : List UInt8) (t : Nat) : Nat := ((byteN s (4 * t) * 256 + byteN s (4 * t + 1)) * 256 + byteN s (4 * t + 2)) * 256 + byteN s (4 * t + 3)
/-- The first t words of a block's rounds, the newest first. -/
def schedR (s : List UInt8) : Nat → List Nat
  | 0 => []
  | t + 1 => (if t < 16 then word0 s t else rotW 1 ((schedR s t).getD 2 0 ^^^ (schedR s t).getD 7 0 ^^^ (schedR s t).getD 13 0 ^^^ (schedR s t).getD 15 0)) :: schedR s t
def wS (s : List UInt8) (t : Nat) : Nat := (schedR s (t + 1)).getD 0 0
theorem sched_at (s : List UInt8) : ∀ t i, i < t → (schedR s t).getD i 0 = wS s (t - 1 - i)
  | 0, i, h => by omega
  | t + 1, 0, _ => rfl
  | t + 1, i + 1, h => by
    rw [show t + 1 - 1 - (i + 1) = t - 1 - i by omega, ← sched_at s t i (by omega)]
    simp [schedR]
theorem wS_low (s : List UInt8) {t : Nat} (h : t < 16) : wS s t = word0 s t := by simp [wS, schedR, h]
theorem wS_high (s : List UInt8) {t : Nat} (h : ¬ t < 16) : wS s t = rotW 1 (wS s (t - 3) ^^^ wS s (t - 8) ^^^ wS s (t - 14) ^^^ wS s (t - 16)) := by
  have e : wS s t = rotW 1 ((schedR s t).getD 2 0 ^^^ (schedR s t).getD 7 0 ^^^ (schedR s t).getD 13 0 ^^^ (schedR s t).getD 15 0) := by simp [wS, schedR, h]
  rw [e, sched_at s t 2 (by omega), sched_at s t 7 (by omega), sched_at s t 13 (by omega), sched_at s t 15 (by omega)]
  rw [show t - 1 - 2 = t - 3 by omega, show t - 1 - 7 = t - 8 by omega, show t - 1 - 13 = t - 14 by omega, show t - 1 - 15 = t - 16 by omega]
theorem lor_lt32 {a b : Nat} (ha : a < 4294967296) (hb : b < 4294967296) : a ||| b < 4294967296 := Nat.or_lt_two_pow (n := 32) ha hb
theorem xor_lt32 {a b : Nat} (ha : a < 4294967296) (hb : b < 4294967296) : a ^^^ b < 4294967296 := Nat.xor_lt_two_pow (n := 32) ha hb
theorem and_lt32 {a b : Nat} (ha : a < 4294967296) : a &&& b < 4294967296 := Nat.lt_of_le_of_lt Nat.and_le_left ha
theorem rot_lt (n : Nat) {x : Nat} (h : x < 4294967296) : rotW n x < 4294967296 :=
  lor_lt32 (Nat.mod_lt _ (by decide)) (Nat.lt_of_le_of_lt (Nat.div_le_self _ _) h)
theorem add_lt (a b : Nat) : addW a b < 4294967296 := Nat.mod_lt _ (by decide)
theorem byte_lt (s : List UInt8) (i : Nat) : byteN s i < 256 := UInt8.toNat_lt _
theorem word0_lt (s : List UInt8) (t : Nat) : word0 s t < 4294967296 := by
  have := byte_lt s (4 * t); have := byte_lt s (4 * t + 1); have := byte_lt s (4 * t + 2); have := byte_lt s (4 * t + 3)
  unfold word0; omega
theorem wS_lt (s : List UInt8) : ∀ t, wS s t < 4294967296 := by
  intro t
  induction t using Nat.strongRecOn with
  | _ t ih =>
    by_cases h : t < 16
    · rw [wS_low s h]; exact word0_lt s t
    · rw [wS_high s h]
      exact rot_lt 1 (xor_lt32 (xor_lt32 (xor_lt32 (ih _ (by omega)) (ih _ (by omega))) (ih _ (by omega))) (ih _ (by omega)))
theorem mixF_lt (t : Nat) {b c d : Nat} (hb : b < 4294967296) (hc : c < 4294967296) (hd : d < 4294967296) : mixF t b c d < 4294967296 := by
  unfold mixF
  split
  · exact xor_lt32 (and_lt32 hb) (and_lt32 (xor_lt32 (by decide) hb))
  · split
    · exact xor_lt32 (xor_lt32 hb hc) hd
    · split
      · exact xor_lt32 (xor_lt32 (and_lt32 hb) (and_lt32 hb)) (and_lt32 hc)
      · exact xor_lt32 (xor_lt32 hb hc) hd
theorem mixK_lt (t : Nat) : mixK t < 4294967296 := by
  unfold mixK; repeat' split
  all_goals decide
theorem W5.ok.round {x : W5} (h : x.ok) (t w : Nat) : (roundW t w x).ok := ⟨add_lt _ _, h.a, rot_lt 30 h.b, h.c, h.d⟩
def roundsW (s : List UInt8) (x : W5) : Nat → W5
  | 0 => x
  | t + 1 => roundW t (wS s t) (roundsW s x t)
theorem rounds_ok (s : List UInt8) {x : W5} (h : x.ok) : ∀ t, (roundsW s x t).ok
  | 0 => h
  | t + 1 => (rounds_ok s h t).round _ _
def plus5 (h x : W5) : W5 := ⟨addW h.a x.a, addW h.b x.b, addW h.c x.c, addW h.d x.d, addW h.e x.e⟩
theorem plus_ok (h x : W5) : (plus5 h x).ok := ⟨add_lt _ _, add_lt _ _, add_lt _ _, add_lt _ _, add_lt _ _⟩
/-- The words behind a block. -/
def comp5 (h : W5) (s : List UInt8) : W5 := plus5 h (roundsW s h 80)
def absorbN : Nat → W5 → List UInt8 → W5 × List UInt8
  | 0, h, l => (h, l)
  | n + 1, h, l => absorbN n (comp5 h (l.take 64)) (l.drop 64)
/-- What the whole blocks of a text make of the words, and what is left. -/
def absorb (h : W5) (l : List UInt8) : W5 × List UInt8 := absorbN (l.length / 64) h l
theorem absorb_short {h : W5} {l : List UInt8} (hl : l.length < 64) : absorb h l = (h, l) := by
  unfold absorb; rw [Nat.div_eq_of_lt hl]; rfl
theorem absorb_long {h : W5} {l : List UInt8} (hl : 64 ≤ l.length) : absorb h l = absorb (comp5 h (l.take 64)) (l.drop 64) := by
  unfold absorb
  rw [List.length_drop, show l.length / 64 = (l.length - 64) / 64 + 1 by omega]; rfl
theorem absorb_ok : ∀ (n : Nat) {h : W5} {l : List UInt8}, h.ok → l.length ≤ n → (absorb h l).1.ok ∧ (absorb h l).2.length < 64
  | 0, h, l, hh, hl => by rw [absorb_short (by omega)]; exact ⟨hh, by show l.length < 64; omega⟩
  | n + 1, h, l, hh, hl => by
    by_cases h64 : 64 ≤ l.length
    · rw [absorb_long h64]; exact absorb_ok n (plus_ok _ _) (by rw [List.length_drop]; omega)
    · rw [absorb_short (by omega)]; exact ⟨hh, by show l.length < 64; omega⟩
theorem absorb_app : ∀ (n : Nat) (h : W5) (x y : List UInt8), x.length ≤ n → absorb h (x ++ y) = absorb (absorb h x).1 ((absorb h x).2 ++ y)
  | 0, h, x, y, hl => by rw [absorb_short (l := x) (by omega)]
  | n + 1, h, x, y, hl => by
    by_cases h64 : 64 ≤ x.length
    · rw [absorb_long h64, absorb_long (l := x ++ y) (by rw [List.length_append]; omega)]
      rw [List.take_append_of_le_length h64, List.drop_append_of_le_length h64]
      exact absorb_app n _ _ _ (by rw [List.length_drop]; omega)
    · rw [absorb_short (l := x) (by omega)]
theorem absorb_mod : ∀ (n : Nat) (h : W5) (l : List UInt8), l.length ≤ n → (absorb h l).2.length = l.length % 64
  | 0, h, l, hl => by rw [absorb_short (by omega)]; show l.length = _; omega
  | n + 1, h, l, hl => by
    by_cases h64 : 64 ≤ l.length
    · rw [absorb_long h64, absorb_mod n _ _ (by rw [List.length_drop]; omega), List.length_drop]; omega
    · rw [absorb_short (by omega)]; show l.length = _; omega
/-- The lowest n bytes of a number, the highest one first. -/
def beB (x : Nat) : Nat → List UInt8
  | 0 => []
  | n + 1 => UInt8.ofNat (x / 256 ^ n) :: beB x n
theorem beB_len (x : Nat) : ∀ n, (beB x n).length = n
  | 0 => rfl
  | n + 1 => by simp [beB, beB_len x n]
def zerosN (n : Nat) : Nat := (120 - (n + 1) % 64) % 64
def shaPad (s : List UInt8) : List UInt8 := s ++ [128] ++ List.replicate (zerosN s.length) 0 ++ beB (s.length * 8) 8
def outL (h : W5) : List UInt8 := beB h.a 4 ++ beB h.b 4 ++ beB h.c 4 ++ beB h.d 4 ++ beB h.e 4
theorem out_len (h : W5) : (outL h).length = 20 := by simp [outL, beB_len]
def shaL (s : List UInt8) : List UInt8 := outL (absorb first5 (shaPad s)).1
theorem pad_len (s : List UInt8) : (shaPad s).length % 64 = 0 := by
  simp only [shaPad, List.length_append, List.length_cons, List.length_nil, List.length_replicate, beB_len, zerosN]; omega
theorem sha_eval : shaL [97, 98, 99] = [169, 153, 62, 54, 71, 6, 129, 106, 186, 62, 37, 113, 120, 80, 194, 108, 156, 208, 216, 157] := by decide +kernel
end Go.Proofs.YtheihlalgekojaaGreatDoor
namespace Go.Proofs.YtheihlalgekojaaGreatDoor
def lettersL : List UInt8 := [65, 66, 67, 68, 69, 70, 71, 72, 73, 74, 75, 76, 77, 78, 79, 80, 81, 82, 83, 84, 85, 86, 87, 88, 89, 90, 97, 98, 99, 100, 101, 102, 103, 104, 105, 106, 107, 108, 109, 110, 111, 112, 113, 114, 115, 116, 117, 118, 119, 120, 121, 122, 48, 49, 50, 51, 52, 53, 54, 55, 56, 57, 43, 47]
def letB (n : Nat) : UInt8 := lettersL.getD n 0
/-- The number of a text's first k bytes. -/
def bigN (s : List UInt8) : Nat → Nat
  | 0 => 0
  | k + 1 => bigN s k * 256 + byteN s k
theorem bigN_lt (s : List UInt8) : ∀ k, bigN s k < 256 ^ k
  | 0 => by simp [bigN]
  | k + 1 => by
    have := bigN_lt s k
    have := byte_lt s k
    rw [Nat.pow_succ]; unfold bigN; omega
/-- The letter number i of a group of n bytes, its bits being X. -/
def grpB (n X i : Nat) : UInt8 := if i ≤ n then letB (X / 64 ^ (3 - i) % 64) else 61
def grpN (n X : Nat) : Nat → List UInt8
  | 0 => []
  | i + 1 => grpN n X i ++ [grpB n X i]
theorem grpN_len (n X : Nat) : ∀ i, (grpN n X i).length = i
  | 0 => rfl
  | i + 1 => by rw [grpN, List.length_append, grpN_len n X i]; rfl
/-- The letters of a text's first three bytes, or of what there is. -/
def encG (l : List UInt8) : List UInt8 := grpN (min 3 l.length) (bigN l 3) 4
def encK : Nat → List UInt8 → List UInt8
  | 0, _ => []
  | k + 1, l => if l.isEmpty then [] else encG l ++ encK k (l.drop 3)
/-- A text in letters. -/
def encL (l : List UInt8) : List UInt8 := encK l.length l
theorem encK_fuel : ∀ (k m : Nat) (l : List UInt8), l.length ≤ k → l.length ≤ m → encK k l = encK m l
  | 0, m, l, h, _ => by
    have : l = [] := List.eq_nil_of_length_eq_zero (by omega)
    subst this
    cases m <;> rfl
  | k + 1, 0, l, _, h => by
    have : l = [] := List.eq_nil_of_length_eq_zero (by omega)
    subst this; rfl
  | k + 1, m + 1, l, h1, h2 => by
    unfold encK
    cases l with
    | nil => rfl
    | cons c t =>
      rw [encK_fuel k m _ (by rw [List.length_drop]; simp at h1 ⊢; omega) (by rw [List.length_drop]; simp at h2 ⊢; omega)]
theorem encL_nil : encL [] = [] := rfl
theorem encL_step {l : List UInt8} (h : 0 < l.length) : encL l = encG l ++ encL (l.drop 3) := by
  have e : l.length = (l.length - 1) + 1 := by omega
  unfold encL
  rw [e]
  conv => lhs; unfold encK
  rw [if_neg (by simpa using List.length_pos_iff.1 h)]
  rw [encK_fuel (l.length - 1) (l.drop 3).length _ (by rw [List.length_drop]; omega) (Nat.le_refl _)]
theorem encG_len (l : List UInt8) : (encG l).length = 4 := grpN_len _ _ _
theorem encL_len : ∀ (k : Nat) (l : List UInt8), l.length ≤ k → (encL l).length = (l.length + 2) / 3 * 4
  | 0, l, h => by
    have : l = [] := List.eq_nil_of_length_eq_zero (by omega)
    subst this; rfl
  | k + 1, l, h => by
    by_cases h0 : 0 < l.length
    · rw [encL_step h0, List.length_append, encG_len, encL_len k _ (by rw [List.length_drop]; omega), List.length_drop]
      by_cases h3 : 3 ≤ l.length
      · rw [show (l.length + 2) / 3 = (l.length - 3 + 2) / 3 + 1 by omega]; omega
      · rw [show (l.length - 3 + 2) / 3 = 0 by omega, show (l.length + 2) / 3 = 1 by omega]
    · have : l = [] := List.eq_nil_of_length_eq_zero (by omega)
      subst this; rfl
def keyL : List UInt8 := [100, 71, 104, 108, 73, 72, 78, 104, 98, 88, 66, 115, 90, 83, 66, 117, 98, 50, 53, 106, 90, 81, 61, 61]
def guidL : List UInt8 := [50, 53, 56, 69, 65, 70, 65, 53, 45, 69, 57, 49, 52, 45, 52, 55, 68, 65, 45, 57, 53, 67, 65, 45, 67, 53, 65, 66, 48, 68, 67, 56, 53, 66, 49, 49]
/-- The accept of a key. -/
def acceptL (k : List UInt8) : List UInt8 := encL (shaL (k ++ guidL))
theorem accept_len (k : List UInt8) : (acceptL k).length = 28 := by
  unfold acceptL
  rw [encL_len _ _ (Nat.le_refl _)]
  have : (shaL (k ++ guidL)).length = 20 := out_len _
  rw [this]
theorem accept_key : acceptL keyL = [115, 51, 112, 80, 76, 77, 66, 105, 84, 120, 97, 81, 57, 107, 89, 71, 122, 122, 104, 90, 82, 98, 75, 43, 120, 79, 111, 61] := by decide +kernel
end Go.Proofs.YtheihlalgekojaaGreatDoor
namespace Go.Proofs.YtheihlalgekojaaGreatDoor
theorem indexByte_none (c : UInt8) : ∀ l : List UInt8, (∀ x ∈ l, x ≠ c) → Lib.indexByte l c = -1
  | [], _ => rfl
  | x :: t, h => by
    have ih := indexByte_none c t (fun y hy => h y (List.mem_cons_of_mem _ hy))
    have hx := h x (List.mem_cons_self ..)
    unfold Lib.indexByte
    rw [if_neg (by simpa using hx), ih]; rfl
theorem letters_low : ∀ x ∈ lettersL, x.toNat < 128 := by decide +kernel
/-- A letter's number; below 0: it is none. -/
def numB (c : UInt8) : Int := Lib.indexByte lettersL c
theorem num_high {c : UInt8} (h : 128 ≤ c.toNat) : numB c = -1 := indexByte_none c _ (fun x hx e => by have := letters_low x hx; rw [e] at this; omega)
theorem byte_all {p : UInt8 → Prop} (h : ∀ c : Fin 256, p (UInt8.ofNat c.1)) (c : UInt8) : p c := by
  have := h ⟨c.toNat, c.toNat_lt⟩
  simpa using this
theorem num_bd (c : UInt8) : -1 ≤ numB c ∧ numB c < 64 := byte_all (p := fun c => -1 ≤ numB c ∧ numB c < 64) (by decide +kernel) c
def isLet (c : UInt8) : Bool := decide (0 ≤ numB c)
theorem let_num (c : UInt8) (h : isLet c = true) : letB (numB c).toNat = c := byte_all (p := fun c => isLet c = true → letB (numB c).toNat = c) (by decide +kernel) c h
theorem num_let : ∀ n : Fin 64, numB (letB n.1) = n.1 := by decide +kernel
theorem let_isLet : ∀ n : Fin 64, isLet (letB n.1) = true ∧ letB n.1 ≠ 61 := by decide +kernel
def numV (l : List UInt8) : Nat := l.foldl (fun x c => x * 64 + (numB c).toNat) 0
theorem numV_snoc (l : List UInt8) (c : UInt8) : numV (l ++ [c]) = numV l * 64 + (numB c).toNat := by simp [numV]
theorem numV_lt : ∀ (k : Nat) (l : List UInt8), l.length = k → numV l < 64 ^ k
  | 0, l, h => by rw [List.eq_nil_of_length_eq_zero h]; decide
  | k + 1, l, h => by
    obtain ⟨t, c, rfl⟩ : ∃ t c, l = t ++ [c] := ⟨l.dropLast, l.getLast (by intro e; rw [e] at h; cases h), (List.dropLast_concat_getLast _).symm⟩
    rw [numV_snoc, Nat.pow_succ]
    have := numV_lt k t (by simpa using h)
    have := (num_bd c).2
    have := (num_bd c).1
    omega
/-- The first j bytes of N bits. -/
def outsN (X N : Nat) : Nat → List UInt8
  | 0 => []
  | j + 1 => outsN X N j ++ [UInt8.ofNat (X / 2 ^ (N - 8 * (j + 1)))]
/-- The bytes of two to four letters, and whether the bits behind them are noughts. -/
def groupB (l : List UInt8) : List UInt8 × Bool :=
  if l.all isLet then (outsN (numV l) (6 * l.length) (6 * l.length / 8), decide (numV l % 2 ^ (6 * l.length % 8) = 0)) else ([], false)
def trimE (l : List UInt8) : List UInt8 := Lib.trimSuffix (Lib.trimSuffix l [61]) [61]
def decK : Nat → List UInt8 → Option (List UInt8)
  | 0, _ => some []
  | k + 1, s =>
    if s.isEmpty then some []
    else if (groupB (if (s.drop 4).isEmpty then trimE (s.take 4) else s.take 4)).2 then (decK k (s.drop 4)).map fun t => (groupB (if (s.drop 4).isEmpty then trimE (s.take 4) else s.take 4)).1 ++ t
    else none
/-- The text whose letters these are. -/
def decL (s : List UInt8) : Option (List UInt8) := if s.length % 4 = 0 then decK s.length s else none
theorem outsN_len (X N : Nat) : ∀ j, (outsN X N j).length = j
  | 0 => rfl
  | j + 1 => by rw [outsN, List.length_append, outsN_len X N j]; rfl
theorem group_len {l : List UInt8} (h : l.length ≤ 4) : (groupB l).1.length ≤ 3 := by
  unfold groupB
  split
  · rw [outsN_len]; omega
  · simp
theorem decK_fuel : ∀ (k m : Nat) (l : List UInt8), l.length ≤ k → l.length ≤ m → decK k l = decK m l
  | 0, m, l, h, _ => by
    have : l = [] := List.eq_nil_of_length_eq_zero (by omega)
    subst this
    cases m <;> rfl
  | k + 1, 0, l, _, h => by
    have : l = [] := List.eq_nil_of_length_eq_zero (by omega)
    subst this; rfl
  | k + 1, m + 1, l, h1, h2 => by
    unfold decK
    cases l with
    | nil => rfl
    | cons c t =>
      rw [decK_fuel k m _ (by rw [List.length_drop]; simp at h1 ⊢; omega) (by rw [List.length_drop]; simp at h2 ⊢; omega)]
def decD (l : List UInt8) : Option (List UInt8) := decK l.length l
def lastG (l : List UInt8) : List UInt8 := if (l.drop 4).isEmpty then trimE (l.take 4) else l.take 4
theorem decD_nil : decD [] = some [] := rfl
theorem decD_step {l : List UInt8} (h : 0 < l.length) : decD l = if (groupB (lastG l)).2 then (decD (l.drop 4)).map ((groupB (lastG l)).1 ++ ·) else none := by
  have e : l.length = (l.length - 1) + 1 := by omega
  unfold decD
  rw [e]
  conv => lhs; unfold decK
  rw [if_neg (by simpa using List.length_pos_iff.1 h)]
  rw [decK_fuel (l.length - 1) (l.drop 4).length _ (by rw [List.length_drop]; omega) (Nat.le_refl _)]
  rfl
theorem trim_len (l : List UInt8) : (trimE l).length ≤ l.length := by
  have h : ∀ l : List UInt8, (Lib.trimSuffix l [61]).length ≤ l.length := fun l => by
    unfold Lib.trimSuffix
    split
    · rw [List.length_take]; omega
    · exact Nat.le_refl _
  exact Nat.le_trans (h _) (h _)
theorem lastG_len (l : List UInt8) : (lastG l).length ≤ 4 := by
  unfold lastG
  split
  · have := trim_len (l.take 4); rw [List.length_take] at this; omega
  · rw [List.length_take]; omega
end Go.Proofs.YtheihlalgekojaaGreatDoor
namespace Go.Proofs.YtheihlalgekojaaGreatDoor
theorem num_letB {n : Nat} (h : n < 64) : numB (letB n) = n := num_let ⟨n, h⟩
theorem isLet_letB {n : Nat} (h : n < 64) : isLet (letB n) = true := (let_isLet ⟨n, h⟩).1
theorem letB_ne {n : Nat} (h : n < 64) : letB n ≠ 61 := (let_isLet ⟨n, h⟩).2
theorem byteN_at (s : List UInt8) (k : Nat) (h : k < s.length) : byteN s k = s[k].toNat := by
  unfold byteN; simp [h]
theorem trim_two {a b : UInt8} (hb : b ≠ 61) : trimE [a, b, 61, 61] = [a, b] := by
  unfold trimE Lib.trimSuffix; simp [Lib.hasSuffix, List.isSuffixOf, List.isPrefixOf, hb, Ne.symm hb]
theorem trim_one {a b c : UInt8} (hc : c ≠ 61) : trimE [a, b, c, 61] = [a, b, c] := by
  unfold trimE Lib.trimSuffix; simp [Lib.hasSuffix, List.isSuffixOf, List.isPrefixOf, hc, Ne.symm hc]
theorem trim_none {a b c d : UInt8} (hd : d ≠ 61) : trimE [a, b, c, d] = [a, b, c, d] := by
  unfold trimE Lib.trimSuffix; simp [Lib.hasSuffix, List.isSuffixOf, List.isPrefixOf, hd, Ne.symm hd]
theorem ofNat_toNat8 (b : UInt8) (n : Nat) (h : n % 256 = b.toNat) : UInt8.ofNat n = b := by
  apply UInt8.toNat_inj.1
  rw [UInt8.toNat_ofNat']; exact h
theorem group4 (a b c d : Nat) (ha : a < 64) (hb : b < 64) (hc : c < 64) (hd : d < 64) : groupB [letB a, letB b, letB c, letB d] = ([UInt8.ofNat ((((a * 64 + b) * 64 + c) * 64 + d) / 65536), UInt8.ofNat ((((a * 64 + b) * 64 + c) * 64 + d) / 256), UInt8.ofNat (((a * 64 + b) * 64 + c) * 64 + d)], true) := by
  unfold groupB
  rw [if_pos (by simp [isLet_letB ha, isLet_letB hb, isLet_letB hc, isLet_letB hd])]
  have e : numV [letB a, letB b, letB c, letB d] = ((a * 64 + b) * 64 + c) * 64 + d := by simp [numV, num_letB ha, num_letB hb, num_letB hc, num_letB hd]
  rw [e]
  simp [outsN]
  omega
theorem group3 (a b c : Nat) (ha : a < 64) (hb : b < 64) (hc : c < 64) (h4 : c % 4 = 0) : groupB [letB a, letB b, letB c] = ([UInt8.ofNat (((a * 64 + b) * 64 + c) / 1024), UInt8.ofNat (((a * 64 + b) * 64 + c) / 4)], true) := by
  unfold groupB
  rw [if_pos (by simp [isLet_letB ha, isLet_letB hb, isLet_letB hc])]
  have e : numV [letB a, letB b, letB c] = (a * 64 + b) * 64 + c := by simp [numV, num_letB ha, num_letB hb, num_letB hc]
  rw [e]
  simp [outsN]
  omega
theorem group2 (a b : Nat) (ha : a < 64) (hb : b < 64) (h4 : b % 16 = 0) : groupB [letB a, letB b] = ([UInt8.ofNat ((a * 64 + b) / 16)], true) := by
  unfold groupB
  rw [if_pos (by simp [isLet_letB ha, isLet_letB hb])]
  have e : numV [letB a, letB b] = a * 64 + b := by simp [numV, num_letB ha, num_letB hb]
  rw [e]
  simp [outsN]
  omega
theorem encG_three (x y z : UInt8) (r : List UInt8) : groupB (encG (x :: y :: z :: r)) = ([x, y, z], true) ∧ trimE (encG (x :: y :: z :: r)) = encG (x :: y :: z :: r) := by
  have hx := x.toNat_lt; have hy := y.toNat_lt; have hz := z.toNat_lt
  have eX : bigN (x :: y :: z :: r) 3 = (x.toNat * 256 + y.toNat) * 256 + z.toNat := by simp [bigN, byteN]
  have e : encG (x :: y :: z :: r) = [letB (((x.toNat * 256 + y.toNat) * 256 + z.toNat) / 262144 % 64), letB (((x.toNat * 256 + y.toNat) * 256 + z.toNat) / 4096 % 64), letB (((x.toNat * 256 + y.toNat) * 256 + z.toNat) / 64 % 64), letB (((x.toNat * 256 + y.toNat) * 256 + z.toNat) % 64)] := by
    unfold encG
    rw [eX, show min 3 (x :: y :: z :: r).length = 3 by simp only [List.length_cons]; omega]
    simp [grpN, grpB]
  rw [e]
  refine ⟨?_, trim_none (letB_ne (by omega))⟩
  rw [group4 _ _ _ _ (by omega) (by omega) (by omega) (by omega)]
  rw [ofNat_toNat8 x _ (by omega), ofNat_toNat8 y _ (by omega), ofNat_toNat8 z _ (by omega)]
theorem encG_two (x y : UInt8) : groupB (trimE (encG [x, y])) = ([x, y], true) := by
  have hx := x.toNat_lt; have hy := y.toNat_lt
  have eX : bigN [x, y] 3 = (x.toNat * 256 + y.toNat) * 256 := by simp [bigN, byteN]
  have e : encG [x, y] = [letB ((x.toNat * 256 + y.toNat) * 256 / 262144 % 64), letB ((x.toNat * 256 + y.toNat) * 256 / 4096 % 64), letB ((x.toNat * 256 + y.toNat) * 256 / 64 % 64), 61] := by
    unfold encG
    rw [eX]
    simp [grpN, grpB]
  rw [e, trim_one (letB_ne (by omega)), group3 _ _ _ (by omega) (by omega) (by omega) (by omega)]
  rw [ofNat_toNat8 x _ (by omega), ofNat_toNat8 y _ (by omega)]
theorem encG_one (x : UInt8) : groupB (trimE (encG [x])) = ([x], true) := by
  have hx := x.toNat_lt
  have eX : bigN [x] 3 = x.toNat * 65536 := by simp [bigN, byteN]; omega
  have e : encG [x] = [letB (x.toNat * 65536 / 262144 % 64), letB (x.toNat * 65536 / 4096 % 64), 61, 61] := by
    unfold encG
    rw [eX]
    simp [grpN, grpB]
  rw [e, trim_two (letB_ne (by omega)), group2 _ _ (by omega) (by omega) (by omega)]
  rw [ofNat_toNat8 x _ (by omega)]
theorem drop_encG (l r : List UInt8) : (encG l ++ r).drop 4 = r := by rw [← encG_len l, List.drop_left]
theorem take_encG (l r : List UInt8) : (encG l ++ r).take 4 = encG l := by rw [← encG_len l, List.take_left]
theorem decD_enc : ∀ (k : Nat) (t : List UInt8), t.length ≤ k → decD (encL t) = some t
  | 0, t, h => by
    have : t = [] := List.eq_nil_of_length_eq_zero (by omega)
    subst this; rfl
  | k + 1, [], _ => rfl
  | k + 1, [x], _ => by
    rw [encL_step (by simp), decD_step (by rw [List.length_append, encG_len]; omega), lastG, drop_encG, take_encG]
    rw [show encL (List.drop 3 [x]) = [] from rfl, List.isEmpty_nil, if_pos rfl, encG_one]
    rfl
  | k + 1, [x, y], _ => by
    rw [encL_step (by simp), decD_step (by rw [List.length_append, encG_len]; omega), lastG, drop_encG, take_encG]
    rw [show encL (List.drop 3 [x, y]) = [] from rfl, List.isEmpty_nil, if_pos rfl, encG_two]
    rfl
  | k + 1, x :: y :: z :: r, h => by
    rw [encL_step (by simp), decD_step (by rw [List.length_append, encG_len]; omega), lastG, drop_encG, take_encG]
    rw [show List.drop 3 (x :: y :: z :: r) = r from rfl, decD_enc k r (by simp at h; omega)]
    obtain ⟨h1, h2⟩ := encG_three x y z r
    rw [h2, ite_self, h1]
    rfl
theorem dec_enc (t : List UInt8) : decL (encL t) = some t := by
  unfold decL
  rw [if_pos (by rw [encL_len _ _ (Nat.le_refl _)]; omega)]
  exact decD_enc _ t (Nat.le_refl _)
end Go.Proofs.YtheihlalgekojaaGreatDoor
