/-
  Plain laws of the document's SHA-1 and base64: the whole text at a time, bit by bit; no program in sight.
-/
import Derived.Test.YtheihlalgekojaaGreatDoorP16
namespace Go.Proofs.YtheihlalgekojaaGreatDoor
/-- The block number m of a text. -/
def blkN (l : List UInt8) (m : Nat) : List UInt8 := (l.drop (64 * m)).take 64
theorem blk_byte (l : List UInt8) (m i : Nat) (hi : i < 64) : byteN (blkN l m) i = byteN l (64 * m + i) := by
  unfold byteN blkN
  simp only [List.getD_eq_getElem?_getD]
  rw [List.getElem?_take_of_lt hi, List.getElem?_drop]
theorem blk_word (l : List UInt8) (m t : Nat) (ht : t < 16) : word0 (blkN l m) t = ((byteN l (64 * m + 4 * t) * 256 + byteN l (64 * m + 4 * t + 1)) * 256 + byteN l (64 * m + 4 * t + 2)) * 256 + byteN l (64 * m + 4 * t + 3) := by
  unfold word0
  rw [blk_byte l m _ (by omega), blk_byte l m _ (by omega), blk_byte l m _ (by omega), blk_byte l m _ (by omega)]
  rfl
/-- The words behind the first m blocks. -/
def hN (l : List UInt8) : Nat → W5
  | 0 => first5
  | m + 1 => comp5 (hN l m) (blkN l m)
theorem hN_ok (l : List UInt8) : ∀ m, (hN l m).ok
  | 0 => first_ok
  | _ + 1 => plus_ok _ _
theorem hN_absorb (l : List UInt8) : ∀ n m, (absorbN n (hN l m) (l.drop (64 * m))).1 = hN l (m + n)
  | 0, m => rfl
  | n + 1, m => by
    unfold absorbN
    rw [List.drop_drop, show 64 * m + 64 = 64 * (m + 1) by omega, show m + (n + 1) = m + 1 + n by omega]
    exact hN_absorb l n (m + 1)
theorem sha_hN (s : List UInt8) : shaL s = outL (hN (shaPad s) ((shaPad s).length / 64)) := by
  have := hN_absorb (shaPad s) ((shaPad s).length / 64) 0
  rw [Nat.mul_zero, List.drop_zero, Nat.zero_add] at this
  unfold shaL absorb
  rw [← this]; rfl
theorem beB_at (x : Nat) : ∀ n k, k < n → (beB x n)[k]? = some (UInt8.ofNat (x / 256 ^ (n - 1 - k)))
  | 0, k, h => by omega
  | n + 1, 0, _ => rfl
  | n + 1, k + 1, h => by
    rw [beB, List.getElem?_cons_succ, beB_at x n k (by omega), show n + 1 - 1 - (k + 1) = n - 1 - k by omega]
theorem beB_take (x n k : Nat) (h : k < n) : (beB x n).take (k + 1) = (beB x n).take k ++ [UInt8.ofNat (x / 256 ^ (n - 1 - k))] := by
  rw [List.take_add_one, beB_at x n k h]; rfl
def W5.get (x : W5) : Nat → Nat
  | 0 => x.a
  | 1 => x.b
  | 2 => x.c
  | 3 => x.d
  | _ => x.e
theorem out_at (h : W5) (i : Nat) (hi : i < 20) : (outL h)[i]? = some (UInt8.ofNat (h.get (i / 4) / 256 ^ (3 - i % 4))) := by
  have : i = 0 ∨ i = 1 ∨ i = 2 ∨ i = 3 ∨ i = 4 ∨ i = 5 ∨ i = 6 ∨ i = 7 ∨ i = 8 ∨ i = 9 ∨ i = 10 ∨ i = 11 ∨ i = 12 ∨ i = 13 ∨ i = 14 ∨ i = 15 ∨ i = 16 ∨ i = 17 ∨ i = 18 ∨ i = 19 := by omega
  rcases this with h | h | h | h | h | h | h | h | h | h | h | h | h | h | h | h | h | h | h | h <;> subst h <;> rfl

/-- The bits of a byte, the highest one first. -/
def bits8 (c : UInt8) : List Nat := [c.toNat / 128 % 2, c.toNat / 64 % 2, c.toNat / 32 % 2, c.toNat / 16 % 2, c.toNat / 8 % 2, c.toNat / 4 % 2, c.toNat / 2 % 2, c.toNat % 2]
def bitsL (s : List UInt8) : List Nat := s.flatMap bits8
theorem bitsL_len (s : List UInt8) : (bitsL s).length = s.length * 8 := by
  unfold bitsL
  induction s with
  | nil => rfl
  | cons c t ih => rw [List.flatMap_cons, List.length_append, ih]; simp [bits8]; omega
theorem bits8_at (c : UInt8) (k : Nat) (hk : k < 8) : (bits8 c)[k]? = some (c.toNat / 2 ^ (7 - k) % 2) := by
  have : k = 0 ∨ k = 1 ∨ k = 2 ∨ k = 3 ∨ k = 4 ∨ k = 5 ∨ k = 6 ∨ k = 7 := by omega
  rcases this with h | h | h | h | h | h | h | h <;> subst h <;> simp [bits8]
theorem bits8_take (c : UInt8) (k : Nat) (hk : k < 8) : (bits8 c).take (k + 1) = (bits8 c).take k ++ [c.toNat / 2 ^ (7 - k) % 2] := by
  rw [List.take_add_one, bits8_at c k hk]; rfl
theorem bits8_lt (c : UInt8) : ∀ x ∈ bits8 c, x < 2 := by
  intro x hx
  simp only [bits8, List.mem_cons, List.mem_nil_iff, or_false] at hx
  rcases hx with h | h | h | h | h | h | h | h <;> omega
/-- The number of the first k bits. -/
def numK (l : List Nat) : Nat → Nat
  | 0 => 0
  | k + 1 => 2 * numK l k + l.getD k 0
def pad6 (l : List Nat) : List Nat := l ++ List.replicate ((6 - l.length % 6) % 6) 0
theorem pad6_len (l : List Nat) : (pad6 l).length % 6 = 0 := by simp [pad6]; omega
/-- The numbers of six bits each. -/
def sixes : List Nat → List Nat
  | a :: b :: c :: d :: e :: f :: t => numK [a, b, c, d, e, f] 6 :: sixes t
  | _ => []
theorem sixes_at : ∀ (i : Nat) (l : List Nat), 6 * i + 6 ≤ l.length → (sixes l)[i]? = some (numK (l.drop (6 * i)) 6)
  | i, [], h => by simp at h
  | i, [_], h => by simp at h
  | i, [_, _], h => by simp at h
  | i, [_, _, _], h => by simp at h
  | i, [_, _, _, _], h => by simp at h
  | i, [_, _, _, _, _], h => by simp at h
  | 0, a :: b :: c :: d :: e :: f :: t, h => by
    show some _ = _
    rfl
  | i + 1, a :: b :: c :: d :: e :: f :: t, h => by
    show (sixes t)[i]? = _
    rw [sixes_at i t (by simp at h; omega), show 6 * (i + 1) = 6 * i + 1 + 1 + 1 + 1 + 1 + 1 by omega]
    rfl
theorem sixes_len : ∀ (l : List Nat), (sixes l).length = l.length / 6
  | [] => rfl
  | [_] => by simp [sixes]
  | [_, _] => by simp [sixes]
  | [_, _, _] => by simp [sixes]
  | [_, _, _, _] => by simp [sixes]
  | [_, _, _, _, _] => by simp [sixes]
  | a :: b :: c :: d :: e :: f :: t => by
    show (sixes t).length + 1 = _
    rw [sixes_len t]
    simp only [List.length_cons]; omega
/-- The letters by the document. -/
def encR (s : List UInt8) : List UInt8 :=
  let o := (sixes (pad6 (bitsL s))).map letB
  o ++ List.replicate ((4 - o.length % 4) % 4) 61
theorem numK_lt (l : List Nat) (h : ∀ x ∈ l, x < 2) : ∀ k, numK l k < 2 ^ k
  | 0 => by simp [numK]
  | k + 1 => by
    have := numK_lt l h k
    have h2 : l.getD k 0 < 2 := by
      rw [List.getD_eq_getElem?_getD]
      cases e : l[k]? with
      | none => simp
      | some x => simp; exact h x (List.mem_of_getElem? e)
    rw [Nat.pow_succ]; unfold numK; omega
theorem pad6_app (a b : List Nat) (h : a.length % 6 = 0) : pad6 (a ++ b) = a ++ pad6 b := by
  unfold pad6
  rw [List.append_assoc, List.length_append, show (a.length + b.length) % 6 = b.length % 6 by omega]
theorem three_bits (a b c : UInt8) (t : List Nat) : sixes (bits8 a ++ bits8 b ++ bits8 c ++ t) = [a.toNat / 4, a.toNat % 4 * 16 + b.toNat / 16, b.toNat % 16 * 4 + c.toNat / 64, c.toNat % 64] ++ sixes t := by
  have ha := UInt8.toNat_lt a
  have hb := UInt8.toNat_lt b
  have hc := UInt8.toNat_lt c
  simp only [bits8, List.cons_append, List.nil_append, sixes, numK, List.getD_cons_zero, List.getD_cons_succ]
  congr 1
  · omega
  congr 1
  · omega
  congr 1
  · omega
  congr 1
  · omega
theorem encG_3 (a b c : UInt8) (t : List UInt8) : encG (a :: b :: c :: t) = [a.toNat / 4, a.toNat % 4 * 16 + b.toNat / 16, b.toNat % 16 * 4 + c.toNat / 64, c.toNat % 64].map letB := by
  have ha := UInt8.toNat_lt a
  have hb := UInt8.toNat_lt b
  have hc := UInt8.toNat_lt c
  have hm : min 3 (a :: b :: c :: t).length = 3 := by simp
  simp only [encG, hm, grpN, grpB, bigN, byteN, List.nil_append, List.cons_append, List.getD_cons_zero, List.getD_cons_succ, List.map_cons, List.map_nil]
  simp only [if_pos (show 0 ≤ 3 by decide), if_pos (show 0 + 1 ≤ 3 by decide), if_pos (show 0 + 1 + 1 ≤ 3 by decide), if_pos (show 0 + 1 + 1 + 1 ≤ 3 by decide)]
  congr 1
  · congr 1; omega
  congr 1
  · congr 1; omega
  congr 1
  · congr 1; omega
  congr 1
  · congr 1; omega
theorem encR_eq : ∀ (s : List UInt8), encR s = encL s
  | [] => by decide
  | [a] => by
    have ha := UInt8.toNat_lt a
    have hm : min 3 [a].length = 1 := by simp
    rw [encL_step (by simp)]
    simp only [encR, bitsL, List.flatMap_cons, List.flatMap_nil, List.append_nil, pad6, bits8, List.length_cons, List.length_nil, List.cons_append, List.nil_append]
    simp only [encG, hm, grpN, grpB, bigN, byteN, List.nil_append, List.cons_append, List.getD_cons_zero, List.getD_cons_succ, List.drop_succ_cons, List.drop_nil, encL_nil, List.append_nil]
    show [letB _, letB _, 61, 61] = [letB _, letB _, 61, 61]
    simp only [numK, List.getD_cons_zero, List.getD_cons_succ, List.getD_nil, UInt8.toNat_zero]
    congr 1
    · congr 1; omega
    congr 1
    · congr 1; omega
  | [a, b] => by
    have ha := UInt8.toNat_lt a
    have hb := UInt8.toNat_lt b
    have hm : min 3 [a, b].length = 2 := by simp
    rw [encL_step (by simp)]
    simp only [encR, bitsL, List.flatMap_cons, List.flatMap_nil, List.append_nil, pad6, bits8, List.length_cons, List.length_nil, List.cons_append, List.nil_append]
    simp only [encG, hm, grpN, grpB, bigN, byteN, List.nil_append, List.cons_append, List.getD_cons_zero, List.getD_cons_succ, List.drop_succ_cons, List.drop_nil, encL_nil, List.append_nil]
    show [letB _, letB _, letB _, 61] = [letB _, letB _, letB _, 61]
    simp only [numK, List.getD_cons_zero, List.getD_cons_succ, List.getD_nil, UInt8.toNat_zero]
    congr 1
    · congr 1; omega
    congr 1
    · congr 1; omega
    congr 1
    · congr 1; omega
  | a :: b :: c :: t => by
    rw [encL_step (by simp), encG_3]
    show _ = _ ++ encL t
    rw [← encR_eq t]
    unfold encR
    have e : pad6 (bitsL (a :: b :: c :: t)) = bits8 a ++ bits8 b ++ bits8 c ++ pad6 (bitsL t) := by
      rw [show bitsL (a :: b :: c :: t) = (bits8 a ++ bits8 b ++ bits8 c) ++ bitsL t by simp [bitsL], pad6_app _ _ (by simp [bits8])]
    rw [e, three_bits]
    simp only [List.map_append, List.length_append, List.length_map, List.length_cons, List.length_nil, List.append_assoc]
    congr 2
    congr 1
    omega
end Go.Proofs.YtheihlalgekojaaGreatDoor
