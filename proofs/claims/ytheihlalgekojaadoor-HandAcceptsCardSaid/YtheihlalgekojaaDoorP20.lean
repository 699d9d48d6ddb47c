/-
  Plain laws of base64: what was put into letters is read as it was.
-/
import Derived.Test.YtheihlalgekojaaDoorP18
namespace Go.Proofs.YtheihlalgekojaaDoor
theorem num_letB {n : Nat} (h : n < 64) : numB (letB n) = n := num_let ⟨n, h⟩
theorem isLet_letB {n : Nat} (h : n < 64) : isLet (letB n) = true := (let_isLet ⟨n, h⟩).1
theorem letB_ne {n : Nat} (h : n < 64) : letB n ≠ 61 := (let_isLet ⟨n, h⟩).2
theorem byteN_at (s : List UInt8) (k : Nat) (h : k < s.length) : byteN s k = s[k].toNat := by
  unfold byteN; simp [h]
theorem trim_two {a b : UInt8} (hb : b ≠ 61) : trimE [a, b, 61, 61] = [a, b] := by
  unfold trimE Lib.trimSuffix; simp [Lib.hasSuffix, List.isSuffixOf, List.isPrefixOf, hb, Ne.symm hb]
theorem trim_one {a b c : UInt8} (hc : c ≠ 61) : trimE [a, b, c, 61] = [a, b, c] := by
  unfold trimE Lib.trimSuffix; simp [Lib.hasSuffix, List.isSuffixOf, List.isPrefixOf, hc, Ne.symm hc]
theorem trim_none {a b c d : UInt8} (hd : d ≠ 61) : trimE [a, b, c, d] = [a, b, c, d] := by
  unfold trimE Lib.trimSuffix; simp [Lib.hasSuffix, List.isSuffixOf, List.isPrefixOf, hd, Ne.symm hd]
theorem ofNat_toNat8 (b : UInt8) (n : Nat) (h : n % 256 = b.toNat) : UInt8.ofNat n = b := by
  apply UInt8.toNat_inj.1
  rw [UInt8.toNat_ofNat']; exact h
theorem group4 (a b c d : Nat) (ha : a < 64) (hb : b < 64) (hc : c < 64) (hd : d < 64) : groupB [letB a, letB b, letB c, letB d] = ([UInt8.ofNat ((((a * 64 + b) * 64 + c) * 64 + d) / 65536), UInt8.ofNat ((((a * 64 + b) * 64 + c) * 64 + d) / 256), UInt8.ofNat (((a * 64 + b) * 64 + c) * 64 + d)], true) := by
  unfold groupB
  rw [if_pos (by simp [isLet_letB ha, isLet_letB hb, isLet_letB hc, isLet_letB hd])]
  have e : numV [letB a, letB b, letB c, letB d] = ((a * 64 + b) * 64 + c) * 64 + d := by simp [numV, num_letB ha, num_letB hb, num_letB hc, num_letB hd]
  rw [e]
  simp [outsN]
  omega
theorem group3 (a b c : Nat) (ha : a < 64) (hb : b < 64) (hc : c < 64) (h4 : c % 4 = 0) : groupB [letB a, letB b, letB c] = ([UInt8.ofNat (((a * 64 + b) * 64 + c) / 1024), UInt8.ofNat (((a * 64 + b) * 64 + c) / 4)], true) := by
  unfold groupB
  rw [if_pos (by simp [isLet_letB ha, isLet_letB hb, isLet_letB hc])]
  have e : numV [letB a, letB b, letB c] = (a * 64 + b) * 64 + c := by simp [numV, num_letB ha, num_letB hb, num_letB hc]
  rw [e]
  simp [outsN]
  omega
theorem group2 (a b : Nat) (ha : a < 64) (hb : b < 64) (h4 : b % 16 = 0) : groupB [letB a, letB b] = ([UInt8.ofNat ((a * 64 + b) / 16)], true) := by
  unfold groupB
  rw [if_pos (by simp [isLet_letB ha, isLet_letB hb])]
  have e : numV [letB a, letB b] = a * 64 + b := by simp [numV, num_letB ha, num_letB hb]
  rw [e]
  simp [outsN]
  omega
theorem encG_three (x y z : UInt8) (r : List UInt8) : groupB (encG (x :: y :: z :: r)) = ([x, y, z], true) ∧ trimE (encG (x :: y :: z :: r)) = encG (x :: y :: z :: r) := by
  have hx := x.toNat_lt; have hy := y.toNat_lt; have hz := z.toNat_lt
  have eX : bigN (x :: y :: z :: r) 3 = (x.toNat * 256 + y.toNat) * 256 + z.toNat := by simp [bigN, byteN]
  have e : encG (x :: y :: z :: r) = [letB (((x.toNat * 256 + y.toNat) * 256 + z.toNat) / 262144 % 64), letB (((x.toNat * 256 + y.toNat) * 256 + z.toNat) / 4096 % 64), letB (((x.toNat * 256 + y.toNat) * 256 + z.toNat) / 64 % 64), letB (((x.toNat * 256 + y.toNat) * 256 + z.toNat) % 64)] := by
    unfold encG
    rw [eX, show min 3 (x :: y :: z :: r).length = 3 by simp only [List.length_cons]; omega]
    simp [grpN, grpB]
  rw [e]
  refine ⟨?_, trim_none (letB_ne (by omega))⟩
  rw [group4 _ _ _ _ (by omega) (by omega) (by omega) (by omega)]
  rw [ofNat_toNat8 x _ (by omega), ofNat_toNat8 y _ (by omega), ofNat_toNat8 z _ (by omega)]
theorem encG_two (x y : UInt8) : groupB (trimE (encG [x, y])) = ([x, y], true) := by
  have hx := x.toNat_lt; have hy := y.toNat_lt
  have eX : bigN [x, y] 3 = (x.toNat * 256 + y.toNat) * 256 := by simp [bigN, byteN]
  have e : encG [x, y] = [letB ((x.toNat * 256 + y.toNat) * 256 / 262144 % 64), letB ((x.toNat * 256 + y.toNat) * 256 / 4096 % 64), letB ((x.toNat * 256 + y.toNat) * 256 / 64 % 64), 61] := by
    unfold encG
    rw [eX]
    simp [grpN, grpB]
  rw [e, trim_one (letB_ne (by omega)), group3 _ _ _ (by omega) (by omega) (by omega) (by omega)]
  rw [ofNat_toNat8 x _ (by omega), ofNat_toNat8 y _ (by omega)]
theorem encG_one (x : UInt8) : groupB (trimE (encG [x])) = ([x], true) := by
  have hx := x.toNat_lt
  have eX : bigN [x] 3 = x.toNat * 65536 := by simp [bigN, byteN]; omega
  have e : encG [x] = [letB (x.toNat * 65536 / 262144 % 64), letB (x.toNat * 65536 / 4096 % 64), 61, 61] := by
    unfold encG
    rw [eX]
    simp [grpN, grpB]
  rw [e, trim_two (letB_ne (by omega)), group2 _ _ (by omega) (by omega) (by omega)]
  rw [ofNat_toNat8 x _ (by omega)]
theorem drop_encG (l r : List UInt8) : (encG l ++ r).drop 4 = r := by rw [← encG_len l, List.drop_left]
theorem take_encG (l r : List UInt8) : (encG l ++ r).take 4 = encG l := by rw [← encG_len l, List.take_left]
theorem decD_enc : ∀ (k : Nat) (t : List UInt8), t.length ≤ k → decD (encL t) = some t
  | 0, t, h => by
    have : t = [] := List.eq_nil_of_length_eq_zero (by omega)
    subst this; rfl
  | k + 1, [], _ => rfl
  | k + 1, [x], _ => by
    rw [encL_step (by simp), decD_step (by rw [List.length_append, encG_len]; omega), lastG, drop_encG, take_encG]
    rw [show encL (List.drop 3 [x]) = [] from rfl, List.isEmpty_nil, if_pos rfl, encG_one]
    rfl
  | k + 1, [x, y], _ => by
    rw [encL_step (by simp), decD_step (by rw [List.length_append, encG_len]; omega), lastG, drop_encG, take_encG]
    rw [show encL (List.drop 3 [x, y]) = [] from rfl, List.isEmpty_nil, if_pos rfl, encG_two]
    rfl
  | k + 1, x :: y :: z :: r, h => by
    rw [encL_step (by simp), decD_step (by rw [List.length_append, encG_len]; omega), lastG, drop_encG, take_encG]
    rw [show List.drop 3 (x :: y :: z :: r) = r from rfl, decD_enc k r (by simp at h; omega)]
    obtain ⟨h1, h2⟩ := encG_three x y z r
    rw [h2, ite_self, h1]
    rfl
theorem dec_enc (t : List UInt8) : decL (encL t) = some t := by
  unfold decL
  rw [if_pos (by rw [encL_len _ _ (Nat.le_refl _)]; omega)]
  exact decD_enc _ t (Nat.le_refl _)
end Go.Proofs.YtheihlalgekojaaDoor
