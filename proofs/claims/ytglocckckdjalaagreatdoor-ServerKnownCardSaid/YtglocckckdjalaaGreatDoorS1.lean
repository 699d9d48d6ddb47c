/-
  Paths and trees of the abstract machine: what is set is got.
-/
import Derived.Test.YtglocckckdjalaaGreatDoorRc
set_option linter.unusedVariables false
set_option linter.unusedSimpArgs false
namespace Go.Ra

theorem nbeqF {a b : Nat} (h : a ≠ b) : Nat.beq a b = false := by
  cases h' : Nat.beq a b with
  | false => rfl
  | true => exact absurd (Nat.eq_of_beq_eq_true h') h
theorem nbeqT {a b : Nat} (h : a = b) : Nat.beq a b = true := by subst h; exact Nat.beq_refl _
theorem nbeq_iff {a b : Nat} : Nat.beq a b = true ↔ a = b := ⟨Nat.eq_of_beq_eq_true, nbeqT⟩
theorem nble_iff {a b : Nat} : Nat.ble a b = true ↔ a ≤ b := ⟨Nat.le_of_ble_eq_true, Nat.ble_eq_true_of_le⟩
theorem nbleF {a b : Nat} : Nat.ble a b = false ↔ b < a := by
  rw [← Bool.not_eq_true, nble_iff]; omega

def Pth.idx : Pth → Nat
  | .e => 0 | .c0 p => 8 * p.idx | .c1 p => 8 * p.idx + 1 | .c2 p => 8 * p.idx + 2 | .c3 p => 8 * p.idx + 3 | .c4 p => 8 * p.idx + 4 | .c5 p => 8 * p.idx + 5 | .c6 p => 8 * p.idx + 6 | .c7 p => 8 * p.idx + 7
def Pth.plen : Pth → Nat
  | .e => 0 | .c0 p | .c1 p | .c2 p | .c3 p | .c4 p | .c5 p | .c6 p | .c7 p => p.plen + 1

theorem pth_succ (l n : Nat) : pth (l + 1) n = (match Nat.mod n 8 with
    | 0 => .c0 (pth l (Nat.div n 8)) | 1 => .c1 (pth l (Nat.div n 8)) | 2 => .c2 (pth l (Nat.div n 8)) | 3 => .c3 (pth l (Nat.div n 8)) | 4 => .c4 (pth l (Nat.div n 8)) | 5 => .c5 (pth l (Nat.div n 8)) | 6 => .c6 (pth l (Nat.div n 8)) | _ => .c7 (pth l (Nat.div n 8))) := rfl
theorem plen_pth : ∀ l n, (pth l n).plen = l := by
  intro l
  induction l with
  | zero => intro n; rfl
  | succ l ih => intro n; rw [pth_succ]; split <;> simp [Pth.plen, ih]
theorem idx_pth : ∀ l n, n < 8 ^ l → (pth l n).idx = n := by
  intro l
  induction l with
  | zero => intro n h; simp at h; simp [h, pth, Pth.idx]
  | succ l ih =>
    intro n h
    have h1 : n / 8 < 8 ^ l := by rw [Nat.pow_succ] at h; omega
    have e : Nat.div n 8 = n / 8 := rfl
    have e' : Nat.mod n 8 = n % 8 := rfl
    rw [pth_succ, e', e]
    have hm : n % 8 < 8 := Nat.mod_lt _ (by decide)
    generalize hr : n % 8 = r at *
    have hn : n = 8 * (n / 8) + r := by omega
    match r, hm with
    | 0, _ | 1, _ | 2, _ | 3, _ | 4, _ | 5, _ | 6, _ | 7, _ => simp only [Pth.idx, ih _ h1]; omega
theorem pth_inj {l n k : Nat} (hn : n < 8 ^ l) (hk : k < 8 ^ l) (h : pth l n = pth l k) : n = k := by
  rw [← idx_pth l n hn, h, idx_pth l k hk]
theorem Pth.idx_lt : ∀ p : Pth, p.idx < 8 ^ p.plen := by
  intro p
  induction p <;> simp only [Pth.idx, Pth.plen, Nat.pow_succ] <;> omega
theorem Pth.idx_inj : ∀ (p q : Pth), p.plen = q.plen → p.idx = q.idx → p = q := by
  intro p
  induction p <;> intro q hl hi <;> cases q <;> simp only [Pth.plen, Pth.idx] at hl hi <;> first | rfl | (exfalso; omega) | (rename_i p ih q; rw [ih q (by omega) (by omega)])
theorem pth_idx (p : Pth) : pth p.plen p.idx = p := Pth.idx_inj _ _ (plen_pth _ _) (idx_pth _ _ p.idx_lt)
theorem Pth.beq_eq : ∀ (p q : Pth), p.beq q = true ↔ p = q := by
  intro p
  induction p <;> intro q <;> cases q <;> simp_all [Pth.beq]
theorem Pth.beq_false {p q : Pth} : p.beq q = false ↔ p ≠ q := by
  rw [ne_eq, ← Pth.beq_eq]; simp
theorem plen_bid (n : Nat) : (bid n).plen = D := plen_pth _ _
theorem bid_inj {n k : Nat} (hn : n ≤ 32767) (hk : k ≤ 32767) (h : bid n = bid k) : n = k := pth_inj (l := D) (by simp [D]; omega) (by simp [D]; omega) h

namespace TV
@[simp] theorem k0_r0 (t x : TV) : (t.r0 x).k0 = x := by cases t <;> rfl
@[simp] theorem k0_r1 (t x : TV) : (t.r1 x).k0 = t.k0 := by cases t <;> rfl
@[simp] theorem k0_r2 (t x : TV) : (t.r2 x).k0 = t.k0 := by cases t <;> rfl
@[simp] theorem k0_r3 (t x : TV) : (t.r3 x).k0 = t.k0 := by cases t <;> rfl
@[simp] theorem k0_r4 (t x : TV) : (t.r4 x).k0 = t.k0 := by cases t <;> rfl
@[simp] theorem k0_r5 (t x : TV) : (t.r5 x).k0 = t.k0 := by cases t <;> rfl
@[simp] theorem k0_r6 (t x : TV) : (t.r6 x).k0 = t.k0 := by cases t <;> rfl
@[simp] theorem k0_r7 (t x : TV) : (t.r7 x).k0 = t.k0 := by cases t <;> rfl
@[simp] theorem k1_r0 (t x : TV) : (t.r0 x).k1 = t.k1 := by cases t <;> rfl
@[simp] theorem k1_r1 (t x : TV) : (t.r1 x).k1 = x := by cases t <;> rfl
@[simp] theorem k1_r2 (t x : TV) : (t.r2 x).k1 = t.k1 := by cases t <;> rfl
@[simp] theorem k1_r3 (t x : TV) : (t.r3 x).k1 = t.k1 := by cases t <;> rfl
@[simp] theorem k1_r4 (t x : TV) : (t.r4 x).k1 = t.k1 := by cases t <;> rfl
@[simp] theorem k1_r5 (t x : TV) : (t.r5 x).k1 = t.k1 := by cases t <;> rfl
@[simp] theorem k1_r6 (t x : TV) : (t.r6 x).k1 = t.k1 := by cases t <;> rfl
@[simp] theorem k1_r7 (t x : TV) : (t.r7 x).k1 = t.k1 := by cases t <;> rfl
@[simp] theorem k2_r0 (t x : TV) : (t.r0 x).k2 = t.k2 := by cases t <;> rfl
@[simp] theorem k2_r1 (t x : TV) : (t.r1 x).k2 = t.k2 := by cases t <;> rfl
@[simp] theorem k2_r2 (t x : TV) : (t.r2 x).k2 = x := by cases t <;> rfl
@[simp] theorem k2_r3 (t x : TV) : (t.r3 x).k2 = t.k2 := by cases t <;> rfl
@[simp] theorem k2_r4 (t x : TV) : (t.r4 x).k2 = t.k2 := by cases t <;> rfl
@[simp] theorem k2_r5 (t x : TV) : (t.r5 x).k2 = t.k2 := by cases t <;> rfl
@[simp] theorem k2_r6 (t x : TV) : (t.r6 x).k2 = t.k2 := by cases t <;> rfl
@[simp] theorem k2_r7 (t x : TV) : (t.r7 x).k2 = t.k2 := by cases t <;> rfl
@[simp] theorem k3_r0 (t x : TV) : (t.r0 x).k3 = t.k3 := by cases t <;> rfl
@[simp] theorem k3_r1 (t x : TV) : (t.r1 x).k3 = t.k3 := by cases t <;> rfl
@[simp] theorem k3_r2 (t x : TV) : (t.r2 x).k3 = t.k3 := by cases t <;> rfl
@[simp] theorem k3_r3 (t x : TV) : (t.r3 x).k3 = x := by cases t <;> rfl
@[simp] theorem k3_r4 (t x : TV) : (t.r4 x).k3 = t.k3 := by cases t <;> rfl
@[simp] theorem k3_r5 (t x : TV) : (t.r5 x).k3 = t.k3 := by cases t <;> rfl
@[simp] theorem k3_r6 (t x : TV) : (t.r6 x).k3 = t.k3 := by cases t <;> rfl
@[simp] theorem k3_r7 (t x : TV) : (t.r7 x).k3 = t.k3 := by cases t <;> rfl
@[simp] theorem k4_r0 (t x : TV) : (t.r0 x).k4 = t.k4 := by cases t <;> rfl
@[simp] theorem k4_r1 (t x : TV) : (t.r1 x).k4 = t.k4 := by cases t <;> rfl
@[simp] theorem k4_r2 (t x : TV) : (t.r2 x).k4 = t.k4 := by cases t <;> rfl
@[simp] theorem k4_r3 (t x : TV) : (t.r3 x).k4 = t.k4 := by cases t <;> rfl
@[simp] theorem k4_r4 (t x : TV) : (t.r4 x).k4 = x := by cases t <;> rfl
@[simp] theorem k4_r5 (t x : TV) : (t.r5 x).k4 = t.k4 := by cases t <;> rfl
@[simp] theorem k4_r6 (t x : TV) : (t.r6 x).k4 = t.k4 := by cases t <;> rfl
@[simp] theorem k4_r7 (t x : TV) : (t.r7 x).k4 = t.k4 := by cases t <;> rfl
@[simp] theorem k5_r0 (t x : TV) : (t.r0 x).k5 = t.k5 := by cases t <;> rfl
@[simp] theorem k5_r1 (t x : TV) : (t.r1 x).k5 = t.k5 := by cases t <;> rfl
@[simp] theorem k5_r2 (t x : TV) : (t.r2 x).k5 = t.k5 := by cases t <;> rfl
@[simp] theorem k5_r3 (t x : TV) : (t.r3 x).k5 = t.k5 := by cases t <;> rfl
@[simp] theorem k5_r4 (t x : TV) : (t.r4 x).k5 = t.k5 := by cases t <;> rfl
@[simp] theorem k5_r5 (t x : TV) : (t.r5 x).k5 = x := by cases t <;> rfl
@[simp] theorem k5_r6 (t x : TV) : (t.r6 x).k5 = t.k5 := by cases t <;> rfl
@[simp] theorem k5_r7 (t x : TV) : (t.r7 x).k5 = t.k5 := by cases t <;> rfl
@[simp] theorem k6_r0 (t x : TV) : (t.r0 x).k6 = t.k6 := by cases t <;> rfl
@[simp] theorem k6_r1 (t x : TV) : (t.r1 x).k6 = t.k6 := by cases t <;> rfl
@[simp] theorem k6_r2 (t x : TV) : (t.r2 x).k6 = t.k6 := by cases t <;> rfl
@[simp] theorem k6_r3 (t x : TV) : (t.r3 x).k6 = t.k6 := by cases t <;> rfl
@[simp] theorem k6_r4 (t x : TV) : (t.r4 x).k6 = t.k6 := by cases t <;> rfl
@[simp] theorem k6_r5 (t x : TV) : (t.r5 x).k6 = t.k6 := by cases t <;> rfl
@[simp] theorem k6_r6 (t x : TV) : (t.r6 x).k6 = x := by cases t <;> rfl
@[simp] theorem k6_r7 (t x : TV) : (t.r7 x).k6 = t.k6 := by cases t <;> rfl
@[simp] theorem k7_r0 (t x : TV) : (t.r0 x).k7 = t.k7 := by cases t <;> rfl
@[simp] theorem k7_r1 (t x : TV) : (t.r1 x).k7 = t.k7 := by cases t <;> rfl
@[simp] theorem k7_r2 (t x : TV) : (t.r2 x).k7 = t.k7 := by cases t <;> rfl
@[simp] theorem k7_r3 (t x : TV) : (t.r3 x).k7 = t.k7 := by cases t <;> rfl
@[simp] theorem k7_r4 (t x : TV) : (t.r4 x).k7 = t.k7 := by cases t <;> rfl
@[simp] theorem k7_r5 (t x : TV) : (t.r5 x).k7 = t.k7 := by cases t <;> rfl
@[simp] theorem k7_r6 (t x : TV) : (t.r6 x).k7 = t.k7 := by cases t <;> rfl
@[simp] theorem k7_r7 (t x : TV) : (t.r7 x).k7 = x := by cases t <;> rfl
@[simp] theorem gt_c0 (p : Pth) (t : TV) : gt (.c0 p) t = gt p t.k0 := rfl
@[simp] theorem set_c0 (p : Pth) (v : AV) (t : TV) : set (.c0 p) v t = t.r0 (set p v t.k0) := rfl
@[simp] theorem k0_leaf (a : AV) : (TV.leaf a).k0 = .leaf a := rfl
@[simp] theorem gt_c1 (p : Pth) (t : TV) : gt (.c1 p) t = gt p t.k1 := rfl
@[simp] theorem set_c1 (p : Pth) (v : AV) (t : TV) : set (.c1 p) v t = t.r1 (set p v t.k1) := rfl
@[simp] theorem k1_leaf (a : AV) : (TV.leaf a).k1 = .leaf a := rfl
@[simp] theorem gt_c2 (p : Pth) (t : TV) : gt (.c2 p) t = gt p t.k2 := rfl
@[simp] theorem set_c2 (p : Pth) (v : AV) (t : TV) : set (.c2 p) v t = t.r2 (set p v t.k2) := rfl
@[simp] theorem k2_leaf (a : AV) : (TV.leaf a).k2 = .leaf a := rfl
@[simp] theorem gt_c3 (p : Pth) (t : TV) : gt (.c3 p) t = gt p t.k3 := rfl
@[simp] theorem set_c3 (p : Pth) (v : AV) (t : TV) : set (.c3 p) v t = t.r3 (set p v t.k3) := rfl
@[simp] theorem k3_leaf (a : AV) : (TV.leaf a).k3 = .leaf a := rfl
@[simp] theorem gt_c4 (p : Pth) (t : TV) : gt (.c4 p) t = gt p t.k4 := rfl
@[simp] theorem set_c4 (p : Pth) (v : AV) (t : TV) : set (.c4 p) v t = t.r4 (set p v t.k4) := rfl
@[simp] theorem k4_leaf (a : AV) : (TV.leaf a).k4 = .leaf a := rfl
@[simp] theorem gt_c5 (p : Pth) (t : TV) : gt (.c5 p) t = gt p t.k5 := rfl
@[simp] theorem set_c5 (p : Pth) (v : AV) (t : TV) : set (.c5 p) v t = t.r5 (set p v t.k5) := rfl
@[simp] theorem k5_leaf (a : AV) : (TV.leaf a).k5 = .leaf a := rfl
@[simp] theorem gt_c6 (p : Pth) (t : TV) : gt (.c6 p) t = gt p t.k6 := rfl
@[simp] theorem set_c6 (p : Pth) (v : AV) (t : TV) : set (.c6 p) v t = t.r6 (set p v t.k6) := rfl
@[simp] theorem k6_leaf (a : AV) : (TV.leaf a).k6 = .leaf a := rfl
@[simp] theorem gt_c7 (p : Pth) (t : TV) : gt (.c7 p) t = gt p t.k7 := rfl
@[simp] theorem set_c7 (p : Pth) (v : AV) (t : TV) : set (.c7 p) v t = t.r7 (set p v t.k7) := rfl
@[simp] theorem k7_leaf (a : AV) : (TV.leaf a).k7 = .leaf a := rfl
theorem gt_set : ∀ (p q : Pth) (v : AV) (t : TV), p.plen = q.plen → gt p (set q v t) = if p = q then v else gt p t := by
  intro p
  induction p with
  | e => intro q v t h; cases q <;> simp [Pth.plen] at h; rfl
  | c0 p ih =>
    intro q v t h
    cases q <;> simp only [Pth.plen, Nat.add_right_cancel_iff, Nat.add_eq_zero_iff, Nat.succ_ne_zero, and_false, reduceCtorEq] at h <;> simp [ih, h]
  | c1 p ih =>
    intro q v t h
    cases q <;> simp only [Pth.plen, Nat.add_right_cancel_iff, Nat.add_eq_zero_iff, Nat.succ_ne_zero, and_false, reduceCtorEq] at h <;> simp [ih, h]
  | c2 p ih =>
    intro q v t h
    cases q <;> simp only [Pth.plen, Nat.add_right_cancel_iff, Nat.add_eq_zero_iff, Nat.succ_ne_zero, and_false, reduceCtorEq] at h <;> simp [ih, h]
  | c3 p ih =>
    intro q v t h
    cases q <;> simp only [Pth.plen, Nat.add_right_cancel_iff, Nat.add_eq_zero_iff, Nat.succ_ne_zero, and_false, reduceCtorEq] at h <;> simp [ih, h]
  | c4 p ih =>
    intro q v t h
    cases q <;> simp only [Pth.plen, Nat.add_right_cancel_iff, Nat.add_eq_zero_iff, Nat.succ_ne_zero, and_false, reduceCtorEq] at h <;> simp [ih, h]
  | c5 p ih =>
    intro q v t h
    cases q <;> simp only [Pth.plen, Nat.add_right_cancel_iff, Nat.add_eq_zero_iff, Nat.succ_ne_zero, and_false, reduceCtorEq] at h <;> simp [ih, h]
  | c6 p ih =>
    intro q v t h
    cases q <;> simp only [Pth.plen, Nat.add_right_cancel_iff, Nat.add_eq_zero_iff, Nat.succ_ne_zero, and_false, reduceCtorEq] at h <;> simp [ih, h]
  | c7 p ih =>
    intro q v t h
    cases q <;> simp only [Pth.plen, Nat.add_right_cancel_iff, Nat.add_eq_zero_iff, Nat.succ_ne_zero, and_false, reduceCtorEq] at h <;> simp [ih, h]
theorem gt_leaf : ∀ (p : Pth) (a : AV), gt p (.leaf a) = a := by
  intro p
  induction p with
  | e => intro a; rfl
  | _ p ih => intro a; simp [ih]
end TV
namespace TB
@[simp] theorem k0_r0 (t x : TB) : (t.r0 x).k0 = x := by cases t <;> rfl
@[simp] theorem k0_r1 (t x : TB) : (t.r1 x).k0 = t.k0 := by cases t <;> rfl
@[simp] theorem k0_r2 (t x : TB) : (t.r2 x).k0 = t.k0 := by cases t <;> rfl
@[simp] theorem k0_r3 (t x : TB) : (t.r3 x).k0 = t.k0 := by cases t <;> rfl
@[simp] theorem k0_r4 (t x : TB) : (t.r4 x).k0 = t.k0 := by cases t <;> rfl
@[simp] theorem k0_r5 (t x : TB) : (t.r5 x).k0 = t.k0 := by cases t <;> rfl
@[simp] theorem k0_r6 (t x : TB) : (t.r6 x).k0 = t.k0 := by cases t <;> rfl
@[simp] theorem k0_r7 (t x : TB) : (t.r7 x).k0 = t.k0 := by cases t <;> rfl
@[simp] theorem k1_r0 (t x : TB) : (t.r0 x).k1 = t.k1 := by cases t <;> rfl
@[simp] theorem k1_r1 (t x : TB) : (t.r1 x).k1 = x := by cases t <;> rfl
@[simp] theorem k1_r2 (t x : TB) : (t.r2 x).k1 = t.k1 := by cases t <;> rfl
@[simp] theorem k1_r3 (t x : TB) : (t.r3 x).k1 = t.k1 := by cases t <;> rfl
@[simp] theorem k1_r4 (t x : TB) : (t.r4 x).k1 = t.k1 := by cases t <;> rfl
@[simp] theorem k1_r5 (t x : TB) : (t.r5 x).k1 = t.k1 := by cases t <;> rfl
@[simp] theorem k1_r6 (t x : TB) : (t.r6 x).k1 = t.k1 := by cases t <;> rfl
@[simp] theorem k1_r7 (t x : TB) : (t.r7 x).k1 = t.k1 := by cases t <;> rfl
@[simp] theorem k2_r0 (t x : TB) : (t.r0 x).k2 = t.k2 := by cases t <;> rfl
@[simp] theorem k2_r1 (t x : TB) : (t.r1 x).k2 = t.k2 := by cases t <;> rfl
@[simp] theorem k2_r2 (t x : TB) : (t.r2 x).k2 = x := by cases t <;> rfl
@[simp] theorem k2_r3 (t x : TB) : (t.r3 x).k2 = t.k2 := by cases t <;> rfl
@[simp] theorem k2_r4 (t x : TB) : (t.r4 x).k2 = t.k2 := by cases t <;> rfl
@[simp] theorem k2_r5 (t x : TB) : (t.r5 x).k2 = t.k2 := by cases t <;> rfl
@[simp] theorem k2_r6 (t x : TB) : (t.r6 x).k2 = t.k2 := by cases t <;> rfl
@[simp] theorem k2_r7 (t x : TB) : (t.r7 x).k2 = t.k2 := by cases t <;> rfl
@[simp] theorem k3_r0 (t x : TB) : (t.r0 x).k3 = t.k3 := by cases t <;> rfl
@[simp] theorem k3_r1 (t x : TB) : (t.r1 x).k3 = t.k3 := by cases t <;> rfl
@[simp] theorem k3_r2 (t x : TB) : (t.r2 x).k3 = t.k3 := by cases t <;> rfl
@[simp] theorem k3_r3 (t x : TB) : (t.r3 x).k3 = x := by cases t <;> rfl
@[simp] theorem k3_r4 (t x : TB) : (t.r4 x).k3 = t.k3 := by cases t <;> rfl
@[simp] theorem k3_r5 (t x : TB) : (t.r5 x).k3 = t.k3 := by cases t <;> rfl
@[simp] theorem k3_r6 (t x : TB) : (t.r6 x).k3 = t.k3 := by cases t <;> rfl
@[simp] theorem k3_r7 (t x : TB) : (t.r7 x).k3 = t.k3 := by cases t <;> rfl
@[simp] theorem k4_r0 (t x : TB) : (t.r0 x).k4 = t.k4 := by cases t <;> rfl
@[simp] theorem k4_r1 (t x : TB) : (t.r1 x).k4 = t.k4 := by cases t <;> rfl
@[simp] theorem k4_r2 (t x : TB) : (t.r2 x).k4 = t.k4 := by cases t <;> rfl
@[simp] theorem k4_r3 (t x : TB) : (t.r3 x).k4 = t.k4 := by cases t <;> rfl
@[simp] theorem k4_r4 (t x : TB) : (t.r4 x).k4 = x := by cases t <;> rfl
@[simp] theorem k4_r5 (t x : TB) : (t.r5 x).k4 = t.k4 := by cases t <;> rfl
@[simp] theorem k4_r6 (t x : TB) : (t.r6 x).k4 = t.k4 := by cases t <;> rfl
@[simp] theorem k4_r7 (t x : TB) : (t.r7 x).k4 = t.k4 := by cases t <;> rfl
@[simp] theorem k5_r0 (t x : TB) : (t.r0 x).k5 = t.k5 := by cases t <;> rfl
@[simp] theorem k5_r1 (t x : TB) : (t.r1 x).k5 = t.k5 := by cases t <;> rfl
@[simp] theorem k5_r2 (t x : TB) : (t.r2 x).k5 = t.k5 := by cases t <;> rfl
@[simp] theorem k5_r3 (t x : TB) : (t.r3 x).k5 = t.k5 := by cases t <;> rfl
@[simp] theorem k5_r4 (t x : TB) : (t.r4 x).k5 = t.k5 := by cases t <;> rfl
@[simp] theorem k5_r5 (t x : TB) : (t.r5 x).k5 = x := by cases t <;> rfl
@[simp] theorem k5_r6 (t x : TB) : (t.r6 x).k5 = t.k5 := by cases t <;> rfl
@[simp] theorem k5_r7 (t x : TB) : (t.r7 x).k5 = t.k5 := by cases t <;> rfl
@[simp] theorem k6_r0 (t x : TB) : (t.r0 x).k6 = t.k6 := by cases t <;> rfl
@[simp] theorem k6_r1 (t x : TB) : (t.r1 x).k6 = t.k6 := by cases t <;> rfl
@[simp] theorem k6_r2 (t x : TB) : (t.r2 x).k6 = t.k6 := by cases t <;> rfl
@[simp] theorem k6_r3 (t x : TB) : (t.r3 x).k6 = t.k6 := by cases t <;> rfl
@[simp] theorem k6_r4 (t x : TB) : (t.r4 x).k6 = t.k6 := by cases t <;> rfl
@[simp] theorem k6_r5 (t x : TB) : (t.r5 x).k6 = t.k6 := by cases t <;> rfl
@[simp] theorem k6_r6 (t x : TB) : (t.r6 x).k6 = x := by cases t <;> rfl
@[simp] theorem k6_r7 (t x : TB) : (t.r7 x).k6 = t.k6 := by cases t <;> rfl
@[simp] theorem k7_r0 (t x : TB) : (t.r0 x).k7 = t.k7 := by cases t <;> rfl
@[simp] theorem k7_r1 (t x : TB) : (t.r1 x).k7 = t.k7 := by cases t <;> rfl
@[simp] theorem k7_r2 (t x : TB) : (t.r2 x).k7 = t.k7 := by cases t <;> rfl
@[simp] theorem k7_r3 (t x : TB) : (t.r3 x).k7 = t.k7 := by cases t <;> rfl
@[simp] theorem k7_r4 (t x : TB) : (t.r4 x).k7 = t.k7 := by cases t <;> rfl
@[simp] theorem k7_r5 (t x : TB) : (t.r5 x).k7 = t.k7 := by cases t <;> rfl
@[simp] theorem k7_r6 (t x : TB) : (t.r6 x).k7 = t.k7 := by cases t <;> rfl
@[simp] theorem k7_r7 (t x : TB) : (t.r7 x).k7 = x := by cases t <;> rfl
@[simp] theorem gt_c0 (p : Pth) (t : TB) : gt (.c0 p) t = gt p t.k0 := rfl
@[simp] theorem set_c0 (p : Pth) (v : AB) (t : TB) : set (.c0 p) v t = t.r0 (set p v t.k0) := rfl
@[simp] theorem k0_leaf (a : AB) : (TB.leaf a).k0 = .leaf a := rfl
@[simp] theorem gt_c1 (p : Pth) (t : TB) : gt (.c1 p) t = gt p t.k1 := rfl
@[simp] theorem set_c1 (p : Pth) (v : AB) (t : TB) : set (.c1 p) v t = t.r1 (set p v t.k1) := rfl
@[simp] theorem k1_leaf (a : AB) : (TB.leaf a).k1 = .leaf a := rfl
@[simp] theorem gt_c2 (p : Pth) (t : TB) : gt (.c2 p) t = gt p t.k2 := rfl
@[simp] theorem set_c2 (p : Pth) (v : AB) (t : TB) : set (.c2 p) v t = t.r2 (set p v t.k2) := rfl
@[simp] theorem k2_leaf (a : AB) : (TB.leaf a).k2 = .leaf a := rfl
@[simp] theorem gt_c3 (p : Pth) (t : TB) : gt (.c3 p) t = gt p t.k3 := rfl
@[simp] theorem set_c3 (p : Pth) (v : AB) (t : TB) : set (.c3 p) v t = t.r3 (set p v t.k3) := rfl
@[simp] theorem k3_leaf (a : AB) : (TB.leaf a).k3 = .leaf a := rfl
@[simp] theorem gt_c4 (p : Pth) (t : TB) : gt (.c4 p) t = gt p t.k4 := rfl
@[simp] theorem set_c4 (p : Pth) (v : AB) (t : TB) : set (.c4 p) v t = t.r4 (set p v t.k4) := rfl
@[simp] theorem k4_leaf (a : AB) : (TB.leaf a).k4 = .leaf a := rfl
@[simp] theorem gt_c5 (p : Pth) (t : TB) : gt (.c5 p) t = gt p t.k5 := rfl
@[simp] theorem set_c5 (p : Pth) (v : AB) (t : TB) : set (.c5 p) v t = t.r5 (set p v t.k5) := rfl
@[simp] theorem k5_leaf (a : AB) : (TB.leaf a).k5 = .leaf a := rfl
@[simp] theorem gt_c6 (p : Pth) (t : TB) : gt (.c6 p) t = gt p t.k6 := rfl
@[simp] theorem set_c6 (p : Pth) (v : AB) (t : TB) : set (.c6 p) v t = t.r6 (set p v t.k6) := rfl
@[simp] theorem k6_leaf (a : AB) : (TB.leaf a).k6 = .leaf a := rfl
@[simp] theorem gt_c7 (p : Pth) (t : TB) : gt (.c7 p) t = gt p t.k7 := rfl
@[simp] theorem set_c7 (p : Pth) (v : AB) (t : TB) : set (.c7 p) v t = t.r7 (set p v t.k7) := rfl
@[simp] theorem k7_leaf (a : AB) : (TB.leaf a).k7 = .leaf a := rfl
theorem gt_set : ∀ (p q : Pth) (v : AB) (t : TB), p.plen = q.plen → gt p (set q v t) = if p = q then v else gt p t := by
  intro p
  induction p with
  | e => intro q v t h; cases q <;> simp [Pth.plen] at h; rfl
  | c0 p ih =>
    intro q v t h
    cases q <;> simp only [Pth.plen, Nat.add_right_cancel_iff, Nat.add_eq_zero_iff, Nat.succ_ne_zero, and_false, reduceCtorEq] at h <;> simp [ih, h]
  | c1 p ih =>
    intro q v t h
    cases q <;> simp only [Pth.plen, Nat.add_right_cancel_iff, Nat.add_eq_zero_iff, Nat.succ_ne_zero, and_false, reduceCtorEq] at h <;> simp [ih, h]
  | c2 p ih =>
    intro q v t h
    cases q <;> simp only [Pth.plen, Nat.add_right_cancel_iff, Nat.add_eq_zero_iff, Nat.succ_ne_zero, and_false, reduceCtorEq] at h <;> simp [ih, h]
  | c3 p ih =>
    intro q v t h
    cases q <;> simp only [Pth.plen, Nat.add_right_cancel_iff, Nat.add_eq_zero_iff, Nat.succ_ne_zero, and_false, reduceCtorEq] at h <;> simp [ih, h]
  | c4 p ih =>
    intro q v t h
    cases q <;> simp only [Pth.plen, Nat.add_right_cancel_iff, Nat.add_eq_zero_iff, Nat.succ_ne_zero, and_false, reduceCtorEq] at h <;> simp [ih, h]
  | c5 p ih =>
    intro q v t h
    cases q <;> simp only [Pth.plen, Nat.add_right_cancel_iff, Nat.add_eq_zero_iff, Nat.succ_ne_zero, and_false, reduceCtorEq] at h <;> simp [ih, h]
  | c6 p ih =>
    intro q v t h
    cases q <;> simp only [Pth.plen, Nat.add_right_cancel_iff, Nat.add_eq_zero_iff, Nat.succ_ne_zero, and_false, reduceCtorEq] at h <;> simp [ih, h]
  | c7 p ih =>
    intro q v t h
    cases q <;> simp only [Pth.plen, Nat.add_right_cancel_iff, Nat.add_eq_zero_iff, Nat.succ_ne_zero, and_false, reduceCtorEq] at h <;> simp [ih, h]
theorem gt_leaf : ∀ (p : Pth) (a : AB), gt p (.leaf a) = a := by
  intro p
  induction p with
  | e => intro a; rfl
  | _ p ih => intro a; simp [ih]
end TB
namespace TF
@[simp] theorem k0_r0 (t x : TF) : (t.r0 x).k0 = x := by cases t <;> rfl
@[simp] theorem k0_r1 (t x : TF) : (t.r1 x).k0 = t.k0 := by cases t <;> rfl
@[simp] theorem k0_r2 (t x : TF) : (t.r2 x).k0 = t.k0 := by cases t <;> rfl
@[simp] theorem k0_r3 (t x : TF) : (t.r3 x).k0 = t.k0 := by cases t <;> rfl
@[simp] theorem k0_r4 (t x : TF) : (t.r4 x).k0 = t.k0 := by cases t <;> rfl
@[simp] theorem k0_r5 (t x : TF) : (t.r5 x).k0 = t.k0 := by cases t <;> rfl
@[simp] theorem k0_r6 (t x : TF) : (t.r6 x).k0 = t.k0 := by cases t <;> rfl
@[simp] theorem k0_r7 (t x : TF) : (t.r7 x).k0 = t.k0 := by cases t <;> rfl
@[simp] theorem k1_r0 (t x : TF) : (t.r0 x).k1 = t.k1 := by cases t <;> rfl
@[simp] theorem k1_r1 (t x : TF) : (t.r1 x).k1 = x := by cases t <;> rfl
@[simp] theorem k1_r2 (t x : TF) : (t.r2 x).k1 = t.k1 := by cases t <;> rfl
@[simp] theorem k1_r3 (t x : TF) : (t.r3 x).k1 = t.k1 := by cases t <;> rfl
@[simp] theorem k1_r4 (t x : TF) : (t.r4 x).k1 = t.k1 := by cases t <;> rfl
@[simp] theorem k1_r5 (t x : TF) : (t.r5 x).k1 = t.k1 := by cases t <;> rfl
@[simp] theorem k1_r6 (t x : TF) : (t.r6 x).k1 = t.k1 := by cases t <;> rfl
@[simp] theorem k1_r7 (t x : TF) : (t.r7 x).k1 = t.k1 := by cases t <;> rfl
@[simp] theorem k2_r0 (t x : TF) : (t.r0 x).k2 = t.k2 := by cases t <;> rfl
@[simp] theorem k2_r1 (t x : TF) : (t.r1 x).k2 = t.k2 := by cases t <;> rfl
@[simp] theorem k2_r2 (t x : TF) : (t.r2 x).k2 = x := by cases t <;> rfl
@[simp] theorem k2_r3 (t x : TF) : (t.r3 x).k2 = t.k2 := by cases t <;> rfl
@[simp] theorem k2_r4 (t x : TF) : (t.r4 x).k2 = t.k2 := by cases t <;> rfl
@[simp] theorem k2_r5 (t x : TF) : (t.r5 x).k2 = t.k2 := by cases t <;> rfl
@[simp] theorem k2_r6 (t x : TF) : (t.r6 x).k2 = t.k2 := by cases t <;> rfl
@[simp] theorem k2_r7 (t x : TF) : (t.r7 x).k2 = t.k2 := by cases t <;> rfl
@[simp] theorem k3_r0 (t x : TF) : (t.r0 x).k3 = t.k3 := by cases t <;> rfl
@[simp] theorem k3_r1 (t x : TF) : (t.r1 x).k3 = t.k3 := by cases t <;> rfl
@[simp] theorem k3_r2 (t x : TF) : (t.r2 x).k3 = t.k3 := by cases t <;> rfl
@[simp] theorem k3_r3 (t x : TF) : (t.r3 x).k3 = x := by cases t <;> rfl
@[simp] theorem k3_r4 (t x : TF) : (t.r4 x).k3 = t.k3 := by cases t <;> rfl
@[simp] theorem k3_r5 (t x : TF) : (t.r5 x).k3 = t.k3 := by cases t <;> rfl
@[simp] theorem k3_r6 (t x : TF) : (t.r6 x).k3 = t.k3 := by cases t <;> rfl
@[simp] theorem k3_r7 (t x : TF) : (t.r7 x).k3 = t.k3 := by cases t <;> rfl
@[simp] theorem k4_r0 (t x : TF) : (t.r0 x).k4 = t.k4 := by cases t <;> rfl
@[simp] theorem k4_r1 (t x : TF) : (t.r1 x).k4 = t.k4 := by cases t <;> rfl
@[simp] theorem k4_r2 (t x : TF) : (t.r2 x).k4 = t.k4 := by cases t <;> rfl
@[simp] theorem k4_r3 (t x : TF) : (t.r3 x).k4 = t.k4 := by cases t <;> rfl
@[simp] theorem k4_r4 (t x : TF) : (t.r4 x).k4 = x := by cases t <;> rfl
@[simp] theorem k4_r5 (t x : TF) : (t.r5 x).k4 = t.k4 := by cases t <;> rfl
@[simp] theorem k4_r6 (t x : TF) : (t.r6 x).k4 = t.k4 := by cases t <;> rfl
@[simp] theorem k4_r7 (t x : TF) : (t.r7 x).k4 = t.k4 := by cases t <;> rfl
@[simp] theorem k5_r0 (t x : TF) : (t.r0 x).k5 = t.k5 := by cases t <;> rfl
@[simp] theorem k5_r1 (t x : TF) : (t.r1 x).k5 = t.k5 := by cases t <;> rfl
@[simp] theorem k5_r2 (t x : TF) : (t.r2 x).k5 = t.k5 := by cases t <;> rfl
@[simp] theorem k5_r3 (t x : TF) : (t.r3 x).k5 = t.k5 := by cases t <;> rfl
@[simp] theorem k5_r4 (t x : TF) : (t.r4 x).k5 = t.k5 := by cases t <;> rfl
@[simp] theorem k5_r5 (t x : TF) : (t.r5 x).k5 = x := by cases t <;> rfl
@[simp] theorem k5_r6 (t x : TF) : (t.r6 x).k5 = t.k5 := by cases t <;> rfl
@[simp] theorem k5_r7 (t x : TF) : (t.r7 x).k5 = t.k5 := by cases t <;> rfl
@[simp] theorem k6_r0 (t x : TF) : (t.r0 x).k6 = t.k6 := by cases t <;> rfl
@[simp] theorem k6_r1 (t x : TF) : (t.r1 x).k6 = t.k6 := by cases t <;> rfl
@[simp] theorem k6_r2 (t x : TF) : (t.r2 x).k6 = t.k6 := by cases t <;> rfl
@[simp] theorem k6_r3 (t x : TF) : (t.r3 x).k6 = t.k6 := by cases t <;> rfl
@[simp] theorem k6_r4 (t x : TF) : (t.r4 x).k6 = t.k6 := by cases t <;> rfl
@[simp] theorem k6_r5 (t x : TF) : (t.r5 x).k6 = t.k6 := by cases t <;> rfl
@[simp] theorem k6_r6 (t x : TF) : (t.r6 x).k6 = x := by cases t <;> rfl
@[simp] theorem k6_r7 (t x : TF) : (t.r7 x).k6 = t.k6 := by cases t <;> rfl
@[simp] theorem k7_r0 (t x : TF) : (t.r0 x).k7 = t.k7 := by cases t <;> rfl
@[simp] theorem k7_r1 (t x : TF) : (t.r1 x).k7 = t.k7 := by cases t <;> rfl
@[simp] theorem k7_r2 (t x : TF) : (t.r2 x).k7 = t.k7 := by cases t <;> rfl
@[simp] theorem k7_r3 (t x : TF) : (t.r3 x).k7 = t.k7 := by cases t <;> rfl
@[simp] theorem k7_r4 (t x : TF) : (t.r4 x).k7 = t.k7 := by cases t <;> rfl
@[simp] theorem k7_r5 (t x : TF) : (t.r5 x).k7 = t.k7 := by cases t <;> rfl
@[simp] theorem k7_r6 (t x : TF) : (t.r6 x).k7 = t.k7 := by cases t <;> rfl
@[simp] theorem k7_r7 (t x : TF) : (t.r7 x).k7 = x := by cases t <;> rfl
@[simp] theorem gt_c0 (p : Pth) (t : TF) : gt (.c0 p) t = gt p t.k0 := rfl
@[simp] theorem set_c0 (p : Pth) (v : AFn) (t : TF) : set (.c0 p) v t = t.r0 (set p v t.k0) := rfl
@[simp] theorem k0_leaf (a : AFn) : (TF.leaf a).k0 = .leaf a := rfl
@[simp] theorem gt_c1 (p : Pth) (t : TF) : gt (.c1 p) t = gt p t.k1 := rfl
@[simp] theorem set_c1 (p : Pth) (v : AFn) (t : TF) : set (.c1 p) v t = t.r1 (set p v t.k1) := rfl
@[simp] theorem k1_leaf (a : AFn) : (TF.leaf a).k1 = .leaf a := rfl
@[simp] theorem gt_c2 (p : Pth) (t : TF) : gt (.c2 p) t = gt p t.k2 := rfl
@[simp] theorem set_c2 (p : Pth) (v : AFn) (t : TF) : set (.c2 p) v t = t.r2 (set p v t.k2) := rfl
@[simp] theorem k2_leaf (a : AFn) : (TF.leaf a).k2 = .leaf a := rfl
@[simp] theorem gt_c3 (p : Pth) (t : TF) : gt (.c3 p) t = gt p t.k3 := rfl
@[simp] theorem set_c3 (p : Pth) (v : AFn) (t : TF) : set (.c3 p) v t = t.r3 (set p v t.k3) := rfl
@[simp] theorem k3_leaf (a : AFn) : (TF.leaf a).k3 = .leaf a := rfl
@[simp] theorem gt_c4 (p : Pth) (t : TF) : gt (.c4 p) t = gt p t.k4 := rfl
@[simp] theorem set_c4 (p : Pth) (v : AFn) (t : TF) : set (.c4 p) v t = t.r4 (set p v t.k4) := rfl
@[simp] theorem k4_leaf (a : AFn) : (TF.leaf a).k4 = .leaf a := rfl
@[simp] theorem gt_c5 (p : Pth) (t : TF) : gt (.c5 p) t = gt p t.k5 := rfl
@[simp] theorem set_c5 (p : Pth) (v : AFn) (t : TF) : set (.c5 p) v t = t.r5 (set p v t.k5) := rfl
@[simp] theorem k5_leaf (a : AFn) : (TF.leaf a).k5 = .leaf a := rfl
@[simp] theorem gt_c6 (p : Pth) (t : TF) : gt (.c6 p) t = gt p t.k6 := rfl
@[simp] theorem set_c6 (p : Pth) (v : AFn) (t : TF) : set (.c6 p) v t = t.r6 (set p v t.k6) := rfl
@[simp] theorem k6_leaf (a : AFn) : (TF.leaf a).k6 = .leaf a := rfl
@[simp] theorem gt_c7 (p : Pth) (t : TF) : gt (.c7 p) t = gt p t.k7 := rfl
@[simp] theorem set_c7 (p : Pth) (v : AFn) (t : TF) : set (.c7 p) v t = t.r7 (set p v t.k7) := rfl
@[simp] theorem k7_leaf (a : AFn) : (TF.leaf a).k7 = .leaf a := rfl
theorem gt_set : ∀ (p q : Pth) (v : AFn) (t : TF), p.plen = q.plen → gt p (set q v t) = if p = q then v else gt p t := by
  intro p
  induction p with
  | e => intro q v t h; cases q <;> simp [Pth.plen] at h; rfl
  | c0 p ih =>
    intro q v t h
    cases q <;> simp only [Pth.plen, Nat.add_right_cancel_iff, Nat.add_eq_zero_iff, Nat.succ_ne_zero, and_false, reduceCtorEq] at h <;> simp [ih, h]
  | c1 p ih =>
    intro q v t h
    cases q <;> simp only [Pth.plen, Nat.add_right_cancel_iff, Nat.add_eq_zero_iff, Nat.succ_ne_zero, and_false, reduceCtorEq] at h <;> simp [ih, h]
  | c2 p ih =>
    intro q v t h
    cases q <;> simp only [Pth.plen, Nat.add_right_cancel_iff, Nat.add_eq_zero_iff, Nat.succ_ne_zero, and_false, reduceCtorEq] at h <;> simp [ih, h]
  | c3 p ih =>
    intro q v t h
    cases q <;> simp only [Pth.plen, Nat.add_right_cancel_iff, Nat.add_eq_zero_iff, Nat.succ_ne_zero, and_false, reduceCtorEq] at h <;> simp [ih, h]
  | c4 p ih =>
    intro q v t h
    cases q <;> simp only [Pth.plen, Nat.add_right_cancel_iff, Nat.add_eq_zero_iff, Nat.succ_ne_zero, and_false, reduceCtorEq] at h <;> simp [ih, h]
  | c5 p ih =>
    intro q v t h
    cases q <;> simp only [Pth.plen, Nat.add_right_cancel_iff, Nat.add_eq_zero_iff, Nat.succ_ne_zero, and_false, reduceCtorEq] at h <;> simp [ih, h]
  | c6 p ih =>
    intro q v t h
    cases q <;> simp only [Pth.plen, Nat.add_right_cancel_iff, Nat.add_eq_zero_iff, Nat.succ_ne_zero, and_false, reduceCtorEq] at h <;> simp [ih, h]
  | c7 p ih =>
    intro q v t h
    cases q <;> simp only [Pth.plen, Nat.add_right_cancel_iff, Nat.add_eq_zero_iff, Nat.succ_ne_zero, and_false, reduceCtorEq] at h <;> simp [ih, h]
theorem gt_leaf : ∀ (p : Pth) (a : AFn), gt p (.leaf a) = a := by
  intro p
  induction p with
  | e => intro a; rfl
  | _ p ih => intro a; simp [ih]
end TF

theorem TB.get_set {p q : Pth} {v : AB} {t : TB} (h : p.plen = q.plen) : (TB.set q v t).get p = if p = q then v else t.get p := TB.gt_set p q v t h
theorem TV.get_set {p q : Pth} {v : AV} {t : TV} (h : p.plen = q.plen) : TV.get p (TV.set q v t) = if p = q then v else TV.get p t := TV.gt_set p q v t h
theorem TV.get_leaf {p : Pth} {a : AV} : TV.get p (.leaf a) = a := TV.gt_leaf p a

/-! Cells by their number -/
namespace Tr
theorem get_leaf (n : Nat) : get .leaf n = .undef := rfl
theorem get_node (v : AV) (l r : Tr) (n : Nat) : get (.node v l r) n = if n = 0 then v else if n % 2 = 1 then l.get (n / 2) else r.get (n / 2 - 1) := by
  show (Bool.rec (Bool.rec (r.get (Nat.pred (Nat.div n 2))) (l.get (Nat.div n 2)) (Nat.beq (Nat.mod n 2) 1)) v (Nat.beq n 0) : AV) = _
  have e1 : Nat.mod n 2 = n % 2 := rfl
  have e2 : Nat.div n 2 = n / 2 := rfl
  rw [e1, e2]
  by_cases h0 : n = 0
  · subst h0; rfl
  · have : Nat.beq n 0 = false := nbeqF h0
    rw [this, if_neg h0]
    by_cases h1 : n % 2 = 1
    · have : Nat.beq (n % 2) 1 = true := nbeqT h1
      rw [this, if_pos h1]
    · have : Nat.beq (n % 2) 1 = false := nbeqF h1
      rw [this, if_neg h1]; rfl
theorem set_node (v : AV) (l r : Tr) (a : AV) (n : Nat) : set (.node v l r) a n = if n = 0 then .node a l r else if n % 2 = 1 then .node v (l.set a (n / 2)) r else .node v l (r.set a (n / 2 - 1)) := by
  show (Bool.rec (Bool.rec (.node v l (r.set a (Nat.pred (Nat.div n 2)))) (.node v (l.set a (Nat.div n 2)) r) (Nat.beq (Nat.mod n 2) 1)) (.node a l r) (Nat.beq n 0) : Tr) = _
  have e1 : Nat.mod n 2 = n % 2 := rfl
  have e2 : Nat.div n 2 = n / 2 := rfl
  rw [e1, e2]
  by_cases h0 : n = 0
  · subst h0; rfl
  · have : Nat.beq n 0 = false := nbeqF h0
    rw [this, if_neg h0]
    by_cases h1 : n % 2 = 1
    · have : Nat.beq (n % 2) 1 = true := nbeqT h1
      rw [this, if_pos h1]
    · have : Nat.beq (n % 2) 1 = false := nbeqF h1
      rw [this, if_neg h1]; rfl
theorem set_leaf (a : AV) (n : Nat) : set .leaf a n = set1 64 a n := rfl
theorem set1_succ (f : Nat) (a : AV) (n : Nat) : set1 (f + 1) a n = if n = 0 then .node a .leaf .leaf else if n % 2 = 1 then .node .undef (set1 f a (n / 2)) .leaf else .node .undef .leaf (set1 f a (n / 2 - 1)) := by
  show (Bool.rec (Bool.rec (.node .undef .leaf (set1 f a (Nat.pred (Nat.div n 2)))) (.node .undef (set1 f a (Nat.div n 2)) .leaf) (Nat.beq (Nat.mod n 2) 1)) (.node a .leaf .leaf) (Nat.beq n 0) : Tr) = _
  have e1 : Nat.mod n 2 = n % 2 := rfl
  have e2 : Nat.div n 2 = n / 2 := rfl
  rw [e1, e2]
  by_cases h0 : n = 0
  · subst h0; rfl
  · have : Nat.beq n 0 = false := nbeqF h0
    rw [this, if_neg h0]
    by_cases h1 : n % 2 = 1
    · have : Nat.beq (n % 2) 1 = true := nbeqT h1
      rw [this, if_pos h1]
    · have : Nat.beq (n % 2) 1 = false := nbeqF h1
      rw [this, if_neg h1]; rfl
/-- What is set is got, or it is not known; the other cells are as they were. -/
theorem get_set1 : ∀ (f : Nat) (a : AV) (n k : Nat), (set1 f a n).get k = a ∧ k = n ∨ (set1 f a n).get k = .undef := by
  intro f
  induction f with
  | zero => intro a n k; exact .inr rfl
  | succ f ih =>
    intro a n k
    rw [set1_succ]
    by_cases h0 : n = 0
    · rw [if_pos h0, get_node]
      by_cases k0 : k = 0
      · rw [if_pos k0]; exact .inl ⟨rfl, by omega⟩
      · rw [if_neg k0]; right; split <;> rfl
    · rw [if_neg h0]
      by_cases h1 : n % 2 = 1
      · rw [if_pos h1, get_node]
        by_cases k0 : k = 0
        · rw [if_pos k0]; exact .inr rfl
        · rw [if_neg k0]
          by_cases k1 : k % 2 = 1
          · rw [if_pos k1]; exact (ih a (n / 2) (k / 2)).imp (fun h => ⟨h.1, by omega⟩) id
          · rw [if_neg k1]; exact .inr rfl
      · rw [if_neg h1, get_node]
        by_cases k0 : k = 0
        · rw [if_pos k0]; exact .inr rfl
        · rw [if_neg k0]
          by_cases k1 : k % 2 = 1
          · rw [if_pos k1]; exact .inr rfl
          · rw [if_neg k1]; exact (ih a (n / 2 - 1) (k / 2 - 1)).imp (fun h => ⟨h.1, by omega⟩) id
theorem get_set : ∀ (t : Tr) (a : AV) (n k : Nat), ((t.set a n).get k = a ∧ k = n) ∨ (t.set a n).get k = .undef ∨ ((t.set a n).get k = t.get k ∧ k ≠ n) := by
  intro t
  induction t with
  | leaf => intro a n k; rw [set_leaf]; exact (get_set1 64 a n k).imp id .inl
  | node v l r ihl ihr =>
    intro a n k
    rw [set_node]
    by_cases h0 : n = 0
    · rw [if_pos h0, get_node, get_node]
      by_cases k0 : k = 0
      · rw [if_pos k0]; exact .inl ⟨rfl, by omega⟩
      · rw [if_neg k0, if_neg k0]; exact .inr (.inr ⟨rfl, by omega⟩)
    · rw [if_neg h0]
      by_cases h1 : n % 2 = 1
      · rw [if_pos h1, get_node, get_node]
        by_cases k0 : k = 0
        · rw [if_pos k0, if_pos k0]; exact .inr (.inr ⟨rfl, by omega⟩)
        · rw [if_neg k0, if_neg k0]
          by_cases k1 : k % 2 = 1
          · rw [if_pos k1, if_pos k1]; exact (ihl a (n / 2) (k / 2)).imp (fun h => ⟨h.1, by omega⟩) (Or.imp id fun h => ⟨h.1, by omega⟩)
          · rw [if_neg k1, if_neg k1]; exact .inr (.inr ⟨rfl, by omega⟩)
      · rw [if_neg h1, get_node, get_node]
        by_cases k0 : k = 0
        · rw [if_pos k0, if_pos k0]; exact .inr (.inr ⟨rfl, by omega⟩)
        · rw [if_neg k0, if_neg k0]
          by_cases k1 : k % 2 = 1
          · rw [if_pos k1, if_pos k1]; exact .inr (.inr ⟨rfl, by omega⟩)
          · rw [if_neg k1, if_neg k1]; exact (ihr a (n / 2 - 1) (k / 2 - 1)).imp (fun h => ⟨h.1, by omega⟩) (Or.imp id fun h => ⟨h.1, by omega⟩)
end Tr

/-! Lists of values -/
namespace AV
@[simp] theorem len_cs (h t : AV) : (AV.cs h t).len = t.len + 1 := rfl
@[simp] theorem len_nl : AV.nl.len = 0 := rfl
@[simp] theorem hd_cs (h t : AV) : (AV.cs h t).hd = h := rfl
@[simp] theorem tl_cs (h t : AV) : (AV.cs h t).tl = t := rfl
@[simp] theorem app_cs (h t b : AV) : (AV.cs h t).app b = .cs h (t.app b) := rfl
@[simp] theorem app_nl (b : AV) : AV.nl.app b = b := rfl
@[simp] theorem nth_zero (v : AV) : v.nth 0 = v.hd := rfl
@[simp] theorem nth_succ (v : AV) (n : Nat) : v.nth (n + 1) = v.tl.nth n := rfl
@[simp] theorem drop_zero (v : AV) : v.drop 0 = v := rfl
@[simp] theorem drop_succ (v : AV) (n : Nat) : v.drop (n + 1) = v.tl.drop n := rfl
@[simp] theorem take_zero (v : AV) : v.take 0 = .nl := rfl
@[simp] theorem take_succ (v : AV) (n : Nat) : v.take (n + 1) = .cs v.hd (v.tl.take n) := rfl
@[simp] theorem seg_zero (v l : AV) : v.seg 0 l = l.app (v.drop l.len) := rfl
@[simp] theorem seg_succ (v l : AV) (n : Nat) : v.seg (n + 1) l = .cs v.hd (v.tl.seg n l) := rfl
@[simp] theorem reps_zero (w : AV) : w.reps 0 = .nl := rfl
@[simp] theorem reps_succ (w : AV) (n : Nat) : w.reps (n + 1) = w.app (w.reps n) := rfl
end AV
@[simp] theorem cellsOf_zero (t : Tr) (o : Nat) : cellsOf t 0 o = .nl := rfl
@[simp] theorem cellsOf_succ (t : Tr) (n o : Nat) : cellsOf t (n + 1) o = .cs (t.get o) (cellsOf t n (o + 1)) := rfl
@[simp] theorem sets_cs (h t : AV) (n : Nat) (r : Tr) : Tr.sets (.cs h t) n r = Tr.sets t (n + 1) (r.set h n) := rfl
@[simp] theorem sets_nl (n : Nat) (r : Tr) : Tr.sets .nl n r = r := rfl
end Go.Ra
