/-
  The abstract machine's numbers and texts are the model's.
-/
import Derived.Laws.Strings
import Derived.Test.YtglocckckdjalaaGreatDoorS2
set_option linter.unusedVariables false
set_option linter.unusedSimpArgs false
namespace Go.Ra

theorem noA {v : AV} {p : Prop} (h : (none : OA) = some v) : p := by cases h
theorem wrapN_eq (k : IntKind) (n : Nat) : wrapN k n = k.wrap (n : Int) := by
  unfold wrapN
  cases hb : Nat.ble n (maxN k) with
  | false => rfl
  | true =>
    rw [nble_iff] at hb
    show (n : Int) = _
    cases k <;> simp [maxN] at hb <;> simp [IntKind.wrap, IntKind.bits, IntKind.signed] <;> omega
theorem wrap_id (k : IntKind) (n : Nat) (h : n ≤ maxN k) : k.wrap (n : Int) = n := by
  rw [← wrapN_eq]; unfold wrapN; rw [nble_iff.2 h]; rfl
theorem addI_eq (k : IntKind) (x y : Int) : addI k x y = k.wrap (x + y) := by
  cases x <;> cases y
  · exact wrapN_eq _ _
  all_goals rfl
theorem subN_eq (k : IntKind) (a b : Nat) : subN k a b = k.wrap ((a : Int) - b) := by
  unfold subN
  cases hb : Nat.ble b a with
  | true =>
    rw [nble_iff] at hb
    show wrapN k (a - b) = _
    rw [wrapN_eq, Int.ofNat_sub hb]
  | false =>
    rw [nbleF] at hb
    show k.wrap (Int.negSucc (Nat.pred (b - a))) = _
    congr 1
    simp only [Nat.pred_eq_sub_one]
    omega
theorem subI_eq (k : IntKind) (x y : Int) : subI k x y = k.wrap (x - y) := by
  cases x <;> cases y
  · exact subN_eq _ _ _
  all_goals rfl
theorem mulI_eq (k : IntKind) (x y : Int) : mulI k x y = k.wrap (x * y) := by
  cases x <;> cases y
  · exact wrapN_eq _ _
  all_goals rfl
theorem eqI_eq (x y : Int) : eqI x y = (x == y) := by
  rw [Bool.eq_iff_iff, beq_iff_eq]
  match x, y with
  | .ofNat a, .ofNat b => show Nat.beq a b = true ↔ (a : Int) = b; rw [nbeq_iff]; omega
  | .negSucc a, .negSucc b => show Nat.beq a b = true ↔ _; rw [nbeq_iff]; omega
  | .ofNat a, .negSucc b => show false = true ↔ (a : Int) = _; simp only [Bool.false_eq_true, false_iff]; omega
  | .negSucc a, .ofNat b => show false = true ↔ _ = (b : Int); simp only [Bool.false_eq_true, false_iff]; omega
theorem leI_eq (x y : Int) : leI x y = decide (x ≤ y) := by
  rw [Bool.eq_iff_iff, decide_eq_true_iff]
  match x, y with
  | .ofNat a, .ofNat b => show Nat.ble a b = true ↔ (a : Int) ≤ b; rw [nble_iff]; omega
  | .negSucc a, .negSucc b => show Nat.ble b a = true ↔ _; rw [nble_iff]; omega
  | .ofNat a, .negSucc b => show false = true ↔ (a : Int) ≤ _; simp only [Bool.false_eq_true, false_iff]; omega
  | .negSucc a, .ofNat b => show true = true ↔ _ ≤ (b : Int); simp only [true_iff]; omega
theorem sameK_iff {k k' : IntKind} : sameK k k' = true ↔ k = k' := by cases k <;> cases k' <;> simp [sameK, kN]
theorem inK_iff {k : IntKind} {a b : Nat} : inK k a b = true ↔ a ≤ maxN k ∧ b ≤ maxN k := by
  unfold inK
  cases h : Nat.ble a (maxN k) with
  | false => rw [nbleF] at h; simp; omega
  | true => rw [nble_iff] at h; simp [nble_iff, h]
theorem whenA_some {b : Bool} {v : OA} {a : AV} : whenA b v = some a ↔ b = true ∧ v = some a := by cases b <;> simp [whenA]
theorem bitsN_eq (k : IntKind) : bitsN k = k.bits := by cases k <;> rfl
theorem minN_eq (a b : Nat) : minN a b = min a b := by
  unfold minN
  cases h : Nat.ble a b with
  | false => rw [nbleF] at h; show b = _; omega
  | true => rw [nble_iff] at h; show a = _; omega
theorem maxN_lt (k : IntKind) : maxN k < 2 ^ k.bits := by cases k <;> decide
theorem shlU_eq (k : IntKind) (a n : Nat) : shlU k a n = k.wrap ((a : Int) * 2 ^ n) := by
  have e : ((a : Int) * 2 ^ n) = ((a * 2 ^ n : Nat) : Int) := by push_cast; rfl
  rw [e]
  have e' : Nat.mul a (Nat.pow 2 n) = a * 2 ^ n := rfl
  unfold shlU
  rw [e']
  generalize a * 2 ^ n = x
  cases k
  case i8 | i16 | i32 | i64 => exact wrapN_eq _ _
  all_goals (show ((Nat.mod x _ : Nat) : Int) = _; simp [IntKind.wrap, IntKind.bits, IntKind.signed]; rfl)

theorem onNats_some {f : IntKind → Nat → Nat → OA} {k : IntKind} {x y : Int} {v : AV} (h : onNats f k x y = some v) : ∃ a b : Nat, x = a ∧ y = b ∧ f k a b = some v := by
  match x, y with
  | .ofNat a, .ofNat b => exact ⟨a, b, rfl, rfl, h⟩
  | .ofNat a, .negSucc b => exact noA h
  | .negSucc a, .ofNat b => exact noA h
  | .negSucc a, .negSucc b => exact noA h

variable {P : Program} {w : World}
theorem bits_of (k : IntKind) (a : Nat) (h : a ≤ maxN k) : (BitVec.ofInt k.bits (a : Int)) = BitVec.ofNat k.bits a := by simp
theorem bv_toNat (k : IntKind) (a : Nat) (h : a ≤ maxN k) : (BitVec.ofNat k.bits a).toNat = a := by
  rw [BitVec.toNat_ofNat]; exact Nat.mod_eq_of_lt (Nat.lt_of_le_of_lt h (maxN_lt k))

/-- An operation of two numbers of one kind. -/
theorem intOp_run {op : BinOp} {k : IntKind} {x y : Int} {v : AV} {t : TypeId} (hop : isSh op = false) (h : intOp op k x y = some v) :
    ∃ v', (binOp op t (.int k x) (.int k y)).run P w = .ok v' w ∧ ∀ m, VRel m v v' := by
  have fin : ∀ {u : AV} {u' : Value}, some u = some v → (binOp op t (.int k x) (.int k y)).run P w = .ok u' w → (∀ m, VRel m u u') → ∃ v', (binOp op t (.int k x) (.int k y)).run P w = .ok v' w ∧ ∀ m, VRel m v v' :=
    fun e h1 h2 => ⟨_, h1, Option.some.inj e ▸ h2⟩
  cases op
  case shl => exact Bool.noConfusion hop
  case shr => exact Bool.noConfusion hop
  case add => exact fin h (by simp only [binOp, ne_eq, not_true_eq_false, if_false, Op.intArith]; rfl) fun m => by rw [addI_eq]; exact .int _ _
  case sub => exact fin h (by simp only [binOp, ne_eq, not_true_eq_false, if_false, Op.intArith]; rfl) fun m => by rw [subI_eq]; exact .int _ _
  case mul => exact fin h (by simp only [binOp, ne_eq, not_true_eq_false, if_false, Op.intArith]; rfl) fun m => by rw [mulI_eq]; exact .int _ _
  case eql => exact fin h (by simp only [binOp, ne_eq, not_true_eq_false, if_false, Op.intCmp]; rfl) fun m => by rw [eqI_eq]; exact .bool _
  case neq => exact fin h (by simp only [binOp, ne_eq, not_true_eq_false, if_false, Op.intCmp]; rfl) fun m => by rw [eqI_eq]; exact .bool _
  case lss => exact fin h (by simp only [binOp, ne_eq, not_true_eq_false, if_false, Op.intCmp]; rfl) fun m => by rw [leI_eq, show (!decide (y ≤ x)) = decide (x < y) by rw [← decide_not]; congr 1; exact propext (by omega)]; exact .bool _
  case leq => exact fin h (by simp only [binOp, ne_eq, not_true_eq_false, if_false, Op.intCmp]; rfl) fun m => by rw [leI_eq]; exact .bool _
  case gtr => exact fin h (by simp only [binOp, ne_eq, not_true_eq_false, if_false, Op.intCmp]; rfl) fun m => by rw [leI_eq, show (!decide (x ≤ y)) = decide (x > y) by rw [← decide_not]; congr 1; exact propext (by omega)]; exact .bool _
  case geq => exact fin h (by simp only [binOp, ne_eq, not_true_eq_false, if_false, Op.intCmp]; rfl) fun m => by rw [leI_eq]; exact .bool _
  case quo =>
    obtain ⟨a, b, rfl, rfl, h⟩ := onNats_some h
    replace h : (Bool.rec (some (.int k (wrapN k (Nat.div a b)))) none (Nat.beq b 0) : OA) = some v := h
    cases hb : Nat.beq b 0 with
    | true => rw [hb] at h; exact noA h
    | false =>
      have hb' : b ≠ 0 := fun e => by subst e; simp at hb
      rw [hb] at h
      refine fin h ?_ fun m => .int _ _
      simp only [binOp, ne_eq, not_true_eq_false, if_false, Op.intDiv, wrapN_eq]
      rw [if_neg (by omega)]
      rfl
  case rem =>
    obtain ⟨a, b, rfl, rfl, h⟩ := onNats_some h
    replace h : (Bool.rec (some (.int k (.ofNat (Nat.mod a b)))) none (Nat.beq b 0) : OA) = some v := h
    cases hb : Nat.beq b 0 with
    | true => rw [hb] at h; exact noA h
    | false =>
      have hb' : b ≠ 0 := fun e => by subst e; simp at hb
      rw [hb] at h
      refine fin h ?_ fun m => .int _ _
      simp only [binOp, ne_eq, not_true_eq_false, if_false, Op.intDiv]
      rw [if_neg (by omega)]
      rfl
  case and =>
    obtain ⟨a, b, rfl, rfl, h⟩ := onNats_some h
    obtain ⟨hk, h⟩ := whenA_some.1 h
    rw [inK_iff] at hk
    refine fin h ?_ fun m => .int _ _
    simp only [binOp, ne_eq, not_true_eq_false, if_false, Op.intBits, bits_of k a hk.1, bits_of k b hk.2, BitVec.toNat_and, bv_toNat k a hk.1, bv_toNat k b hk.2, wrapN_eq]
    rfl
  case or =>
    obtain ⟨a, b, rfl, rfl, h⟩ := onNats_some h
    obtain ⟨hk, h⟩ := whenA_some.1 h
    rw [inK_iff] at hk
    refine fin h ?_ fun m => .int _ _
    simp only [binOp, ne_eq, not_true_eq_false, if_false, Op.intBits, bits_of k a hk.1, bits_of k b hk.2, BitVec.toNat_or, bv_toNat k a hk.1, bv_toNat k b hk.2, wrapN_eq]
    rfl
  case xor =>
    obtain ⟨a, b, rfl, rfl, h⟩ := onNats_some h
    obtain ⟨hk, h⟩ := whenA_some.1 h
    rw [inK_iff] at hk
    refine fin h ?_ fun m => .int _ _
    simp only [binOp, ne_eq, not_true_eq_false, if_false, Op.intBits, bits_of k a hk.1, bits_of k b hk.2, BitVec.toNat_xor, bv_toNat k a hk.1, bv_toNat k b hk.2, wrapN_eq]
    rfl
  case andNot =>
    obtain ⟨a, b, rfl, rfl, h⟩ := onNats_some h
    obtain ⟨hk, h⟩ := whenA_some.1 h
    rw [inK_iff] at hk
    refine fin h ?_ fun m => .int _ _
    have e : BitVec.ofNat k.bits a &&& ~~~ BitVec.ofNat k.bits b = BitVec.ofNat k.bits a ^^^ (BitVec.ofNat k.bits a &&& BitVec.ofNat k.bits b) := by
      apply BitVec.eq_of_getLsbD_eq
      intro i hi
      simp [hi]
      cases (BitVec.ofNat k.bits a)[i] <;> cases (BitVec.ofNat k.bits b)[i] <;> rfl
    simp only [binOp, ne_eq, not_true_eq_false, if_false, Op.intBits, bits_of k a hk.1, bits_of k b hk.2, e, BitVec.toNat_xor, BitVec.toNat_and, bv_toNat k a hk.1, bv_toNat k b hk.2, wrapN_eq]
    rfl

theorem shOp_run {op : BinOp} {k k' : IntKind} {x y : Int} {v : AV} {t : TypeId} (h : shOp op k x y = some v) :
    ∃ v', (binOp op t (.int k x) (.int k' y)).run P w = .ok v' w ∧ ∀ m, VRel m v v' := by
  cases op
  case add | sub | mul | quo | rem | and | or | xor | andNot | eql | neq | lss | leq | gtr | geq => exact noA h
  case shl =>
    obtain ⟨a, b, rfl, rfl, h⟩ := onNats_some h
    obtain rfl := Option.some.inj h
    refine ⟨.int k (k.wrap ((a : Int) * 2 ^ (min b k.bits))), ?_, fun m => ?_⟩
    · simp [binOp, Op.shift]; intro hneg; omega
    · rw [shlU_eq, minN_eq, bitsN_eq]; exact .int _ _
  case shr =>
    obtain ⟨a, b, rfl, rfl, h⟩ := onNats_some h
    obtain rfl := Option.some.inj h
    refine ⟨.int k ((a : Int).fdiv (2 ^ (min b k.bits))), ?_, fun m => ?_⟩
    · simp [binOp, Op.shift]; intro hneg; omega
    · rw [minN_eq, bitsN_eq]
      have e : ((a : Int).fdiv (2 ^ (min b k.bits))) = ((Nat.div a (Nat.pow 2 (min b k.bits)) : Nat) : Int) := by
        rw [show ((2 : Int) ^ (min b k.bits)) = ((2 ^ (min b k.bits) : Nat) : Int) by push_cast; rfl]
        rw [Int.fdiv_eq_ediv_of_nonneg _ (Int.natCast_nonneg _)]
        rfl
      rw [e]
      exact .int _ _
end Go.Ra
