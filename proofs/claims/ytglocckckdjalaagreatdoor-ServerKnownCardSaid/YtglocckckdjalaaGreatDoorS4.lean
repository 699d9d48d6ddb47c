/-
  Texts: packed numbers are the model's bytes.
-/
import Derived.Test.YtglocckckdjalaaGreatDoorS3
set_option linter.unusedVariables false
set_option linter.unusedSimpArgs false
namespace Go.Ra

theorem packL_cons (b : UInt8) (l : List UInt8) : packL (b :: l) = b.toNat + 256 * packL l := rfl
theorem packL_nil : packL [] = 0 := rfl
theorem pow8 (n : Nat) : 2 ^ (8 * (n + 1)) = 256 * 2 ^ (8 * n) := by rw [Nat.mul_add, Nat.pow_add]; simp [Nat.mul_comm]
theorem packL_lt (l : List UInt8) : packL l < 2 ^ (8 * l.length) := by
  induction l with
  | nil => simp [packL]
  | cons b l ih =>
    rw [packL_cons, List.length_cons, pow8]
    have hb := b.toNat_lt
    have : 256 * (packL l + 1) ≤ 256 * 2 ^ (8 * l.length) := Nat.mul_le_mul_left _ ih
    omega
theorem packL_append (x y : List UInt8) : packL (x ++ y) = packL x + packL y * 2 ^ (8 * x.length) := by
  induction x with
  | nil => simp [packL]
  | cons b x ih =>
    rw [List.cons_append, packL_cons, packL_cons, ih, List.length_cons, pow8, Nat.mul_add, Nat.add_assoc]
    congr 2
    rw [← Nat.mul_assoc, Nat.mul_comm 256 (packL y), Nat.mul_assoc]
theorem packL_inj {x y : List UInt8} (hl : x.length = y.length) (h : packL x = packL y) : x = y := by
  induction x generalizing y with
  | nil => cases y with | nil => rfl | cons b y => simp at hl
  | cons a x ih =>
    cases y with
    | nil => simp at hl
    | cons b y =>
      rw [packL_cons, packL_cons] at h
      have ha := a.toNat_lt
      have hb := b.toNat_lt
      have e : a.toNat = b.toNat := by omega
      rw [ih (by simpa using hl) (by omega), UInt8.toNat_inj.1 e]
theorem packL_drop (l : List UInt8) (n : Nat) : packL (l.drop n) = packL l / 2 ^ (8 * n) := by
  induction n generalizing l with
  | zero => simp
  | succ n ih =>
    cases l with
    | nil => simp [packL]
    | cons b l =>
      rw [List.drop_succ_cons, ih, packL_cons, pow8, ← Nat.div_div_eq_div_mul]
      have hb := b.toNat_lt
      congr 1
      omega
theorem packL_take (l : List UInt8) (n : Nat) : packL (l.take n) = packL l % 2 ^ (8 * n) := by
  induction n generalizing l with
  | zero => simp [packL, Nat.mod_one]
  | succ n ih =>
    cases l with
    | nil => simp [packL]
    | cons b l =>
      rw [List.take_succ_cons, packL_cons, ih, packL_cons, pow8, Nat.mod_mul]
      have hb := b.toNat_lt
      have e1 : (b.toNat + 256 * packL l) % 256 = b.toNat := by omega
      have e2 : (b.toNat + 256 * packL l) / 256 = packL l := by omega
      rw [e1, e2]
theorem byteAt_eq (n i : Nat) : byteAt n i = n / 2 ^ (8 * i) % 256 := by
  show Nat.mod (Nat.shiftRight n (8 * i)) 256 = _
  have : Nat.shiftRight n (8 * i) = n / 2 ^ (8 * i) := Nat.shiftRight_eq_div_pow n (8 * i)
  rw [this]; rfl
theorem byteAt_packL (l : List UInt8) (i : Nat) : byteAt (packL l) i = ((l[i]?).map UInt8.toNat).getD 0 := by
  rw [byteAt_eq, ← packL_drop]
  cases h : l.drop i with
  | nil =>
    have : l.length ≤ i := List.drop_eq_nil_iff.1 h
    simp [packL, List.getElem?_eq_none this]
  | cons b t =>
    have hi : l[i]? = some b := by
      have := congrArg (·[0]?) h
      simpa using this
    rw [packL_cons, hi]
    have hb := b.toNat_lt
    show _ = b.toNat
    omega
theorem byteAt_lt {l : List UInt8} {i : Nat} (h : i < l.length) : byteAt (packL l) i = l[i].toNat := by
  rw [byteAt_packL, List.getElem?_eq_getElem h]; rfl
theorem subStr_eq (l : List UInt8) (lo hi : Nat) (h1 : lo ≤ hi) (h2 : hi ≤ l.length) : subStr (packL l) lo hi = .str ((l.drop lo).take (hi - lo)).length (packL ((l.drop lo).take (hi - lo))) := by
  unfold subStr
  rw [packL_take, packL_drop]
  have e1 : ((l.drop lo).take (hi - lo)).length = hi - lo := by simp; omega
  rw [e1]
  have : Nat.shiftRight (packL l) (Nat.mul 8 lo) = packL l / 2 ^ (8 * lo) := Nat.shiftRight_eq_div_pow _ _
  rw [this]
  rfl
theorem eqS_eq (x y : List UInt8) : eqS x.length (packL x) y.length (packL y) = decide (x = y) := by
  unfold eqS
  rw [Bool.eq_iff_iff, decide_eq_true_iff]
  by_cases h : x.length = y.length
  · rw [nbeqT h]
    show Nat.beq _ _ = true ↔ _
    rw [nbeq_iff]
    exact ⟨packL_inj h, fun e => by rw [e]⟩
  · rw [nbeqF h]
    show false = true ↔ _
    simp only [Bool.false_eq_true, false_iff]
    intro e; exact h (by rw [e])
theorem data_of_eq {x y : ByteArray} (h : x.data.toList = y.data.toList) : x = y := by
  cases x; cases y; congr 1; exact Array.toList_inj.1 h

theorem VRel.str' {m : Mp} (s : ByteArray) {len n : Nat} (h1 : s.data.toList.length = len) (h2 : packL s.data.toList = n) : VRel m (.str len n) (.string s) := by
  subst h1 h2; exact .str s
theorem VRel.strList {m : Mp} (l : List UInt8) : VRel m (.str l.length (packL l)) (.string ⟨l.toArray⟩) := .str' _ rfl rfl

variable {P : Program} {w : World}
theorem strOp_run {op : BinOp} {x y : ByteArray} {v : AV} {t : TypeId} (h : strOp op x.data.toList.length (packL x.data.toList) y.data.toList.length (packL y.data.toList) = some v) :
    ∃ v', (binOp op t (.string x) (.string y)).run P w = .ok v' w ∧ ∀ m, VRel m v v' := by
  have hb : ∀ z : ByteArray, z.toList = z.data.toList := fun z => by
    have := ByteArray.toList_mk z.data.toList
    simpa using this
  cases op
  case sub | mul | quo | rem | and | or | xor | andNot | shl | shr | lss | leq | gtr | geq => exact noA h
  case add =>
    obtain ⟨hk, h⟩ := whenA_some.1 (show whenA _ (some _) = some v from h)
    obtain rfl := Option.some.inj h
    rw [nble_iff] at hk
    replace hk : x.data.toList.length + y.data.toList.length ≤ 4611686018427387904 := hk
    refine ⟨.string (x ++ y), ?_, fun m => .str' _ ?_ ?_⟩
    · simp only [binOp, Op.stringOp]
      rw [if_neg]
      · rfl
      · have e1 : x.size = x.data.toList.length := (Array.length_toList).symm
        have e2 : y.size = y.data.toList.length := (Array.length_toList).symm
        rw [e1, e2]
        simp only [IntKind.max, IntKind.signed, IntKind.bits, if_true]
        omega
    · simp
    · rw [ByteArray.data_append, Array.toList_append, packL_append]; rfl
  case eql =>
    obtain rfl := Option.some.inj (show some _ = some v from h)
    refine ⟨.bool (x.toList == y.toList), rfl, fun m => ?_⟩
    rw [eqS_eq, hb, hb, show (x.data.toList == y.data.toList) = decide (x.data.toList = y.data.toList) by rw [Bool.eq_iff_iff]; simp]
    exact .bool _
  case neq =>
    obtain rfl := Option.some.inj (show some _ = some v from h)
    refine ⟨.bool (!(x.toList == y.toList)), rfl, fun m => ?_⟩
    rw [eqS_eq, hb, hb, show (x.data.toList == y.data.toList) = decide (x.data.toList = y.data.toList) by rw [Bool.eq_iff_iff]; simp]
    exact .bool _

/-- A number of which only a lower bound is known, against another one. -/
theorem capOp_run {op : BinOp} {lo n b : Nat} {v : AV} {t : TypeId} (hn : lo ≤ n) (hmax : n ≤ maxInt) (h : capOp op lo b = some v) :
    ∃ v', (binOp op t (.int .i64 (n : Int)) (.int .i64 (b : Int))).run P w = .ok v' w ∧ ∀ m, VRel m v v' := by
  cases op
  case add | mul | quo | rem | and | or | xor | andNot | shl | shr => exact noA h
  all_goals
    obtain ⟨hk, h⟩ := whenA_some.1 (show whenA _ (some _) = some v from h)
    obtain rfl := Option.some.inj h
    rw [nble_iff] at hk
  case sub =>
    refine ⟨.int .i64 (.ofNat (n - b)), ?_, fun m => .icap _ _ ?_ ?_⟩
    · have e : (n : Int) - b = ((n - b : Nat) : Int) := by omega
      simp only [binOp, ne_eq, not_true_eq_false, if_false, Op.intArith, e]
      rw [wrap_id .i64 (n - b) (by simp [maxN, maxInt] at *; omega)]
      rfl
    · show lo - b ≤ n - b; omega
    · omega
  case eql => exact ⟨.bool false, by simp only [binOp, ne_eq, not_true_eq_false, if_false, Op.intCmp, show ((n : Int) == b) = false by rw [beq_eq_false_iff_ne]; omega]; rfl, fun m => .bool _⟩
  case neq => exact ⟨.bool true, by simp only [binOp, ne_eq, not_true_eq_false, if_false, Op.intCmp, show ((n : Int) != b) = true by rw [bne_iff_ne]; omega]; rfl, fun m => .bool _⟩
  case lss => exact ⟨.bool false, by simp only [binOp, ne_eq, not_true_eq_false, if_false, Op.intCmp, show decide ((n : Int) < b) = false by rw [decide_eq_false_iff_not]; omega]; rfl, fun m => .bool _⟩
  case leq => exact ⟨.bool false, by simp only [binOp, ne_eq, not_true_eq_false, if_false, Op.intCmp, show decide ((n : Int) ≤ b) = false by rw [decide_eq_false_iff_not]; omega]; rfl, fun m => .bool _⟩
  case gtr => exact ⟨.bool true, by simp only [binOp, ne_eq, not_true_eq_false, if_false, Op.intCmp, show decide ((n : Int) > b) = true by rw [decide_eq_true_iff]; omega]; rfl, fun m => .bool _⟩
  case geq => exact ⟨.bool true, by simp only [binOp, ne_eq, not_true_eq_false, if_false, Op.intCmp, show decide ((n : Int) ≥ b) = true by rw [decide_eq_true_iff]; omega]; rfl, fun m => .bool _⟩
theorem opCap_run {op : BinOp} {lo n b : Nat} {v : AV} {t : TypeId} (hn : lo ≤ n) (hmax : n ≤ maxInt) (h : opCap op lo b = some v) :
    ∃ v', (binOp op t (.int .i64 (b : Int)) (.int .i64 (n : Int))).run P w = .ok v' w ∧ ∀ m, VRel m v v' := by
  cases op
  case add | sub | mul | quo | rem | and | or | xor | andNot | shl | shr => exact noA h
  all_goals
    obtain ⟨hk, h⟩ := whenA_some.1 (show whenA _ (some _) = some v from h)
    obtain rfl := Option.some.inj h
    rw [nble_iff] at hk
  case eql => exact ⟨.bool false, by simp only [binOp, ne_eq, not_true_eq_false, if_false, Op.intCmp, show ((b : Int) == n) = false by rw [beq_eq_false_iff_ne]; omega]; rfl, fun m => .bool _⟩
  case neq => exact ⟨.bool true, by simp only [binOp, ne_eq, not_true_eq_false, if_false, Op.intCmp, show ((b : Int) != n) = true by rw [bne_iff_ne]; omega]; rfl, fun m => .bool _⟩
  case lss => exact ⟨.bool true, by simp only [binOp, ne_eq, not_true_eq_false, if_false, Op.intCmp, show decide ((b : Int) < n) = true by rw [decide_eq_true_iff]; omega]; rfl, fun m => .bool _⟩
  case leq => exact ⟨.bool true, by simp only [binOp, ne_eq, not_true_eq_false, if_false, Op.intCmp, show decide ((b : Int) ≤ n) = true by rw [decide_eq_true_iff]; omega]; rfl, fun m => .bool _⟩
  case gtr => exact ⟨.bool false, by simp only [binOp, ne_eq, not_true_eq_false, if_false, Op.intCmp, show decide ((b : Int) > n) = false by rw [decide_eq_false_iff_not]; omega]; rfl, fun m => .bool _⟩
  case geq => exact ⟨.bool false, by simp only [binOp, ne_eq, not_true_eq_false, if_false, Op.intCmp, show decide ((b : Int) ≥ n) = false by rw [decide_eq_false_iff_not]; omega]; rfl, fun m => .bool _⟩

theorem iltOp_run {op : BinOp} {hi b : Nat} {n : Int} {v : AV} {t : TypeId} (hn : n < (hi : Int)) (h : iltOp op hi b = some v) :
    ∃ v', (binOp op t (.int .i64 n) (.int .i64 (b : Int))).run P w = .ok v' w ∧ ∀ m, VRel m v v' := by
  cases op
  case add | sub | mul | quo | rem | and | or | xor | andNot | shl | shr | eql | neq => exact noA h
  all_goals
    obtain ⟨hk, h⟩ := whenA_some.1 (show whenA _ (some _) = some v from h)
    obtain rfl := Option.some.inj h
    rw [nble_iff] at hk
  case lss => exact ⟨.bool true, by simp only [binOp, ne_eq, not_true_eq_false, if_false, Op.intCmp, show decide (n < b) = true by rw [decide_eq_true_iff]; omega]; rfl, fun m => .bool _⟩
  case leq => exact ⟨.bool true, by simp only [binOp, ne_eq, not_true_eq_false, if_false, Op.intCmp, show decide (n ≤ b) = true by rw [decide_eq_true_iff]; omega]; rfl, fun m => .bool _⟩
  case gtr => exact ⟨.bool false, by simp only [binOp, ne_eq, not_true_eq_false, if_false, Op.intCmp, show decide (n > b) = false by rw [decide_eq_false_iff_not]; omega]; rfl, fun m => .bool _⟩
  case geq => exact ⟨.bool false, by simp only [binOp, ne_eq, not_true_eq_false, if_false, Op.intCmp, show decide (n ≥ b) = false by rw [decide_eq_false_iff_not]; omega]; rfl, fun m => .bool _⟩

theorem isI64_iff {k : IntKind} : isI64 k = true ↔ k = .i64 := by cases k <;> simp [isI64]
theorem addT_some {op : BinOp} {v : OA} {r : AV} (h : addT op v = some r) : op = .add ∧ v = some r := by
  cases op <;> first | exact ⟨rfl, h⟩ | exact noA h
theorem add_run {t : TypeId} (x y : ByteArray) (hk : x.data.toList.length + y.data.toList.length ≤ 4611686018427387904) : (binOp .add t (.string x) (.string y)).run P w = .ok (.string (x ++ y)) w := by
  simp only [binOp, Op.stringOp]
  rw [if_neg]
  · rfl
  · have e1 : x.size = x.data.toList.length := (Array.length_toList).symm
    have e2 : y.size = y.data.toList.length := (Array.length_toList).symm
    rw [e1, e2]
    simp only [IntKind.max, IntKind.signed, IntKind.bits, if_true]
    omega
theorem add_len (x y : ByteArray) : (x ++ y).data.toList.length = x.data.toList.length + y.data.toList.length := by
  rw [ByteArray.data_append]; simp
/-- An operation of two operands. -/
theorem binA_run {m : Mp} {op : BinOp} {x y : AV} {x' y' : Value} {v : AV} {t : TypeId} (hx : VRel m x x') (hy : VRel m y y') (h : binA op x y = some v) :
    ∃ v', (binOp op t x' y').run P w = .ok v' w ∧ VRel m v v' := by
  have fin : (∃ v', (binOp op t x' y').run P w = .ok v' w ∧ ∀ m, VRel m v v') → ∃ v', (binOp op t x' y').run P w = .ok v' w ∧ VRel m v v' := fun ⟨v', a, b⟩ => ⟨v', a, b m⟩
  apply fin
  cases x with
  | undef | nl | cs _ _ | aint | bool _ | ptr _ _ | nilptr | slice _ _ _ _ _ _ | nilslice | map _ | nilmap | func _ _ _ | yield _ | nilfunc | iface _ _ | nilIface | agg _ | tuple _ => exact noA h
  | int k a =>
    cases hx
    cases y with
    | undef | nl | cs _ _ | aint | ilt _ | text _ _ | bool _ | str _ _ | ptr _ _ | nilptr | slice _ _ _ _ _ _ | nilslice | map _ | nilmap | func _ _ _ | yield _ | nilfunc | iface _ _ | nilIface | agg _ | tuple _ => exact noA h
    | int k' b =>
      cases hy
      replace h : (Bool.rec (whenA (sameK k k') (intOp op k a b)) (shOp op k a b) (isSh op) : OA) = some v := h
      cases hs : isSh op with
      | true => rw [hs] at h; exact shOp_run h
      | false =>
        rw [hs] at h
        obtain ⟨hk, h'⟩ := whenA_some.1 (show whenA _ _ = some v from h)
        obtain rfl := sameK_iff.1 hk
        exact intOp_run hs h'
    | icap lo =>
      cases hy with | icap _ n h1 h2 =>
      obtain ⟨hk, h⟩ := whenA_some.1 (show whenA _ _ = some v from h)
      obtain rfl := isI64_iff.1 hk
      cases a with
      | ofNat a => exact opCap_run h1 h2 h
      | negSucc a => exact noA h
  | icap lo =>
    cases hx with | icap _ n h1 h2 =>
    cases y with
    | undef | nl | cs _ _ | aint | ilt _ | text _ _ | bool _ | icap _ | str _ _ | ptr _ _ | nilptr | slice _ _ _ _ _ _ | nilslice | map _ | nilmap | func _ _ _ | yield _ | nilfunc | iface _ _ | nilIface | agg _ | tuple _ => exact noA h
    | int k b =>
      cases hy
      obtain ⟨hk, h⟩ := whenA_some.1 (show whenA _ _ = some v from h)
      obtain rfl := isI64_iff.1 hk
      cases b with
      | ofNat b => exact capOp_run h1 h2 h
      | negSucc b => exact noA h
  | ilt hi =>
    cases hx with | ilt _ n h1 =>
    cases y with
    | undef | nl | cs _ _ | aint | ilt _ | text _ _ | bool _ | icap _ | str _ _ | ptr _ _ | nilptr | slice _ _ _ _ _ _ | nilslice | map _ | nilmap | func _ _ _ | yield _ | nilfunc | iface _ _ | nilIface | agg _ | tuple _ => exact noA h
    | int k b =>
      cases hy
      obtain ⟨hk, h⟩ := whenA_some.1 (show whenA _ _ = some v from h)
      obtain rfl := isI64_iff.1 hk
      cases b with
      | ofNat b => exact iltOp_run h1 h
      | negSucc b => exact noA h
  | text lo hi =>
    cases hx with | text _ _ s b1 b2 =>
    cases y with
    | undef | nl | cs _ _ | aint | ilt _ | bool _ | int _ _ | icap _ | ptr _ _ | nilptr | slice _ _ _ _ _ _ | nilslice | map _ | nilmap | func _ _ _ | yield _ | nilfunc | iface _ _ | nilIface | agg _ | tuple _ => exact noA h
    | str l' n' =>
      cases hy with | str s' =>
      obtain ⟨rfl, h⟩ := addT_some h
      obtain ⟨hk, h⟩ := whenA_some.1 h
      rw [nble_iff] at hk
      obtain rfl := Option.some.inj h
      have := add_len s s'
      exact ⟨_, add_run s s' (by show _ ≤ 4611686018427387904; simp only [Nat.add_eq] at hk; omega), fun m => .text _ _ _ (by show lo + _ ≤ _; omega) (by show _ < hi + _; omega)⟩
    | text c d =>
      cases hy with | text _ _ s' b3 b4 =>
      obtain ⟨rfl, h⟩ := addT_some h
      obtain ⟨hk, h⟩ := whenA_some.1 h
      rw [nble_iff] at hk
      obtain rfl := Option.some.inj h
      have := add_len s s'
      exact ⟨_, add_run s s' (by show _ ≤ 4611686018427387904; simp only [Nat.add_eq] at hk; omega), fun m => .text _ _ _ (by show lo + c ≤ _; omega) (by show _ < (hi + d).pred; rw [Nat.pred_eq_sub_one]; omega)⟩
  | str l n =>
    cases hx with | str s =>
    cases y with
    | text c d =>
      cases hy with | text _ _ s' b3 b4 =>
      obtain ⟨rfl, h⟩ := addT_some h
      obtain ⟨hk, h⟩ := whenA_some.1 h
      rw [nble_iff] at hk
      obtain rfl := Option.some.inj h
      have := add_len s s'
      exact ⟨_, add_run s s' (by show _ ≤ 4611686018427387904; simp only [Nat.add_eq] at hk; omega), fun m => .text _ _ _ (by show _ + c ≤ _; omega) (by show _ < _ + d; omega)⟩
    | undef | nl | cs _ _ | aint | ilt _ | bool _ | int _ _ | icap _ | ptr _ _ | nilptr | slice _ _ _ _ _ _ | nilslice | map _ | nilmap | func _ _ _ | yield _ | nilfunc | iface _ _ | nilIface | agg _ | tuple _ => exact noA h
    | str l' n' =>
      cases hy with | str s' =>
      exact strOp_run h
end Go.Ra
