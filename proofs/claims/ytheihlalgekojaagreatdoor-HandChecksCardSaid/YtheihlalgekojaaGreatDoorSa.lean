/-
  Walks over package sha: turning a word, mixing three.
  Walks over package sha: numbers as bytes, bytes as numbers, the first words.
  Walks over package sha: the words of a block's rounds.
-/
import Derived.Test.YtheihlalgekojaaGreatDoorChecked
import Derived.Test.YtheihlalgekojaaGreatDoorShelf
import Derived.Test.YtheihlalgekojaaGreatDoorRf
import Derived.Test.YtheihlalgekojaaGreatDoorP16
import Derived.WalkKit
import Derived.OwnWalk
import Derived.Outline
import Derived.BigFrame
import Derived.Lib.Hide
import Derived.Deep.QuietTactic
import Derived.BigQuiet
import Derived.Laws.BitsAllLaws
import Derived.Test.YtheihlalgekojaaGreatDoorOb
import Derived.Deep.Onto
import Derived.StillTail
import Derived.Test.YtheihlalgekojaaGreatDoorAg
namespace Go.Proofs.YtheihlalgekojaaGreatDoor
open Go.RowKit

theorem or32 {a b : Nat} (ha : a < 4294967296) (hb : b < 4294967296) : bits .or .u32 (a : Int) (b : Int) = ((a ||| b : Nat) : Int) := Go.u32_or_nat a b ha hb
theorem rot_val {x n : Nat} (hx : x < 4294967296) : bits .or .u32 ((x : Int) * (2 ^ n : Nat) % 4294967296) ((x : Int) / (2 ^ (32 - n) : Nat)) = (rotW n x : Int) := by
  have := or32 (a := x * 2 ^ n % 4294967296) (b := x / 2 ^ (32 - n)) (Nat.mod_lt _ (by decide)) (Nat.lt_of_le_of_lt (Nat.div_le_self _ _) hx)
  rw [Int.natCast_emod, Int.natCast_mul, Int.natCast_ediv] at this
  exact this
set_option maxHeartbeats 1000000 in
set_option maxRecDepth 20000 in
theorem rot1_any (x : Nat) (hx : x < 4294967296) (w : World) : Calls Tryz.prog 63 #[.int .u32 x, .int .i64 1] w fun e w' => e = .returned (.int .u32 (rotW 1 x)) ∧ w = w' := by
  have e5 : bits .and .u64 1 31 = 1 := by decide
  have e27 : IntKind.u64.wrap (32 - 1) = 31 := by decide
  have hxI : (x : Int) < 4294967296 := by omega
  have hv : bits .or .u32 ((x : Int) * 2 % 4294967296) ((x : Int) / 2147483648) = (rotW 1 x : Int) := rot_val (n := 1) hx
  go_enter Tryz.func63, Tryz.ntmps63
  go_wp2
  go_ret
  exact ⟨rfl, rfl⟩
set_option maxHeartbeats 1000000 in
set_option maxRecDepth 20000 in
theorem rot5_any (x : Nat) (hx : x < 4294967296) (w : World) : Calls Tryz.prog 63 #[.int .u32 x, .int .i64 5] w fun e w' => e = .returned (.int .u32 (rotW 5 x)) ∧ w = w' := by
  have e5 : bits .and .u64 5 31 = 5 := by decide
  have e27 : IntKind.u64.wrap (32 - 5) = 27 := by decide
  have hxI : (x : Int) < 4294967296 := by omega
  have hv : bits .or .u32 ((x : Int) * 32 % 4294967296) ((x : Int) / 134217728) = (rotW 5 x : Int) := rot_val (n := 5) hx
  go_enter Tryz.func63, Tryz.ntmps63
  go_wp2
  go_ret
  exact ⟨rfl, rfl⟩
set_option maxHeartbeats 1000000 in
set_option maxRecDepth 20000 in
theorem rot30_any (x : Nat) (hx : x < 4294967296) (w : World) : Calls Tryz.prog 63 #[.int .u32 x, .int .i64 30] w fun e w' => e = .returned (.int .u32 (rotW 30 x)) ∧ w = w' := by
  have e5 : bits .and .u64 30 31 = 30 := by decide
  have e27 : IntKind.u64.wrap (32 - 30) = 2 := by decide
  have hxI : (x : Int) < 4294967296 := by omega
  have hv : bits .or .u32 ((x : Int) * 1073741824 % 4294967296) ((x : Int) / 4) = (rotW 30 x : Int) := rot_val (n := 30) hx
  go_enter Tryz.func63, Tryz.ntmps63
  go_wp2
  go_ret
  exact ⟨rfl, rfl⟩
theorem and32 {a b : Nat} (ha : a < 4294967296) (hb : b < 4294967296) : bits .and .u32 (a : Int) (b : Int) = ((a &&& b : Nat) : Int) := Go.u32_and_nat a b ha hb
theorem xor32 {a b : Nat} (ha : a < 4294967296) (hb : b < 4294967296) : bits .xor .u32 (a : Int) (b : Int) = ((a ^^^ b : Nat) : Int) := Go.u32_xor_nat a b ha hb
set_option maxHeartbeats 1000000 in
set_option maxRecDepth 100000 in
theorem mixed_any (t b c d : Nat) (ht : t < 80) (hb : b < 4294967296) (hc : c < 4294967296) (hd : d < 4294967296) (w : World) :
    Calls Tryz.prog 62 #[.int .i64 t, .int .u32 b, .int .u32 c, .int .u32 d] w fun e w' => e = .returned (.tuple #[.int .u32 (mixF t b c d), .int .u32 (mixK t)]) ∧ w = w' := by
  obtain ⟨F, hF⟩ : ∃ F, mixF t b c d = F := ⟨_, rfl⟩
  obtain ⟨K, hK⟩ : ∃ K, mixK t = K := ⟨_, rfl⟩
  rw [hF, hK]
  unfold mixF at hF
  unfold mixK at hK
  have ht80 := Lib.hid ht
  clear ht
  by_cases h20 : t < 20
  · have h1 : (t : Int) < 20 := by omega
    rw [if_pos h20] at hF hK
    subst hF hK
    clear h20
    have x1 : bits .and .u32 (b : Int) (c : Int) = ((b &&& c : Nat) : Int) := and32 hb hc
    have x2 : bits .xor .u32 IntKind.u32.max (b : Int) = ((4294967295 ^^^ b : Nat) : Int) := xor32 (a := 4294967295) (by decide) hb
    have x3 : bits .and .u32 ((4294967295 ^^^ b : Nat) : Int) (d : Int) = (((4294967295 ^^^ b) &&& d : Nat) : Int) := and32 (xor_lt32 (by decide) hb) hd
    have x4 : bits .xor .u32 ((b &&& c : Nat) : Int) (((4294967295 ^^^ b) &&& d : Nat) : Int) = (((b &&& c) ^^^ ((4294967295 ^^^ b) &&& d) : Nat) : Int) := xor32 (and_lt32 hb) (and_lt32 (xor_lt32 (by decide) hb))
    clear hb hc hd
    go_enter Tryz.func62, Tryz.ntmps62
    go_wp2
    go_ret2
    exact ⟨rfl, rfl⟩
  · rw [if_neg h20] at hF hK
    by_cases h40 : t < 40
    · have h1 : ¬ (t : Int) < 20 := by omega
      have h2 : (t : Int) < 40 := by omega
      rw [if_pos h40] at hF hK
      subst hF hK
      clear h20 h40
      have x1 : bits .xor .u32 (b : Int) (c : Int) = ((b ^^^ c : Nat) : Int) := xor32 hb hc
      have x2 : bits .xor .u32 ((b ^^^ c : Nat) : Int) (d : Int) = ((b ^^^ c ^^^ d : Nat) : Int) := xor32 (xor_lt32 hb hc) hd
      clear hb hc hd
      go_enter Tryz.func62, Tryz.ntmps62
      go_wp2
      go_ret2
      exact ⟨rfl, rfl⟩
    · rw [if_neg h40] at hF hK
      by_cases h60 : t < 60
      · have h1 : ¬ (t : Int) < 20 := by omega
        have h2 : ¬ (t : Int) < 40 := by omega
        have h3 : (t : Int) < 60 := by omega
        rw [if_pos h60] at hF hK
        subst hF hK
        clear h20 h40 h60
        have x1 : bits .and .u32 (b : Int) (c : Int) = ((b &&& c : Nat) : Int) := and32 hb hc
        have x2 : bits .and .u32 (b : Int) (d : Int) = ((b &&& d : Nat) : Int) := and32 hb hd
        have x3 : bits .and .u32 (c : Int) (d : Int) = ((c &&& d : Nat) : Int) := and32 hc hd
        have x4 : bits .xor .u32 ((b &&& c : Nat) : Int) ((b &&& d : Nat) : Int) = (((b &&& c) ^^^ (b &&& d) : Nat) : Int) := xor32 (and_lt32 hb) (and_lt32 hb)
        have x5 : bits .xor .u32 (((b &&& c) ^^^ (b &&& d) : Nat) : Int) ((c &&& d : Nat) : Int) = (((b &&& c) ^^^ (b &&& d) ^^^ (c &&& d) : Nat) : Int) := xor32 (xor_lt32 (and_lt32 hb) (and_lt32 hb)) (and_lt32 hc)
        clear hb hc hd
        go_enter Tryz.func62, Tryz.ntmps62
        go_wp2
        go_ret2
        exact ⟨rfl, rfl⟩
      · have h1 : ¬ (t : Int) < 20 := by omega
        have h2 : ¬ (t : Int) < 40 := by omega
        have h3 : ¬ (t : Int) < 60 := by omega
        rw [if_neg h60] at hF hK
        subst hF hK
        clear h20 h40 h60
        have x1 : bits .xor .u32 (b : Int) (c : Int) = ((b ^^^ c : Nat) : Int) := xor32 hb hc
        have x2 : bits .xor .u32 ((b ^^^ c : Nat) : Int) (d : Int) = ((b ^^^ c ^^^ d : Nat) : Int) := xor32 (xor_lt32 hb hc) hd
        clear hb hc hd
        go_enter Tryz.func62, Tryz.ntmps62
        go_wp2
        go_ret2
        exact ⟨rfl, rfl⟩
end Go.Proofs.YtheihlalgekojaaGreatDoor
namespace Go.Proofs.YtheihlalgekojaaGreatDoor
open Go.RowKit
attribute [local go_sem] Oper.semAt_some

def w5V (x : W5) : Value := .agg #[.int .u32 x.a, .int .u32 x.b, .int .u32 x.c, .int .u32 x.d, .int .u32 x.e]
set_option maxHeartbeats 1000000 in
set_option maxRecDepth 100000 in
theorem first_any (w : World) : Calls Tryz.prog 48 #[] w fun e w' => e = .returned (w5V first5) ∧ Gr w w' := by
  go_enter Tryz.func48, Tryz.ntmps48
  go_wp2
  refine bodyPost_ret (v := w5V first5) (by simp [results, Tryz.results48, go_sem, w5V, first5]) rfl ⟨rfl, Gr.alloc _ _⟩
set_option maxHeartbeats 1000000 in
set_option maxRecDepth 100000 in
theorem getBig_any (s : List UInt8) (hs : 4 ≤ s.length) (hl : s.length ≤ 1000000) (w : World) : Calls Tryz.prog 84 #[.string ⟨s.toArray⟩, .int .i64 4] w fun e w' => e = .returned (.int .u64 (bigN s 4)) ∧ w = w' := by
  go_enter Tryz.func84, Tryz.ntmps84
  go_wp2
  go_loop [4, 7] (fun x i => ∃ k : Nat, k ≤ 4 ∧ i = .int .i64 k ∧ x = .int .u64 (bigN s k)) (fun _ i => 4 - (intOf i).toNat)
  case atStart => exact ⟨0, by omega, rfl, rfl⟩
  case round =>
    obtain ⟨k, hk, rfl, rfl⟩ := hrel
    obtain ⟨m, hm⟩ : ∃ m, bigN s k = m := ⟨_, rfl⟩
    have hm' := Lib.hid hm
    rw [hm]
    by_cases hk4 : k < 4
    · have hkI : (k : Int) < 4 := by omega
      obtain ⟨c, hc⟩ : ∃ c, (⟨s.toArray⟩ : ByteArray)[k]'(by rw [size_mk]; omega) = c := ⟨_, rfl⟩
      have hb : byteN s k = c.toNat := by unfold byteN; rw [List.getD_eq_getElem?_getD, List.getElem?_eq_getElem (by omega)]; exact congrArg UInt8.toNat hc
      have hb' := Lib.hid hb
      have hml : m < 256 ^ 3 := Nat.lt_of_lt_of_le (hm ▸ bigN_lt s k) (Nat.pow_le_pow_right (by decide) (by omega))
      have hmI : (m : Int) ≤ 16777215 := by omega
      have hor : bits .or .u64 ((m : Int) * 256) (c.toNat : Int) = ((m * 256 + c.toNat : Nat) : Int) := by
        have h1 := Go.u64_or_nat (m * 256) c.toNat (by omega) (by have := c.toNat_lt; omega)
        rw [Go.nat_join 8 (m * 256) c.toNat (by omega) (by have := c.toNat_lt; omega)] at h1
        rw [← h1]; rfl
      have hks : k < s.length := by omega
      have hcw : IntKind.u64.wrap (c.toNat : Int) = c.toNat := by rw [Go.IntKind.wrap_u64]; have := c.toNat_lt; omega
      clear hm hb hml
      go_wp2
      go_round
      case rel => exact ⟨k + 1, by omega, by go_num, by rw [bigN, hm'.out, hb'.out]; go_num⟩
      case measure => simp [intOf]; omega
    · have hkI : ¬ (k : Int) < 4 := by omega
      have h4 : k = 4 := by omega
      go_wp2
      go_ret
      exact ⟨by rw [← hm'.out, h4]; rfl, rfl⟩
set_option maxHeartbeats 2000000 in
set_option maxRecDepth 100000 in
theorem putBig_any (x n : Nat) (hn : n ≤ 8) (hx : x < 18446744073709551616) (w : World) :
    Calls Tryz.prog 51 #[.slice none 0 0, .int .u64 x, .int .i64 n] w fun e w' => ∃ v, e = .returned v ∧ OwnB w.heap.size w' v (beB x n) ∧ Gr w w' := by
  obtain ⟨i0, hi, hz0, hz1, hz2⟩ := info_parts infoU8
  have hnI : (n : Int) ≤ 8 := by omega
  have hx' := Lib.hid hx
  clear hx
  go_enter Tryz.func51, Tryz.ntmps51
  go_wp2
  go_loopw [0, 7] (fun b i wr => ∃ (j : Nat) (acc : List UInt8), j + acc.length = n ∧ acc ++ beB x j = beB x n ∧ i = .int .i64 ((j : Int) - 1) ∧ OwnB w.heap.size wr b acc ∧ Gr w wr) (fun _ i _ => (intOf i + 1).toNat)
  case atStart => exact ⟨n, [], by simp, rfl, rfl, OwnB.nil _ _, Gr.refl _⟩
  case round =>
    obtain ⟨j, acc, hj, hacc, rfl, hown, hg⟩ := hrel
    have hown' := Lib.hid hown
    have hg' := Lib.hid hg
    have hacc' := Lib.hid hacc
    clear hown hg hacc
    cases j with
    | zero =>
      have hb := Lib.hid (show acc = beB x n by have := hacc'.out; simpa [beB] using this)
      go_wp2
      go_ret
      exact ⟨_, rfl, hb.out ▸ hown'.out, hg'.out⟩
    | succ q =>
      have hq8 : (q : Int) < 8 := by omega
      obtain ⟨d, hd⟩ : ∃ d, UInt8.ofNat (x / 256 ^ q) = d := ⟨_, rfl⟩
      have hdI : (x : Int) / 2 ^ (8 * q) % 256 = (d.toNat : Int) := by
        rw [← hd, UInt8.toNat_ofNat', show (256 : Nat) = 2 ^ 8 from rfl, ← Nat.pow_mul, Int.natCast_emod, Int.natCast_ediv]
        simp
      have hacc2 := Lib.hid (show (acc ++ [d]) ++ beB x q = beB x n by rw [← hacc'.out, ← hd]; simp [beB])
      obtain ⟨p, cap, hv⟩ := hown'.out.slice
      subst hv
      have hal : acc.length ≤ 8 := by omega
      clear hd hacc'
      go_wp2_with (at_builtin; refine wpList_append_own _ rfl _ _ 47 rfl w.heap.size 5 i0 (.int .u8 0) 1 1 Tryz.underlying47 hi hz0 hz1 hz2 rfl (by decide) _ _ _ rfl (World.ownsRow.alloc hown'.out _) ⟨wr.heap.size, 0, none⟩ 1 1 [.int .u8 d.toNat] rfl rfl (cell_one_new _ _ _) (by simp [Value.oneCell']) (by unfold maxLen; omega) (by omega) (by have := Below.size hg'.out; simp; omega) ?_; intro v' w1 hown2 hgrow _)
      have hown3 := Lib.hid (own_snoc hown2)
      have hg2 := Lib.hid (Below.grown (hg'.out.alloc1 _) hgrow (Below.size (hg'.out.alloc1 _)) (fun k e => (hown'.out.lt k e).1))
      clear hown2 hgrow
      go_wp2
      go_roundw
      case rel => exact ⟨q, acc ++ [d], by simp; omega, hacc2.out, rfl, hown3.out, hg2.out⟩
      case measure => simp [intOf]
end Go.Proofs.YtheihlalgekojaaGreatDoor
namespace Go.Proofs.YtheihlalgekojaaGreatDoor
open Go.RowKit
attribute [local go_sem] Oper.semAt_some

def wordsV (s : List UInt8) : Value := .agg ((List.range 80).map fun j => Value.int .u32 (wS s j)).toArray
theorem bigN_word (s : List UInt8) (t : Nat) : bigN (s.drop (4 * t)) 4 = word0 s t := by
  have e : ∀ i, byteN (s.drop (4 * t)) i = byteN s (4 * t + i) := fun i => by simp [byteN, List.getD_eq_getElem?_getD]
  simp only [bigN, e, word0]
  simp
theorem rot1_later (C : World → Prop) {x r : Nat} (hr : rotW 1 x = r) (hx : x < 4294967296) (y : Later C) :
    Calls Tryz.prog 63 #[.int .u32 x, .int .i64 1] y.w fun e w' => e = .returned (.int .u32 r) ∧ ∃ z : Later C, w' = z.w :=
  Calls.later ((rot1_any x hx y.w).mono fun _ _ ⟨h1, h2⟩ => ⟨hr ▸ h1, h2 ▸ y.ok⟩)
theorem cells_step {wr : World} {b t W n : Nat} {f : Nat → Nat} (hc : ∀ j, j < n → wr.cell? ⟨b, j, none⟩ = some (.int .u32 ((if j < t then f j else 0 : Nat) : Int))) (ht : t < n) (hW : f t = W) :
    ∀ j, j < n → (wr.setCell ⟨b, t, none⟩ (.int .u32 W)).cell? ⟨b, j, none⟩ = some (.int .u32 ((if j < t + 1 then f j else 0 : Nat) : Int)) := fun j hj => by
  by_cases h : j = t
  · subst h; rw [if_pos (by omega), hW]; exact cell_set_same (hc j hj)
  · rw [cell_off (hc j hj) h]
    by_cases h2 : j < t
    · rw [if_pos h2, if_pos (by omega)]
    · rw [if_neg h2, if_neg (by omega)]
set_option maxHeartbeats 4000000 in
set_option maxRecDepth 100000 in
theorem schedule_any (s : List UInt8) (hs : s.length = 64) (w : World) : Calls Tryz.prog 61 #[.string ⟨s.toArray⟩] w fun e w' => e = .returned (wordsV s) ∧ Gr w w' := by
  have hs' := Lib.hid hs
  have hsl : s.length ≤ 64 := by omega
  have hsg : 64 ≤ s.length := by omega
  clear hs
  go_enter Tryz.func61, Tryz.ntmps61
  go_wp2
  obtain ⟨b, hb⟩ : ∃ b, w.heap.size = b := ⟨_, rfl⟩
  have hb' := Lib.hid hb
  have h80 : Tryz.zeroCells95 = Array.replicate 80 (.int .u32 0) := by kernel_rfl
  have hcs := Lib.hid (show ∀ j, j < 80 → (w.alloc (.cells Tryz.zeroCells95 95)).cell? ⟨b, j, none⟩ = some (.int .u32 ((if j < 0 then wS s j else 0 : Nat) : Int)) by
    intro j hj
    rw [← hb, h80]
    simp only [World.cell?, World.alloc_heap_new]
    rw [Array.getElem?_replicate, if_pos hj]; rfl)
  have hfz := Lib.hid (show ∀ j, (w.alloc (.cells Tryz.zeroCells95 95)).frozen? ⟨b, j, none⟩ = false from hb ▸ fun j => World.frozen?_alloc_at _ _ _ _ rfl)
  rw [hb]
  clear h80 hb
  go_loopw [4] (fun i wr => ∃ t : Nat, t ≤ 80 ∧ i = .int .i64 t ∧ (∀ j, j < 80 → wr.cell? ⟨b, j, none⟩ = some (.int .u32 ((if j < t then wS s j else 0 : Nat) : Int))) ∧ (∀ j, wr.frozen? ⟨b, j, none⟩ = false) ∧ Gr w wr) (fun i _ => 80 - (intOf i).toNat)
  case atStart => exact ⟨0, by omega, rfl, hcs.out, hfz.out, Gr.alloc _ _⟩
  case round =>
    obtain ⟨t, ht, rfl, hc, hf, hg⟩ := hrel
    have hc' := Lib.hid hc
    have hf' := Lib.hid hf
    have hg' := Lib.hid hg
    clear hc hf hg
    by_cases h80 : t < 80
    · have h80I : (t : Int) < 80 := by omega
      have hct := hc'.out t h80
      have hft := hf'.out t
      have hbl : b < wr.heap.size := cell_lt hct
      by_cases h16 : t < 16
      · have h16I : (t : Int) < 16 := by omega
        have hx : (⟨s.toArray⟩ : ByteArray).extract (4 * t) s.length = ⟨(s.drop (4 * t)).toArray⟩ := by rw [extract_mk]; simp
        obtain ⟨v, hv⟩ : ∃ v, s.drop (4 * t) = v := ⟨_, rfl⟩
        have hvl := Lib.hid (show 4 ≤ v.length by rw [← hv, List.length_drop]; omega)
        have hvl2 := Lib.hid (show v.length ≤ 1000000 by rw [← hv, List.length_drop]; omega)
        have hw0 := Lib.hid (show bigN v 4 = wS s t by rw [← hv, bigN_word, wS_low s h16])
        rw [hv] at hx
        obtain ⟨W, hW⟩ : ∃ W, wS s t = W := ⟨_, rfl⟩
        have hWl : (W : Int) < 4294967296 := by have := wS_lt s t; omega
        have hWw : IntKind.u32.wrap (W : Int) = W := by rw [Go.IntKind.wrap_u32']; omega
        rw [hW] at hw0
        have hW' := Lib.hid hW
        clear hv hW
        go_wp2_with fail
        refine (getBig_any v hvl.out hvl2.out _).mono ?_
        rintro e w1 ⟨he, rfl⟩
        rw [hw0.out] at he
        subst he
        go_wp2
        go_roundw
        case rel => exact ⟨t + 1, by omega, by go_num, cells_step hc'.out h80 hW'.out, fun j => frozen_set.trans (hf'.out j), hg'.out.setCell (Nat.le_of_eq hb'.out) _⟩
        case measure => simp [intOf]; omega
      · have h16I : ¬ (t : Int) < 16 := by omega
        have d1 := hc'.out (t - 3) (by omega)
        have d2 := hc'.out (t - 8) (by omega)
        have d3 := hc'.out (t - 14) (by omega)
        have d4 := hc'.out (t - 16) (by omega)
        rw [if_pos (by omega)] at d1 d2 d3 d4
        have hwr := wS_high s h16
        have k1 := wS_lt s (t - 3)
        have k2 := wS_lt s (t - 8)
        have k3 := wS_lt s (t - 14)
        have k4 := wS_lt s (t - 16)
        obtain ⟨x1, hx1⟩ : ∃ x, wS s (t - 3) = x := ⟨_, rfl⟩
        obtain ⟨x2, hx2⟩ : ∃ x, wS s (t - 8) = x := ⟨_, rfl⟩
        obtain ⟨x3, hx3⟩ : ∃ x, wS s (t - 14) = x := ⟨_, rfl⟩
        obtain ⟨x4, hx4⟩ : ∃ x, wS s (t - 16) = x := ⟨_, rfl⟩
        rw [hx1] at d1 k1
        rw [hx2] at d2 k2
        rw [hx3] at d3 k3
        rw [hx4] at d4 k4
        rw [hx1, hx2, hx3, hx4] at hwr
        have y1 := xor32 k1 k2
        have y2 := xor32 (xor_lt32 k1 k2) k3
        have y3 := xor32 (xor_lt32 (xor_lt32 k1 k2) k3) k4
        have yl := xor_lt32 (xor_lt32 (xor_lt32 k1 k2) k3) k4
        obtain ⟨z1, hz1⟩ : ∃ z, x1 ^^^ x2 = z := ⟨_, rfl⟩
        rw [hz1] at y1 y2 y3 yl hwr
        obtain ⟨z2, hz2⟩ : ∃ z, z1 ^^^ x3 = z := ⟨_, rfl⟩
        rw [hz2] at y2 y3 yl hwr
        obtain ⟨z3, hz3⟩ : ∃ z, z2 ^^^ x4 = z := ⟨_, rfl⟩
        rw [hz3] at y3 yl hwr
        obtain ⟨W, hW⟩ : ∃ W, wS s t = W := ⟨_, rfl⟩
        rw [hW] at hwr
        have hwr' := Lib.hid hwr.symm
        have yl' := Lib.hid yl
        have hW' := Lib.hid hW
        have e1 : IntKind.i64.wrap ((t : Int) - 3) = (t : Int) - 3 := IntWalk.i64_in _ (by omega)
        have e2 : IntKind.i64.wrap ((t : Int) - 8) = (t : Int) - 8 := IntWalk.i64_in _ (by omega)
        have e3 : IntKind.i64.wrap ((t : Int) - 14) = (t : Int) - 14 := IntWalk.i64_in _ (by omega)
        have e4 : IntKind.i64.wrap ((t : Int) - 16) = (t : Int) - 16 := IntWalk.i64_in _ (by omega)
        have p1 : 3 ≤ (t : Int) := by omega
        have p2 : 8 ≤ (t : Int) := by omega
        have p3 : 14 ≤ (t : Int) := by omega
        have p4 : 16 ≤ (t : Int) := by omega
        have n1 : ((t : Int) - 3).toNat = t - 3 := by omega
        have n2 : ((t : Int) - 8).toNat = t - 8 := by omega
        have n3 : ((t : Int) - 14).toNat = t - 14 := by omega
        have n4 : ((t : Int) - 16).toNat = t - 16 := by omega
        clear hx1 hx2 hx3 hx4 k1 k2 k3 k4 hz1 hz2 hz3 hwr hW yl
        have t1 : ∀ y : Later (Gr wr), y.w.cell? ⟨b, t - 3, none⟩ = some (.int .u32 x1) := fun y => y.ok.cell d1
        have t2 : ∀ y : Later (Gr wr), y.w.cell? ⟨b, t - 8, none⟩ = some (.int .u32 x2) := fun y => y.ok.cell d2
        have t3 : ∀ y : Later (Gr wr), y.w.cell? ⟨b, t - 14, none⟩ = some (.int .u32 x3) := fun y => y.ok.cell d3
        have t4 : ∀ y : Later (Gr wr), y.w.cell? ⟨b, t - 16, none⟩ = some (.int .u32 x4) := fun y => y.ok.cell d4
        haveI : Nonempty (Later (Gr wr)) := ⟨⟨wr, Gr.refl wr⟩⟩
        go_upto_region 6 with (fail)
        refine wp_region_later_tail (C := Gr wr) 22 (by kernel_rfl) (by kernel_rfl) (Gr.drew' _) ?_
        simp only [List.take_succ_cons, List.take_zero, List.drop_succ_cons, List.drop_zero]
        repeat (go_big_quiet_step (with_reducible exact rot1_later _ hwr'.out yl'.out _))
        refine wpQuiet_nil ?_
        intro w9 hg9
        have hc9 := Lib.hid (fun j (hj : j < 80) => hg9.cell (hc'.out j hj))
        have hf9 := Lib.hid (fun j => (Below.frozen hg9 (p := ⟨b, j, none⟩) hbl).trans (hf'.out j))
        have hct9 := hc9.out t h80
        have hft9 := hf9.out t
        have hg9' := Lib.hid (hg'.out.trans hg9)
        clear hg9 t1 t2 t3 t4 hct hft d1 d2 d3 d4
        go_wp2
        go_roundw
        case rel => exact ⟨t + 1, by omega, by go_num, cells_step hc9.out h80 hW'.out, fun j => frozen_set.trans (hf9.out j), hg9'.out.setCell (Nat.le_of_eq hb'.out) _⟩
        case measure => simp [intOf]; omega
    · obtain rfl : t = 80 := by omega
      have hcs : ∀ j v, ((List.range 80).map fun j => Value.int .u32 (wS s j))[j]? = some v → wr.cell? ⟨b, 0 + j, none⟩ = some v := fun j v hv => by
        rw [List.getElem?_map] at hv
        obtain ⟨k, hk, rfl⟩ := Option.map_eq_some_iff.1 hv
        obtain ⟨hj, hjk⟩ := List.getElem?_eq_some_iff.1 hk
        rw [List.length_range] at hj
        rw [List.getElem_range] at hjk
        subst hjk
        rw [Nat.zero_add]
        have := hc'.out j hj
        rw [if_pos hj] at this
        exact this
      have hcs' := Lib.hid hcs
      clear hcs
      go_upto_region 8 with (fail)
      refine wp_region_lit ?_
      have hsz : (Tryz.prog.info? 95).map (·.size) = some ((List.range 80).map fun j => Value.int .u32 (wS s j)).length := by rw [List.length_map, List.length_range]; kernel_rfl
      have hth : wr.there b 0 80 := fun j hj => by
        rw [Nat.zero_add]
        exact ⟨by rw [hc'.out j hj]; rfl, hf'.out j⟩
      obtain ⟨cs, hcsd⟩ : ∃ cs, ((List.range 80).map fun j => Value.int .u32 (wS s j)) = cs := ⟨_, rfl⟩
      have hone : ∀ v ∈ cs, v.oneCell' = true := by
        rw [← hcsd]; intro v hv
        obtain ⟨j, _, rfl⟩ := List.mem_map.1 hv
        rfl
      have hlen : cs.length = 80 := by rw [← hcsd, List.length_map, List.length_range]
      have hV : wordsV s = .agg cs.toArray := by rw [← hcsd]; rfl
      rw [hcsd] at hcs' hsz
      refine wpList_load_mid rfl 95 _ rfl b 0 rfl cs _ hcs'.out Tryz.underlying95 rfl hsz ?_
      refine wpList_store_mid rfl 95 _ _ rfl b 0 cs.toArray rfl rfl (by simpa [hlen] using hth) (by simpa using hsz) (all_oneCell_toArray hone) ?_
      have hV' := Lib.hid hV
      have hsz' := Lib.hid hsz
      have hat := Lib.hid (World.rangeAt_setCells_same wr b 0 cs (by rw [hlen]; exact hth))
      have hg9 := Lib.hid (Gr.setCells (Nat.le_of_eq hb'.out) cs 0 hg'.out)
      clear hV hsz hcsd hone hlen hth
      simp only [List.toList_toArray]
      generalize wr.setCells b 0 cs = w9 at hat hg9 ⊢
      go_wp2
      refine bodyPost_ret (results_cell rfl rfl (run_loadVar_mid w9 b 0 95 cs _ hat.out Tryz.underlying95 rfl hsz'.out)) rfl ⟨by rw [hV'.out], hg9.out⟩
end Go.Proofs.YtheihlalgekojaaGreatDoor
