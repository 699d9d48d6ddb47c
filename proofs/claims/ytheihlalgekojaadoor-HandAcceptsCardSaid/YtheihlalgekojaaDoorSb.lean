/-
  Walks over package sha: numbers as bytes, bytes as numbers, the first words.
-/
import Derived.Test.YtheihlalgekojaaDoorSa
import Derived.Test.YtheihlalgekojaaDoorP17
import Derived.Test.YtheihlalgekojaaDoorOb
import Derived.Deep.Onto
namespace Go.Proofs.YtheihlalgekojaaDoor
open Go.RowKit
attribute [local go_sem] Oper.semAt_some

def w5V (x : W5) : Value := .agg #[.int .u32 x.a, .int .u32 x.b, .int .u32 x.c, .int .u32 x.d, .int .u32 x.e]
set_option maxHeartbeats 1000000 in
set_option maxRecDepth 100000 in
theorem first_any (w : World) : Calls Tryd.prog 52 #[] w fun e w' => e = .returned (w5V first5) ∧ Gr w w' := by
  go_enter Tryd.func52, Tryd.ntmps52
  go_wp2
  refine bodyPost_ret (v := w5V first5) (by simp [results, Tryd.results52, go_sem, w5V, first5]) rfl ⟨rfl, Gr.alloc _ _⟩
set_option maxHeartbeats 1000000 in
set_option maxRecDepth 100000 in
theorem getBig_any (s : List UInt8) (hs : 4 ≤ s.length) (hl : s.length ≤ 1000000) (w : World) : Calls Tryd.prog 76 #[.string ⟨s.toArray⟩, .int .i64 4] w fun e w' => e = .returned (.int .u64 (bigN s 4)) ∧ w = w' := by
  go_enter Tryd.func76, Tryd.ntmps76
  go_wp2
  go_loop [4, 7] (fun x i => ∃ k : Nat, k ≤ 4 ∧ i = .int .i64 k ∧ x = .int .u64 (bigN s k)) (fun _ i => 4 - (intOf i).toNat)
  case atStart => exact ⟨0, by omega, rfl, rfl⟩
  case round =>
    obtain ⟨k, hk, rfl, rfl⟩ := hrel
    obtain ⟨m, hm⟩ : ∃ m, bigN s k = m := ⟨_, rfl⟩
    have hm' := Lib.hid hm
    rw [hm]
    by_cases hk4 : k < 4
    · have hkI : (k : Int) < 4 := by omega
      obtain ⟨c, hc⟩ : ∃ c, (⟨s.toArray⟩ : ByteArray)[k]'(by rw [size_mk]; omega) = c := ⟨_, rfl⟩
      have hb : byteN s k = c.toNat := by unfold byteN; rw [List.getD_eq_getElem?_getD, List.getElem?_eq_getElem (by omega)]; exact congrArg UInt8.toNat hc
      have hb' := Lib.hid hb
      have hml : m < 256 ^ 3 := Nat.lt_of_lt_of_le (hm ▸ bigN_lt s k) (Nat.pow_le_pow_right (by decide) (by omega))
      have hmI : (m : Int) ≤ 16777215 := by omega
      have hor : bits .or .u64 ((m : Int) * 256) (c.toNat : Int) = ((m * 256 + c.toNat : Nat) : Int) := by
        have h1 := Go.u64_or_nat (m * 256) c.toNat (by omega) (by have := c.toNat_lt; omega)
        rw [Go.nat_join 8 (m * 256) c.toNat (by omega) (by have := c.toNat_lt; omega)] at h1
        rw [← h1]; rfl
      have hks : k < s.length := by omega
      have hcw : IntKind.u64.wrap (c.toNat : Int) = c.toNat := by rw [Go.IntKind.wrap_u64]; have := c.toNat_lt; omega
      clear hm hb hml
      go_wp2
      go_round
      case rel => exact ⟨k + 1, by omega, by go_num, by rw [bigN, hm'.out, hb'.out]; go_num⟩
      case measure => simp [intOf]; omega
    · have hkI : ¬ (k : Int) < 4 := by omega
      have h4 : k = 4 := by omega
      go_wp2
      go_ret
      exact ⟨by rw [← hm'.out, h4]; rfl, rfl⟩
set_option maxHeartbeats 2000000 in
set_option maxRecDepth 100000 in
theorem putBig_any (x n : Nat) (hn : n ≤ 8) (hx : x < 18446744073709551616) (w : World) :
    Calls Tryd.prog 55 #[.slice none 0 0, .int .u64 x, .int .i64 n] w fun e w' => ∃ v, e = .returned v ∧ OwnB w.heap.size w' v (beB x n) ∧ Gr w w' := by
  obtain ⟨i0, hi, hz0, hz1, hz2⟩ := info_parts infoU8
  have hnI : (n : Int) ≤ 8 := by omega
  have hx' := Lib.hid hx
  clear hx
  go_enter Tryd.func55, Tryd.ntmps55
  go_wp2
  go_loopw [0, 7] (fun b i wr => ∃ (j : Nat) (acc : List UInt8), j + acc.length = n ∧ acc ++ beB x j = beB x n ∧ i = .int .i64 ((j : Int) - 1) ∧ OwnB w.heap.size wr b acc ∧ Gr w wr) (fun _ i _ => (intOf i + 1).toNat)
  case atStart => exact ⟨n, [], by simp, rfl, rfl, OwnB.nil _ _, Gr.refl _⟩
  case round =>
    obtain ⟨j, acc, hj, hacc, rfl, hown, hg⟩ := hrel
    have hown' := Lib.hid hown
    have hg' := Lib.hid hg
    have hacc' := Lib.hid hacc
    clear hown hg hacc
    cases j with
    | zero =>
      have hb := Lib.hid (show acc = beB x n by have := hacc'.out; simpa [beB] using this)
      go_wp2
      go_ret
      exact ⟨_, rfl, hb.out ▸ hown'.out, hg'.out⟩
    | succ q =>
      have hq8 : (q : Int) < 8 := by omega
      obtain ⟨d, hd⟩ : ∃ d, UInt8.ofNat (x / 256 ^ q) = d := ⟨_, rfl⟩
      have hdI : (x : Int) / 2 ^ (8 * q) % 256 = (d.toNat : Int) := by
        rw [← hd, UInt8.toNat_ofNat', show (256 : Nat) = 2 ^ 8 from rfl, ← Nat.pow_mul, Int.natCast_emod, Int.natCast_ediv]
        simp
      have hacc2 := Lib.hid (show (acc ++ [d]) ++ beB x q = beB x n by rw [← hacc'.out, ← hd]; simp [beB])
      obtain ⟨p, cap, hv⟩ := hown'.out.slice
      subst hv
      have hal : acc.length ≤ 8 := by omega
      clear hd hacc'
      go_wp2_with (at_builtin; refine wpList_append_own _ rfl _ _ 37 rfl w.heap.size 5 i0 (.int .u8 0) 1 1 Tryd.underlying37 hi hz0 hz1 hz2 rfl (by decide) _ _ _ rfl (World.ownsRow.alloc hown'.out _) ⟨wr.heap.size, 0, none⟩ 1 1 [.int .u8 d.toNat] rfl rfl (cell_one_new _ _ _) (by simp [Value.oneCell']) (by unfold maxLen; omega) (by omega) (by have := Below.size hg'.out; simp; omega) ?_; intro v' w1 hown2 hgrow _)
      have hown3 := Lib.hid (own_snoc hown2)
      have hg2 := Lib.hid (Below.grown (hg'.out.alloc1 _) hgrow (Below.size (hg'.out.alloc1 _)) (fun k e => (hown'.out.lt k e).1))
      clear hown2 hgrow
      go_wp2
      go_roundw
      case rel => exact ⟨q, acc ++ [d], by simp; omega, hacc2.out, rfl, hown3.out, hg2.out⟩
      case measure => simp [intOf]
end Go.Proofs.YtheihlalgekojaaDoor
