/-
  The walk over b64.Encode.
-/
import Derived.Test.YtheihlalgekojaaGreatDoorBl
import Derived.Test.YtheihlalgekojaaGreatDoorP16
import Derived.Deep.QuietTactic
import Derived.BigQuiet
import Derived.Laws.BitsAllLaws
namespace Go.Proofs.YtheihlalgekojaaGreatDoor
open Go.RowKit
attribute [local go_sem] Oper.semAt_some

theorem i64_and_nat {a b : Nat} (ha : a < 4611686018427387904) (hb : b < 4611686018427387904) : bits .and .i64 (a : Int) (b : Int) = ((a &&& b : Nat) : Int) := by
  have hx : a &&& b ≤ a := Nat.and_le_left
  show IntKind.i64.wrap ((BitVec.ofInt 64 (a : Int) &&& BitVec.ofInt 64 (b : Int)).toNat : Int) = _
  rw [BitVec.toNat_and, Go.ofInt_u64 a (by omega), Go.ofInt_u64 b (by omega), IntKind.wrap_i64]
  omega
theorem i64_or_nat {a b : Nat} (ha : a < 4611686018427387904) (hb : b < 4611686018427387904) : bits .or .i64 (a : Int) (b : Int) = ((a ||| b : Nat) : Int) := by
  have hx : a ||| b < 2 ^ 62 := Nat.or_lt_two_pow (by omega) (by omega)
  show IntKind.i64.wrap ((BitVec.ofInt 64 (a : Int) ||| BitVec.ofInt 64 (b : Int)).toNat : Int) = _
  rw [BitVec.toNat_or, Go.ofInt_u64 a (by omega), Go.ofInt_u64 b (by omega), IntKind.wrap_i64]
  omega
theorem i64_join {m c : Nat} (hm : m < 4294967296) (hc : c < 256) : bits .or .i64 ((m : Int) * 256) (c : Int) = ((m * 256 + c : Nat) : Int) := by
  have h := i64_or_nat (a := m * 256) (b := c) (by omega) (by omega)
  rw [Go.nat_join 8 (m * 256) c (by omega) (by omega)] at h
  rw [← h]; rfl
theorem i64_low6 {m : Nat} (hm : m < 4294967296) : bits .and .i64 (m : Int) 63 = ((m % 64 : Nat) : Int) := by
  have h := i64_and_nat (a := m) (b := 63) (by omega) (by omega)
  rw [show (m &&& 63 : Nat) = m % 2 ^ 6 from Nat.and_two_pow_sub_one_eq_mod m 6] at h
  exact h
theorem let_tab : ∀ d : Fin 64, ((⟨#[65, 66, 67, 68, 69, 70, 71, 72, 73, 74, 75, 76, 77, 78, 79, 80, 81, 82, 83, 84, 85, 86, 87, 88, 89, 90, 97, 98, 99, 100, 101, 102, 103, 104, 105, 106, 107, 108, 109, 110, 111, 112, 113, 114, 115, 116, 117, 118, 119, 120, 121, 122, 48, 49, 50, 51, 52, 53, 54, 55, 56, 57, 43, 47]⟩ : ByteArray)[d.1]'(by have := d.2; exact Nat.lt_of_lt_of_le this (by decide))) = letB d.1 := by decide +kernel
def lenD : Value → Nat | .string s => s.size | _ => 0
theorem bcat (out : List UInt8) (c : UInt8) : Lib.byteCells out ++ [Value.int .u8 (c.toNat : Int)] = Lib.byteCells (out ++ [c]) := by simp [Lib.byteCells]
theorem byteCells_len (l : List UInt8) : (Lib.byteCells l).length = l.length := by simp [Lib.byteCells]
set_option maxHeartbeats 4000000 in
set_option maxRecDepth 100000 in
theorem encode_any (s : List UInt8) (hs : s.length ≤ 1000000) (w : World) : Calls Tryz.prog 21 #[.string ⟨s.toArray⟩] w fun e w' => e = .returned (.string ⟨(encL s).toArray⟩) ∧ Gr w w' := by
  obtain ⟨R, hR⟩ : ∃ R, encL s = R := ⟨_, rfl⟩
  rw [hR]
  have hR' := Lib.hid hR
  have hRl : R.length ≤ 1400000 := by rw [← hR, encL_len _ _ (Nat.le_refl _)]; omega
  clear hR
  go_enter Tryz.func21, Tryz.ntmps21
  go_wp2
  obtain ⟨b, hb⟩ : ∃ b, w.heap.size = b := ⟨_, rfl⟩
  have hB := Lib.hid hb
  have h0 := Lib.hid (show Bld b b (Lib.byteCells []) (w.alloc (.cells #[.pointer none, .slice none 0 0] 51)) from hb ▸ Lib.fresh_isBuilder _ _ w)
  have g0 := Lib.hid (Gr.alloc w (.cells #[.pointer none, .slice none 0 0] 51))
  rw [hb]
  clear hb
  go_loopw [0] (fun a wr => ∃ (rest out : List UInt8), a = .string ⟨rest.toArray⟩ ∧ rest.length ≤ 1000000 ∧ out ++ encL rest = R ∧ Bld b b (Lib.byteCells out) wr ∧ Gr w wr) (fun a _ => lenD a)
  case atStart => exact ⟨s, [], rfl, hs, hR'.out, h0.out, g0.out⟩
  case round =>
    obtain ⟨rest, out, rfl, hrl, hout, hbl, hg⟩ := hrel
    have hout' := Lib.hid hout
    have hbl' := Lib.hid hbl
    have hg' := Lib.hid hg
    have hol : out.length + (encL rest).length ≤ 1400000 := by rw [← List.length_append, hout]; exact hRl
    clear hout hbl hg
    by_cases hr0 : 0 < rest.length
    · have hre : rest.isEmpty = false := by simpa using List.length_pos_iff.1 hr0
      obtain ⟨n, hn⟩ : ∃ n, min 3 rest.length = n := ⟨_, rfl⟩
      have hnI : min (3 : Int) rest.length = n := by omega
      have hn' := Lib.hid hn
      have hn3 : (n : Int) ≤ 3 := by omega
      have hn1 : (1 : Int) ≤ n := by omega
      have hnl : (n : Int) ≤ rest.length := by omega
      have hstep := Lib.hid (encL_step hr0)
      have hol4 : out.length + 4 ≤ 1400000 := by rw [hstep.out, List.length_append, encG_len] at hol; omega
      have hx2 : (⟨rest.toArray⟩ : ByteArray).extract n rest.length = ⟨(rest.drop 3).toArray⟩ := by
        rw [extract_mk, ← hn]
        by_cases h3 : 3 ≤ rest.length
        · rw [Nat.min_eq_left h3]; simp
        · rw [Nat.min_eq_right (by omega), List.take_length, List.drop_length, List.drop_of_length_le (show rest.length ≤ 3 by omega)]
      have hdl := Lib.hid (show (rest.drop 3).length ≤ 1000000 by rw [List.length_drop]; omega)
      have hdl2 := Lib.hid (show (rest.drop 3).length < rest.length by rw [List.length_drop]; omega)
      have hnN : ∀ j, j < n ↔ j < 3 ∧ j < rest.length := fun j => by omega
      have hnN' := Lib.hid hnN
      clear hn hnN hol
      go_wp2
      go_loop [5, 18] (fun x i => ∃ j : Nat, j ≤ 3 ∧ i = .int .i64 j ∧ x = .int .i64 (bigN rest j)) (fun _ i => 3 - (intOf i).toNat)
      case atStart => exact ⟨0, by omega, rfl, rfl⟩
      case round =>
        obtain ⟨j, hj, rfl, rfl⟩ := hrel
        obtain ⟨m, hm⟩ : ∃ m, bigN rest j = m := ⟨_, rfl⟩
        have hm' := Lib.hid hm
        rw [hm]
        by_cases hj3 : j < 3
        · have hj3I : (j : Int) < 3 := by omega
          have hml : m < 256 ^ 2 := Nat.lt_of_lt_of_le (hm ▸ bigN_lt rest j) (Nat.pow_le_pow_right (by decide) (by omega))
          have hmI : (m : Int) ≤ 65535 := by omega
          by_cases hjn : j < n
          · have hjnI : (j : Int) < n := by omega
            have hjl : j < rest.length := ((hnN'.out j).1 hjn).2
            obtain ⟨c, hc⟩ : ∃ c, (⟨rest.toArray⟩ : ByteArray)[j]'(by rw [size_mk]; exact hjl) = c := ⟨_, rfl⟩
            have hb := Lib.hid (show byteN rest j = c.toNat by unfold byteN; rw [List.getD_eq_getElem?_getD, List.getElem?_eq_getElem hjl]; exact congrArg UInt8.toNat hc)
            have hor := i64_join (m := m) (c := c.toNat) (by omega) c.toNat_lt
            have hc255 : (c.toNat : Int) ≤ 255 := by have := c.toNat_lt; omega
            clear hm hml
            go_wp2
            go_round
            case rel => exact ⟨j + 1, by omega, by go_num, by rw [bigN, hm'.out, hb.out]; go_num⟩
            case measure => simp [intOf]; omega
          · have hjnI : ¬ (j : Int) < n := by omega
            have hb := Lib.hid (show byteN rest j = 0 by
              have : ¬ (j < 3 ∧ j < rest.length) := fun h => hjn ((hnN'.out j).2 h)
              unfold byteN; rw [List.getD_eq_getElem?_getD, List.getElem?_eq_none (by omega)]; rfl)
            clear hm hml
            go_wp2
            go_round
            case rel => exact ⟨j + 1, by omega, by go_num, by rw [bigN, hm'.out, hb.out]; go_num⟩
            case measure => simp [intOf]; omega
        · obtain rfl : j = 3 := by omega
          obtain rfl : bigN rest 3 = m := hm
          obtain ⟨X, hX⟩ : ∃ X, bigN rest 3 = X := ⟨_, rfl⟩
          have hXl : X < 16777216 := by have := bigN_lt rest 3; rw [hX] at this; exact this
          have hXI : (X : Int) < 16777216 := by omega
          rw [hX]
          have hX' := Lib.hid hX
          clear hX
          go_wp2
          go_loopw [33] (fun i wx => ∃ j : Nat, j ≤ 4 ∧ i = .int .i64 j ∧ Bld b b (Lib.byteCells (out ++ grpN n X j)) wx ∧ Gr w wx) (fun i _ => 4 - (intOf i).toNat)
          case atStart => exact ⟨0, by omega, rfl, by simpa [grpN] using hbl'.out, hg'.out⟩
          case round =>
            obtain ⟨j, hj, rfl, hb2, hgx⟩ := hrel
            have hgx' := Lib.hid hgx
            have hout2 := Lib.hid (show (out ++ grpN n X j).length + 1 ≤ 140737488355328 by rw [List.length_append, grpN_len]; omega)
            have hbs := Lib.hid (show b ≤ wr.heap.size by have := Below.size hgx; have := hB.out; omega)
            have hb2' := Lib.hid hb2
            clear hb2 hgx
            have hj' : j = 0 ∨ j = 1 ∨ j = 2 ∨ j = 3 ∨ j = 4 := by omega
            rcases hj' with rfl | rfl | rfl | rfl | rfl
            · -- letter 0
              have hj4I : ((0 : Nat) : Int) < 4 := by decide
              by_cases hjn : 0 ≤ n
              · have hjnI : (0 : Int) ≤ n := by omega
                obtain ⟨d, hd⟩ : ∃ d, X / 262144 % 64 = d := ⟨_, rfl⟩
                have hd64 : d < 64 := by omega
                have hand : bits .and .i64 ((X : Int) / 262144) 63 = (d : Int) := by
                  have := i64_low6 (m := X / 262144) (by omega)
                  rw [hd, Int.natCast_ediv] at this; exact this
                have hand2 : bits .and .i64 (X : Int) 63 = (((X % 64 : Nat)) : Int) := i64_low6 (by omega)
                have hdx := let_tab ⟨d, hd64⟩
                dsimp only at hdx
                have hlet := Lib.hid (show grpB n X 0 = letB d by unfold grpB; rw [if_pos hjn, ← hd])
              
              
                clear hd hand2
                go_wp2_with fail
                refine (writeByte_any b b _ (letB d).toNat wr hb2'.out (by rw [byteCells_len]; exact hout2.out) hbs.out).mono ?_
                rintro e w3 ⟨rfl, hb3, hg3⟩
                have hb3' := Lib.hid hb3
                have hg3' := Lib.hid (Below.trans hgx'.out (hB.out ▸ hg3))
                clear hb3 hg3
                go_wp2
                go_roundw
                case rel => exact ⟨1, by decide, by go_num, by rw [bcat, List.append_assoc, ← hlet.out] at hb3'; exact hb3'.out, hg3'.out⟩
                case measure => simp [intOf]
              · exact absurd hjn (by omega)
            · -- letter 1
              have hj4I : ((1 : Nat) : Int) < 4 := by decide
              by_cases hjn : 1 ≤ n
              · have hjnI : (1 : Int) ≤ n := by omega
                obtain ⟨d, hd⟩ : ∃ d, X / 4096 % 64 = d := ⟨_, rfl⟩
                have hd64 : d < 64 := by omega
                have hand : bits .and .i64 ((X : Int) / 4096) 63 = (d : Int) := by
                  have := i64_low6 (m := X / 4096) (by omega)
                  rw [hd, Int.natCast_ediv] at this; exact this
                have hand2 : bits .and .i64 (X : Int) 63 = (((X % 64 : Nat)) : Int) := i64_low6 (by omega)
                have hdx := let_tab ⟨d, hd64⟩
                dsimp only at hdx
                have hlet := Lib.hid (show grpB n X 1 = letB d by unfold grpB; rw [if_pos hjn, ← hd])
              
              
                clear hd hand2
                go_wp2_with fail
                refine (writeByte_any b b _ (letB d).toNat wr hb2'.out (by rw [byteCells_len]; exact hout2.out) hbs.out).mono ?_
                rintro e w3 ⟨rfl, hb3, hg3⟩
                have hb3' := Lib.hid hb3
                have hg3' := Lib.hid (Below.trans hgx'.out (hB.out ▸ hg3))
                clear hb3 hg3
                go_wp2
                go_roundw
                case rel => exact ⟨2, by decide, by go_num, by rw [bcat, List.append_assoc, ← hlet.out] at hb3'; exact hb3'.out, hg3'.out⟩
                case measure => simp [intOf]
              · exact absurd hjn (by omega)
            · -- letter 2
              have hj4I : ((2 : Nat) : Int) < 4 := by decide
              by_cases hjn : 2 ≤ n
              · have hjnI : (2 : Int) ≤ n := by omega
                obtain ⟨d, hd⟩ : ∃ d, X / 64 % 64 = d := ⟨_, rfl⟩
                have hd64 : d < 64 := by omega
                have hand : bits .and .i64 ((X : Int) / 64) 63 = (d : Int) := by
                  have := i64_low6 (m := X / 64) (by omega)
                  rw [hd, Int.natCast_ediv] at this; exact this
                have hand2 : bits .and .i64 (X : Int) 63 = (((X % 64 : Nat)) : Int) := i64_low6 (by omega)
                have hdx := let_tab ⟨d, hd64⟩
                dsimp only at hdx
                have hlet := Lib.hid (show grpB n X 2 = letB d by unfold grpB; rw [if_pos hjn, ← hd])
              
              
                clear hd hand2
                go_wp2_with fail
                refine (writeByte_any b b _ (letB d).toNat wr hb2'.out (by rw [byteCells_len]; exact hout2.out) hbs.out).mono ?_
                rintro e w3 ⟨rfl, hb3, hg3⟩
                have hb3' := Lib.hid hb3
                have hg3' := Lib.hid (Below.trans hgx'.out (hB.out ▸ hg3))
                clear hb3 hg3
                go_wp2
                go_roundw
                case rel => exact ⟨3, by decide, by go_num, by rw [bcat, List.append_assoc, ← hlet.out] at hb3'; exact hb3'.out, hg3'.out⟩
                case measure => simp [intOf]
              · have hjnI : ¬ (2 : Int) ≤ n := by omega
                have hlet := Lib.hid (show grpB n X 2 = 61 by unfold grpB; rw [if_neg hjn])
                go_wp2_with fail
                refine (writeByte_any b b _ 61 wr hb2'.out (by rw [byteCells_len]; exact hout2.out) hbs.out).mono ?_
                rintro e w3 ⟨rfl, hb3, hg3⟩
                have hb3' := Lib.hid (show Bld b b (Lib.byteCells (out ++ grpN n X 2 ++ [(61 : UInt8)])) w3 from (bcat (out ++ grpN n X 2) 61) ▸ hb3)
                have hg3' := Lib.hid (Below.trans hgx'.out (hB.out ▸ hg3))
                clear hb3 hg3
                go_wp2
                go_roundw
                case rel => exact ⟨3, by decide, by go_num, by rw [List.append_assoc, ← hlet.out] at hb3'; exact hb3'.out, hg3'.out⟩
                case measure => simp [intOf]
            · -- letter 3
              have hj4I : ((3 : Nat) : Int) < 4 := by decide
              by_cases hjn : 3 ≤ n
              · have hjnI : (3 : Int) ≤ n := by omega
                obtain ⟨d, hd⟩ : ∃ d, X / 1 % 64 = d := ⟨_, rfl⟩
                have hd64 : d < 64 := by omega
                have hand : bits .and .i64 ((X : Int) / 1) 63 = (d : Int) := by
                  have := i64_low6 (m := X / 1) (by omega)
                  rw [hd, Int.natCast_ediv] at this; exact this
                have hand2 : bits .and .i64 (X : Int) 63 = (((X % 64 : Nat)) : Int) := i64_low6 (by omega)
                have hdx := let_tab ⟨d, hd64⟩
                dsimp only at hdx
                have hlet := Lib.hid (show grpB n X 3 = letB d by unfold grpB; rw [if_pos hjn, ← hd])
                have hd3 : X % 64 = d := by rw [← hd, Nat.div_one]
                rw [hd3] at hand2
                clear hd hd3 hand
                go_wp2_with fail
                refine (writeByte_any b b _ (letB d).toNat wr hb2'.out (by rw [byteCells_len]; exact hout2.out) hbs.out).mono ?_
                rintro e w3 ⟨rfl, hb3, hg3⟩
                have hb3' := Lib.hid hb3
                have hg3' := Lib.hid (Below.trans hgx'.out (hB.out ▸ hg3))
                clear hb3 hg3
                go_wp2
                go_roundw
                case rel => exact ⟨4, by decide, by go_num, by rw [bcat, List.append_assoc, ← hlet.out] at hb3'; exact hb3'.out, hg3'.out⟩
                case measure => simp [intOf]
              · have hjnI : ¬ (3 : Int) ≤ n := by omega
                have hlet := Lib.hid (show grpB n X 3 = 61 by unfold grpB; rw [if_neg hjn])
                go_wp2_with fail
                refine (writeByte_any b b _ 61 wr hb2'.out (by rw [byteCells_len]; exact hout2.out) hbs.out).mono ?_
                rintro e w3 ⟨rfl, hb3, hg3⟩
                have hb3' := Lib.hid (show Bld b b (Lib.byteCells (out ++ grpN n X 3 ++ [(61 : UInt8)])) w3 from (bcat (out ++ grpN n X 3) 61) ▸ hb3)
                have hg3' := Lib.hid (Below.trans hgx'.out (hB.out ▸ hg3))
                clear hb3 hg3
                go_wp2
                go_roundw
                case rel => exact ⟨4, by decide, by go_num, by rw [List.append_assoc, ← hlet.out] at hb3'; exact hb3'.out, hg3'.out⟩
                case measure => simp [intOf]
            · have hfull := Lib.hid (show out ++ grpN n X 4 ++ encL (rest.drop 3) = R by
                rw [← hout'.out, hstep.out, List.append_assoc]
                unfold encG; rw [hn'.out, hX'.out])
              obtain ⟨rb, hrb⟩ : ∃ l, rest.drop 3 = l := ⟨_, rfl⟩
              rw [hrb] at hx2 hdl hdl2 hfull
              clear hrb
              go_wp2
              go_roundw
              case rel => exact ⟨rb, out ++ grpN n X 4, rfl, hdl.out, hfull.out, hb2'.out, hgx'.out⟩
              case measure => (show (⟨rb.toArray⟩ : ByteArray).size < (⟨rest.toArray⟩ : ByteArray).size); rw [size_mk, size_mk]; exact hdl2.out
    · have hr1 : rest = [] := List.eq_nil_of_length_eq_zero (by omega)
      subst hr1
      have hfin := Lib.hid (show out = R by rw [← hout'.out, encL_nil, List.append_nil])
      have hbs := Lib.hid (show b ≤ wr.heap.size by have := Below.size hg'.out; have := hB.out; omega)
      go_wp2_with fail
      refine (Tryz.Builder_String_any b b out wr hbl'.out hbs.out).mono ?_
      rintro e w3 ⟨rfl, hg3⟩
      have hg3' := Lib.hid (Below.trans hg'.out (hB.out ▸ hg3))
      clear hg3
      go_wp2
      go_ret
      exact ⟨by rw [← hfin.out]; rfl, hg3'.out⟩
end Go.Proofs.YtheihlalgekojaaGreatDoor
