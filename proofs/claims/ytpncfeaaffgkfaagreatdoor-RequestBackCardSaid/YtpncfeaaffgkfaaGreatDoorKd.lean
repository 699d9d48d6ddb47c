/-
  Walks over the library's numbers in hexadecimal digits: at most eight of them.
-/
import Derived.Test.YtpncfeaaffgkfaaGreatDoorD
import Derived.Test.YtpncfeaaffgkfaaGreatDoorP1
namespace Go.Proofs.YtpncfeaaffgkfaaGreatDoor
open Go.RowKit

set_option maxRecDepth 100000 in
theorem hex_cases (c : UInt8) (h : isHex c = true) : (48 ≤ (c.toNat : Int) ∧ (c.toNat : Int) ≤ 57 ∧ (hexD c : Int) = (c.toNat : Int) - 48) ∨ (58 ≤ (c.toNat : Int) ∧ (c.toNat : Int) ≠ 95 ∧ 10 ≤ hexD c ∧ hexD c ≤ 15 ∧ bits .or .u8 (c.toNat : Int) 32 = ((hexD c + 87 : Nat) : Int)) := by
  revert h
  refine u8_all (p := fun c => isHex c = true → (48 ≤ (c.toNat : Int) ∧ (c.toNat : Int) ≤ 57 ∧ (hexD c : Int) = (c.toNat : Int) - 48) ∨ (58 ≤ (c.toNat : Int) ∧ (c.toNat : Int) ≠ 95 ∧ 10 ≤ hexD c ∧ hexD c ≤ 15 ∧ bits .or .u8 (c.toNat : Int) 32 = ((hexD c + 87 : Nat) : Int))) ?_ c
  decide +kernel
theorem hexD_le (c : UInt8) (h : isHex c = true) : hexD c ≤ 15 := by
  rcases hex_cases c h with ⟨_, _, h⟩ | ⟨_, _, _, h, _⟩ <;> omega
theorem hexN_snoc (l : List UInt8) (c : UInt8) : hexN (l ++ [c]) = 16 * hexN l + hexD c := by simp [hexN]
theorem hexN_lt : ∀ (n : Nat) (l : List UInt8), l.length = n → l.all isHex = true → hexN l < 16 ^ n
  | 0, l, h, _ => by rw [List.length_eq_zero_iff.1 h]; decide
  | n + 1, l, h, ha => by
    have hne : l ≠ [] := fun e => by rw [e] at h; cases h
    rw [← List.dropLast_concat_getLast hne, hexN_snoc]
    have h1 := hexN_lt n l.dropLast (by rw [List.length_dropLast]; omega) (by
      rw [List.all_eq_true] at ha ⊢; exact fun x hx => ha x (List.dropLast_subset _ hx))
    have h2 := hexD_le (l.getLast hne) (List.all_eq_true.1 ha _ (List.getLast_mem hne))
    rw [Nat.pow_succ]; omega

set_option maxHeartbeats 4000000 in
set_option maxRecDepth 100000 in
theorem puint_any (l : List UInt8) (h0 : l ≠ []) (h8 : l.length ≤ 8) (hx : l.all isHex = true) (w : World) :
    Calls Tryz.prog 155 #[.string ⟨l.toArray⟩, .int .i64 16, .int .i64 64] w fun e w' => e = .returned (.tuple #[.int .u64 (hexN l), .nilIface]) ∧ Gr w w' := by
  have hcv : ∀ W : World, (convert 9 40 (.string ⟨l.toArray⟩)).run Tryz.prog W = .ok (.slice (some ⟨W.heap.size, 0, none⟩) (ByteArray.size ⟨l.toArray⟩) (grownCap W (ByteArray.size ⟨l.toArray⟩) 0 5)) (Lib.bytesWorld W 5 ⟨l.toArray⟩) := fun W =>
    Lib.run_convert_string_bytes W _ _ 5 _ Tryz.underlying9 Tryz.underlying40 Tryz.underlying5
  have he : l.isEmpty = false := by simpa using h0
  have hx' := Lib.hid hx
  clear hx
  go_enter Tryz.func155, Tryz.ntmps155
  go_wp2_with fail
  obtain ⟨cap, hcap⟩ : ∃ cap, grownCap w l.length 0 5 = cap := ⟨_, rfl⟩
  have hcells : ∀ j, (hj : j < l.length) → (Lib.bytesWorld w 5 ⟨l.toArray⟩).cell? ⟨w.heap.size, j, none⟩ = some (.int .u8 (l[j].toNat : Int)) := fun j hj => by
    rw [Lib.bytesWorld_cell _ _ _ _ (by rw [size_mk]; exact hj)]
    simp [List.getD, hj]
  have hgb : Gr w (Lib.bytesWorld w 5 ⟨l.toArray⟩) := Lib.bytesWorld_below _ _ _
  obtain ⟨W0, hW0⟩ : ∃ W0, Lib.bytesWorld w 5 ⟨l.toArray⟩ = W0 := ⟨_, rfl⟩
  rw [hW0] at hcells hgb ⊢
  rw [hcap]
  have hcells' := Lib.hid hcells
  obtain ⟨co, hco⟩ : ∃ co : Int, (1152921504606846976 : Int) = co := ⟨_, rfl⟩
  obtain ⟨mv, hmv⟩ : ∃ mv : Int, IntKind.u64.wrap (IntKind.u64.wrap 18446744073709551616 - 1) = mv := ⟨_, rfl⟩
  have hco1 : 5000000000 < co := by omega
  have hmv1 : 5000000000 < mv := by rw [← hmv]; decide +kernel
  rw [hco, hmv]
  clear hcv hW0 hcap hcells hco hmv
  go_loop [12, 13, 101] (fun u n i => ∃ k : Nat, k ≤ l.length ∧ u = .bool false ∧ n = .int .u64 (hexN (l.take k)) ∧ i = .int .i64 k) (fun _ _ i => l.length - (intOf i).toNat)
  case atStart => exact ⟨0, Nat.zero_le _, rfl, rfl, rfl⟩
  case round =>
    obtain ⟨k, hk, rfl, rfl, rfl⟩ := hrel
    by_cases hlt : k < l.length
    · have hc0 := hcells'.out k hlt
      have hxk := List.all_eq_true.1 hx'.out l[k] (List.getElem_mem hlt)
      have hb := hexN_lt k (l.take k) (by rw [List.length_take]; omega) (by
        rw [List.all_eq_true]; exact fun x hx => List.all_eq_true.1 hx'.out x (List.mem_of_mem_take hx))
      have hb2 : hexN (l.take k) ≤ 268435455 := by
        have : 16 ^ k ≤ 16 ^ 7 := Nat.pow_le_pow_right (by decide) (by omega)
        have e : (16 : Nat) ^ 7 = 268435456 := rfl
        omega
      have hs := Lib.hid (show hexN (l.take (k + 1)) = 16 * hexN (l.take k) + hexD l[k] by rw [List.take_succ_eq_append_getElem hlt, hexN_snoc])
      obtain ⟨n, hn⟩ : ∃ n, hexN (l.take k) = n := ⟨_, rfl⟩
      obtain ⟨c, hc⟩ : ∃ c, l[k] = c := ⟨_, rfl⟩
      have hs' := hs.out
      rw [hn, hc] at hs'
      rw [hn] at hb2 ⊢
      rw [hc] at hc0 hxk
      have hs2 := Lib.hid hs'
      have hcs := hex_cases c hxk
      obtain ⟨d, hd⟩ : ∃ d, hexD c = d := ⟨_, rfl⟩
      rw [hd] at hcs
      have hd' := Lib.hid hd
      have hbI : (n : Int) ≤ 268435455 := by omega
      clear hs hs' hb hn hc hxk hd hb2
      rcases hcs with ⟨a1, a2, a3⟩ | ⟨a1, a2, a3, a4, a5⟩
      · have a4 : ((c.toNat : Int) == 95) = false := beq_eq_false_iff_ne.2 (by omega)
        have a3' := Lib.hid a3
        clear a3
        go_wp2
        go_round
        case rel => exact ⟨k + 1, by omega, rfl, by rw [hs2.out, hd'.out]; have := a3'.out; go_num, by go_num⟩
        case measure => simp [intOf]; omega
      · have a6 : ((c.toNat : Int) == 95) = false := beq_eq_false_iff_ne.2 a2
        have hlow := Lib.hid (fun W => (Tryz.internal_strconv_lower (c.toNat : Int) W).mono (fun e w' ⟨he, hw⟩ => (show e = Ending.returned (.int .u8 ((d + 87 : Nat) : Int)) ∧ W = w' from ⟨by rw [he, a5], hw.symm⟩)))
        have hdI : (d : Int) ≤ 15 := by omega
        have hdI2 : 10 ≤ (d : Int) := by omega
        clear a2 a5
        go_wp2_with fail
        refine (hlow.out _).mono ?_
        rintro e w1 ⟨rfl, rfl⟩
        go_wp2_with fail
        refine (hlow.out _).mono ?_
        rintro e w1 ⟨rfl, rfl⟩
        go_wp2_with fail
        refine (hlow.out _).mono ?_
        rintro e w1 ⟨rfl, rfl⟩
        go_wp2
        go_round
        case rel => exact ⟨k + 1, by omega, rfl, by rw [hs2.out, hd'.out]; go_num, by go_num⟩
        case measure => simp [intOf]; omega
    · obtain rfl : k = l.length := by omega
      rw [List.take_length]
      go_wp2
      go_ret2
      exact ⟨rfl, hgb⟩
end Go.Proofs.YtpncfeaaffgkfaaGreatDoor
