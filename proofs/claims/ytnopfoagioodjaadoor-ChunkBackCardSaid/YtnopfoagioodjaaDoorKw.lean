/-
  Walks over strconv.FormatInt at base 16, for numbers up to 4096.
-/
import Derived.Test.YtnopfoagioodjaaDoorKk
import Derived.Test.YtnopfoagioodjaaDoorP14
import Derived.Laws.BitsAllLaws
namespace Go.Proofs.YtnopfoagioodjaaDoor
open Go.RowKit
attribute [local go_sem] Oper.semAt_some

/-- What counting the zero bits of 16 reads. -/
def Tz (w : World) : Prop := w.cell? ⟨3, 15, none⟩ = some (.int .u8 4)
theorem Tz.gr {w w' : World} (h : Tz w) (hb : Gr w w') : Tz w' := hb.cell h

set_option maxHeartbeats 2000000 in
set_option maxRecDepth 20000 in
theorem tz64_any (w : World) (hT : Tz w) : Calls Tryd.prog 62 #[.int .u64 16] w fun e w' => e = .returned (.int .i64 4) ∧ w = w' := by
  unfold Tz at hT
  have b1 : IntKind.u64.wrap (bits .and .u64 16 (IntKind.u64.wrap (-16)) * 285870213051353865) / 288230376151711744 = 15 := by decide +kernel
  go_enter Tryd.func62, Tryd.ntmps62
  go_wp2
  go_ret
  exact ⟨rfl, rfl⟩
set_option maxHeartbeats 2000000 in
set_option maxRecDepth 20000 in
theorem pow2_any (w : World) : Calls Tryd.prog 51 #[.int .i64 16] w fun e w' => e = .returned (.bool true) ∧ w = w' := by
  have b1 : bits .and .i64 16 15 = 0 := by decide
  go_enter Tryd.func51, Tryd.ntmps51
  go_wp2
  go_ret
  exact ⟨rfl, rfl⟩
theorem tz_any (w : World) (hT : Tz w) : Calls Tryd.prog 52 #[.int .u64 16] w fun e w' => e = .returned (.int .i64 4) ∧ w = w' := by
  go_enter Tryd.func52, Tryd.ntmps52
  go_wp2_with fail
  refine (tz64_any w hT).mono ?_
  rintro e w1 ⟨rfl, rfl⟩
  go_wp2
  go_ret
  exact ⟨rfl, rfl⟩

theorem dig_tab : ∀ d : Fin 16, ((⟨#[48, 49, 50, 51, 52, 53, 54, 55, 56, 57, 97, 98, 99, 100, 101, 102, 103, 104, 105, 106, 107, 108, 109, 110, 111, 112, 113, 114, 115, 116, 117, 118, 119, 120, 121, 122]⟩ : ByteArray)[d.1]'(by have := d.2; exact Nat.lt_of_lt_of_le this (by decide))) = hexC d.1 := by decide +kernel

set_option maxHeartbeats 4000000 in
set_option maxRecDepth 20000 in
theorem fbits_any (n : Nat) (h1 : 1 ≤ n) (h2 : n ≤ 4096) (w : World) (hT : Tz w) :
    Calls Tryd.prog 40 #[.slice none 0 0, .int .u64 n, .int .i64 16, .bool false, .bool false] w fun e w' => e = .returned (.tuple #[.slice none 0 0, .string ⟨(hexF n).toArray⟩]) ∧ Gr w w' := by
  obtain ⟨L, hL'⟩ : ∃ L, hexF n = L := ⟨_, rfl⟩
  rw [hL']
  have hL := Lib.hid hL'
  have hT' := Lib.hid hT
  clear hT hL'
  go_enter Tryd.func40, Tryd.ntmps40
  go_wp2_with fail
  refine (pow2_any _).mono ?_
  rintro e w1 ⟨rfl, rfl⟩
  go_wp2_with fail
  refine (tz_any _ (hT'.out.gr (Gr.alloc _ _))).mono ?_
  rintro e w1 ⟨rfl, hw1⟩
  have hg1 := Lib.hid (hw1 ▸ Gr.alloc w _ : Gr w w1)
  have hcs := Lib.hid (show ∀ j, j < 65 → ∃ z, w1.cell? ⟨w.heap.size, j, none⟩ = some (.int .u8 z) from by
    subst hw1; intro j hj; refine ⟨0, ?_⟩
    have h65 : Tryd.zeroCells82 = Array.replicate 65 (.int .u8 0) := by kernel_rfl
    rw [h65]
    simp only [World.cell?, World.alloc_heap_new]
    rw [Array.getElem?_replicate, if_pos hj]; rfl)
  have hfz := Lib.hid (show ∀ j, w1.frozen? ⟨w.heap.size, j, none⟩ = false from hw1 ▸ fun j => World.frozen?_alloc_at _ _ _ _ rfl)
  clear hw1
  obtain ⟨b, hb⟩ : ∃ b, w.heap.size = b := ⟨_, rfl⟩
  rw [hb] at hcs hfz
  have hb' := Lib.hid hb
  go_wp2
  clear hb
  go_loopw [1, 13] (fun u i wx => ∃ (k p m : Nat), k + p = 65 ∧ k ≤ 3 ∧ 1 ≤ m ∧ m ≤ 4096 ∧ n / 16 ^ k = m ∧ u = .int .u64 m ∧ i = .int .i64 p ∧ Gr w wx ∧ (∀ j, j < 65 → ∃ z, wx.cell? ⟨b, j, none⟩ = some (.int .u8 z)) ∧ (∀ j, wx.frozen? ⟨b, j, none⟩ = false) ∧ (∀ i, i < k → wx.cell? ⟨b, 64 - i, none⟩ = some (.int .u8 (hexC (n / 16 ^ i % 16)).toNat))) (fun u _ _ => (intOf u).toNat)
  case atStart => exact ⟨0, 65, n, rfl, by omega, h1, h2, by simp, rfl, rfl, hg1.out, hcs.out, hfz.out, fun i hi => absurd hi (Nat.not_lt_zero _)⟩
  case round =>
    obtain ⟨k, p, m, hkp, hk3, hm1, hm4, hnm, rfl, rfl, hg2, hcs2, hfz2, hdg⟩ := hrel
    obtain ⟨q, rfl⟩ : ∃ q, p = q + 1 := ⟨p - 1, by omega⟩
    obtain ⟨z, hz⟩ := hcs2 q (by omega)
    have hfq := hfz2 q
    have hqI : (q : Int) < 65 := by omega
    have hmI : (m : Int) ≤ 4096 := by omega
    have hg2' := Lib.hid hg2
    have hcs2' := Lib.hid hcs2
    have hfz2' := Lib.hid hfz2
    have hdg' := Lib.hid hdg
    have hnm' := Lib.hid hnm
    clear hg2 hcs2 hfz2 hdg hnm
    by_cases h16 : 16 ≤ m
    · have h16I : (16 : Int) ≤ m := by omega
      obtain ⟨d, hd⟩ : ∃ d, m % 16 = d := ⟨_, rfl⟩
      have hd16 : d < 16 := by omega
      have hba : bits .and .u64 (m : Int) 15 = (d : Int) := by
        have := Go.u64_and_nat m 15 (by omega) (by omega)
        rw [show (m &&& 15 : Nat) = m % 2 ^ 4 from Nat.and_two_pow_sub_one_eq_mod m 4] at this
        rw [← hd]; exact this
      have hdx := dig_tab ⟨d, hd16⟩
      dsimp only at hdx
      go_wp2
      go_roundw
      case rel =>
        have hk2 : k ≤ 2 := by
          have e := hnm'.out
          rcases (show k ≤ 2 ∨ k = 3 by omega) with h | rfl
          · exact h
          · simp only [Nat.reducePow] at e; omega
        clear hba hdx
        refine ⟨k + 1, q, m / 16, by omega, by omega, by omega, by omega, ?_, by go_num, by go_num, hg2'.out.setCell (Nat.le_of_eq hb'.out) _, fun j hj => ?_, fun j => frozen_set.trans (hfz2'.out j), fun i hi => ?_⟩
        · rw [← hnm'.out, Nat.div_div_eq_div_mul, Nat.pow_succ]
        · by_cases hjq : j = q
          · subst hjq; exact ⟨_, cell_set_same hz⟩
          · obtain ⟨z2, hz2⟩ := hcs2'.out j hj
            exact ⟨z2, cell_off hz2 hjq⟩
        · by_cases hik : i = k
          · subst hik
            rw [show 64 - i = q by omega, hnm'.out, hd]
            exact cell_set_same hz
          · exact cell_off (hdg'.out i (by omega)) (by omega)
      case measure => simp [intOf]; omega
    · have h16I : ¬ (16 : Int) ≤ m := by omega
      have hdx := dig_tab ⟨m, by omega⟩
      dsimp only at hdx
      obtain ⟨k1, k2, k3⟩ := hexF_at h2 hk3 (by rw [hnm'.out]; exact hm1) (by rw [hnm'.out]; omega)
      rw [hL.out] at k1 k2 k3
      have hcv : ∀ cap, (convert 31 9 (.slice (some ⟨b, q, none⟩) (65 - q) cap)).run Tryd.prog (wr.setCell ⟨b, q, none⟩ (.int .u8 (hexC m).toNat)) = .ok (.string ⟨L.toArray⟩) (wr.setCell ⟨b, q, none⟩ (.int .u8 (hexC m).toNat)) := fun cap => by
        rw [show 65 - q = L.length by omega]
        exact run_convert_bytes_back _ _ _ 5 ⟨b, q, none⟩ cap L Tryd.underlying31 Tryd.underlying5 Tryd.underlying9 (fun j hj => by
          have e : Addr.add ⟨b, q, none⟩ j = ⟨b, q + j, none⟩ := by
            by_cases h0 : j = 0 <;> simp [Addr.add, h0]
          rw [e]
          by_cases h0 : j = 0
          · subst h0
            have : L[0] = hexC m := by rw [List.getElem?_eq_getElem hj, hnm'.out] at k2; exact Option.some.inj k2
            rw [this]; exact cell_set_same hz
          · have h4 := k3 (k - j) (by omega)
            rw [show k - (k - j) = j by omega, List.getElem?_eq_getElem hj] at h4
            have h5 := hdg'.out (k - j) (by omega)
            rw [show 64 - (k - j) = q + j by omega] at h5
            rw [Option.some.inj h4]
            exact cell_off h5 (by omega))
      clear k1 k2 k3
      have hq1 : (q : Int) ≤ 65 := by omega
      have hq2 : ¬ 65 = q := by omega
      go_wp2
      go_ret2
      exact ⟨rfl, hg2'.out.setCell (Nat.le_of_eq hb'.out) _⟩

set_option maxHeartbeats 2000000 in
set_option maxRecDepth 20000 in
theorem ifmt_any (n : Nat) (h1 : 1 ≤ n) (h2 : n ≤ 4096) (w : World) (hT : Tz w) :
    Calls Tryd.prog 25 #[.int .i64 n, .int .i64 16] w fun e w' => e = .returned (.string ⟨(hexF n).toArray⟩) ∧ Gr w w' := by
  have hnI : (n : Int) ≤ 4096 := by omega
  have hn0 : ¬ ((n : Int) < 0) := by omega
  go_enter Tryd.func25, Tryd.ntmps25
  go_wp2_with fail
  refine (fbits_any n h1 h2 _ hT).mono ?_
  rintro e w1 ⟨rfl, hg⟩
  go_wp2
  go_ret
  exact ⟨rfl, hg⟩
set_option maxHeartbeats 2000000 in
set_option maxRecDepth 20000 in
theorem fmt_any (n : Nat) (h1 : 1 ≤ n) (h2 : n ≤ 4096) (w : World) (hT : Tz w) :
    Calls Tryd.prog 17 #[.int .i64 n, .int .i64 16] w fun e w' => e = .returned (.string ⟨(hexF n).toArray⟩) ∧ Gr w w' := by
  go_enter Tryd.func17, Tryd.ntmps17
  go_wp2_with fail
  refine (ifmt_any n h1 h2 _ hT).mono ?_
  rintro e w1 ⟨rfl, hg⟩
  go_wp2
  go_ret
  exact ⟨rfl, hg⟩
end Go.Proofs.YtnopfoagioodjaaDoor
