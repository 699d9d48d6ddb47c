/-
  The walk over FieldAlike.
-/
import Derived.Test.YtpjocannogcejaaDoorL
import Derived.Test.YtpjocannogcejaaDoorP3
import Derived.Lib.ConvBytes
import Derived.Lib.AtoiErrMem
namespace Go.Proofs.YtpjocannogcejaaDoor
open Go.RowKit

/-- The bytes of a, the first k in great letters. -/
def upTo (a : List UInt8) (k : Nat) : List UInt8 := (a.take k).map up ++ a.drop k
theorem upTo_length (a : List UInt8) (k : Nat) : (upTo a k).length = a.length := by simp [upTo]; omega
theorem upTo_get (a : List UInt8) (k j : Nat) (hj : j < a.length) : (upTo a k)[j]'(by rw [upTo_length]; exact hj) = if j < k then up a[j] else a[j] := by
  unfold upTo
  by_cases h : j < k
  · rw [List.getElem_append_left (by simp; omega)]; simp [h]
  · rw [List.getElem_append_right (by simp; omega)]
    simp only [h, if_false]
    simp [show k ≤ a.length by omega, show k + (j - k) = j by omega]

set_option maxHeartbeats 2000000 in
theorem alikes_any (a b c : List UInt8) (w : World) (hG : G w) (ha : a.length ≤ 9223372036854775807) (hb : b.length ≤ 9223372036854775807) (hc : c.length ≤ 9223372036854775807) :
    Calls Tryd.prog 9 #[.string ⟨a.toArray⟩, .string ⟨b.toArray⟩, .string ⟨c.toArray⟩] w fun e w' => e = .returned (.bool true) ∧ Gr w w' := by
  have hG' := Lib.hid hG
  clear hG
  go_enter Tryd.func9, Tryd.ntmps9
  go_wp2_with fail
  refine (awake_any _ hG'.out).mono ?_
  rintro e w1 ⟨rfl, hbb⟩
  have hg1 := Lib.hid hbb
  clear hbb
  by_cases hl : a.length ≤ 1000 ∧ b.length ≤ 1000 ∧ c.length ≤ 1000
  · obtain ⟨hla, hlb, hlc⟩ := hl
    have hcv : ∀ W : World, (convert 9 38 (.string ⟨a.toArray⟩)).run Tryd.prog W = .ok (.slice (some ⟨W.heap.size, 0, none⟩) (ByteArray.size ⟨a.toArray⟩) (grownCap W (ByteArray.size ⟨a.toArray⟩) 0 5)) (Lib.bytesWorld W 5 ⟨a.toArray⟩) := fun W =>
      Lib.run_convert_string_bytes W _ _ 5 _ Tryd.underlying9 Tryd.underlying38 Tryd.underlying5
    go_wp2_with fail
    obtain ⟨cap, hcap⟩ : ∃ cap, grownCap w1 a.length 0 5 = cap := ⟨_, rfl⟩
    have hcells : ∀ j, (hj : j < a.length) → (Lib.bytesWorld w1 5 ⟨a.toArray⟩).cell? ⟨w1.heap.size, j, none⟩ = some (.int .u8 ((upTo a 0)[j]'(by rw [upTo_length]; exact hj)).toNat) := fun j hj => by
      rw [Lib.bytesWorld_cell _ _ _ _ (by rw [size_mk]; exact hj), upTo_get _ _ _ hj]
      simp [List.getD, hj]
    have hfrz : ∀ j, (hj : j < a.length) → (Lib.bytesWorld w1 5 ⟨a.toArray⟩).frozen? ⟨w1.heap.size, j, none⟩ = false := fun j hj => by
      have : (Lib.bytesCells w1 5 ⟨a.toArray⟩).size ≥ a.length := by simp [Lib.bytesCells]
      simp only [World.frozen?, Lib.bytesWorld_at_new]
      simp; omega
    have hgb : Gr w (Lib.bytesWorld w1 5 ⟨a.toArray⟩) := hg1.out.trans (Lib.bytesWorld_below _ _ _)
    have hw1 := Lib.hid (Below.size hg1.out)
    obtain ⟨W0, hW0⟩ : ∃ W0, Lib.bytesWorld w1 5 ⟨a.toArray⟩ = W0 := ⟨_, rfl⟩
    rw [hW0] at hcells hfrz hgb ⊢
    rw [hcap]
    clear hcv hW0 hcap
    go_loopw [8] (fun i wr => ∃ k : Nat, k ≤ a.length ∧ i = .int .i64 k ∧ (∀ j, (hj : j < a.length) → wr.cell? ⟨w1.heap.size, j, none⟩ = some (.int .u8 ((upTo a k)[j]'(by rw [upTo_length]; exact hj)).toNat)) ∧ (∀ j, (hj : j < a.length) → wr.frozen? ⟨w1.heap.size, j, none⟩ = false) ∧ Gr w wr) (fun i _ => a.length - (intOf i).toNat)
    case atStart => exact ⟨0, Nat.zero_le _, rfl, hcells, hfrz, hgb⟩
    case round =>
      obtain ⟨k, hk, rfl, hcl, hfz, hg⟩ := hrel
      have hcl' := Lib.hid hcl
      have hfz' := Lib.hid hfz
      by_cases hkl : k < a.length
      · have h1 := hcl k hkl
        rw [upTo_get _ _ _ hkl, if_neg (Nat.lt_irrefl _)] at h1
        have h2 := hfz k hkl
        obtain ⟨x, hx⟩ : ∃ x, a[k] = x := ⟨_, rfl⟩
        rw [hx] at h1
        clear hcl hfz
        have hux := up_toNat x
        have hs1 : ∀ (y : UInt8), y = up x → ∀ j, (hj : j < a.length) → (wr.setCell ⟨w1.heap.size, k, none⟩ (.int .u8 y.toNat)).cell? ⟨w1.heap.size, j, none⟩ = some (.int .u8 ((upTo a (k + 1))[j]'(by rw [upTo_length]; exact hj)).toNat) := fun y hy j hj => by
          by_cases hjk : j = k
          · subst hjk
            rw [cell_set_same h1, upTo_get _ _ _ hj, if_pos (by omega), hx, hy]
          · rw [World.cell?_setCell_other _ _ _ _ (by intro e; cases e; exact hjk rfl), hcl'.out j hj, upTo_get _ _ _ hj, upTo_get _ _ _ hj]
            by_cases h : j < k
            · rw [if_pos h, if_pos (by omega)]
            · rw [if_neg h, if_neg (by omega)]
        have hs2 : up x = x → ∀ j, (hj : j < a.length) → wr.cell? ⟨w1.heap.size, j, none⟩ = some (.int .u8 ((upTo a (k + 1))[j]'(by rw [upTo_length]; exact hj)).toNat) := fun hy j hj => by
          rw [hcl'.out j hj, upTo_get _ _ _ hj, upTo_get _ _ _ hj]
          by_cases h : j < k
          · rw [if_pos h, if_pos (by omega)]
          · by_cases hjk : j = k
            · subst hjk; rw [if_neg h, if_pos (by omega), hx, hy]
            · rw [if_neg h, if_neg (by omega)]
        have hpl : w.heap.size ≤ w1.heap.size := hw1.out
        by_cases h97 : 97 ≤ (x.toNat : Int)
        · by_cases h122 : (x.toNat : Int) ≤ 122
          · rw [if_pos ⟨h97, h122⟩] at hux
            have hux' := Lib.hid hux
            clear hux
            go_wp2
            go_roundw
            case rel =>
              refine ⟨k + 1, by omega, by go_num, ?_, fun j hj => by rw [frozen_set]; exact hfz'.out j hj, hg.setCell hpl _⟩
              have e : ((x.toNat : Int) - 32) = ((up x).toNat : Int) := hux'.out.symm
              first
                | (have := hs1 (up x) rfl; rw [← e] at this; exact this)
                | (intro j hj; have := hs1 (up x) rfl j hj; rw [← e] at this; simpa using this)
            case measure => simp [intOf]; omega
          · rw [if_neg (fun h => h122 h.2)] at hux
            have e : up x = x := UInt8.toNat_inj.1 (by omega)
            have hs3 := hs2 e
            clear hux e hs1 hs2
            go_wp2
            go_roundw
            case rel => exact ⟨k + 1, by omega, by go_num, hs3, hfz'.out, hg⟩
            case measure => simp [intOf]; omega
        · rw [if_neg (fun h => h97 h.1)] at hux
          have e : up x = x := UInt8.toNat_inj.1 (by omega)
          have hs3 := hs2 e
          clear hux e hs1 hs2
          go_wp2
          go_roundw
          case rel => exact ⟨k + 1, by omega, by go_num, hs3, hfz'.out, hg⟩
          case measure => simp [intOf]; omega
      · obtain rfl : k = a.length := by omega
        obtain ⟨g, hgd⟩ : ∃ g, a.map up = g := ⟨_, rfl⟩
        have hgl : g.length = a.length := by rw [← hgd]; simp
        have hup : upTo a a.length = g := by rw [← hgd]; simp [upTo]
        have hcv : (convert 38 9 (.slice (some ⟨w1.heap.size, 0, none⟩) g.length cap)).run Tryd.prog wr = .ok (.string ⟨g.toArray⟩) wr :=
          run_convert_bytes_back _ _ _ 5 ⟨w1.heap.size, 0, none⟩ cap g Tryd.underlying38 Tryd.underlying5 Tryd.underlying9 (fun j hj => by
            have := hcl'.out j (by omega)
            simp only [hup] at this
            have e : (Addr.add ⟨w1.heap.size, 0, none⟩ j) = ⟨w1.heap.size, j, none⟩ := by
              by_cases h0 : j = 0 <;> simp [Addr.add, h0]
            rw [e]; simpa using this)
        rw [hgl] at hcv
        have l1 := alike_refl a
        have l2 := alike_up a
        have l3 := alike_comm a b
        have l4 := alike_up_l a b
        have l5 := tokB_up a
        rw [hgd] at l2 l4 l5
        have l6 : alikeB a b = true → alikeB b c = true → alikeB a c = true := alike_trans
        have l7 : alikeB a b = true → a.length = b.length := alike_len
        obtain ⟨ab, hab⟩ : ∃ r, alikeB a b = r := ⟨_, rfl⟩
        obtain ⟨bc, hbc⟩ : ∃ r, alikeB b c = r := ⟨_, rfl⟩
        obtain ⟨ac, hac⟩ : ∃ r, alikeB a c = r := ⟨_, rfl⟩
        obtain ⟨ta, hta⟩ : ∃ r, tokB a = r := ⟨_, rfl⟩
        rw [hab] at l3 l4 l6 l7
        rw [hbc, hac] at l6
        have hl6 : ab = true → bc = true → ac = true := l6
        have hl7 : ab = true → a.length = b.length := l7
        clear l6 l7
        rw [hta] at l5
        have l1' := Lib.hid l1
        have l2' := Lib.hid l2
        have l3' := Lib.hid l3
        have l4' := Lib.hid l4
        have l5' := Lib.hid l5
        have hab' := Lib.hid hab
        have hbc' := Lib.hid hbc
        have hac' := Lib.hid hac
        have hta' := Lib.hid hta
        clear l1 l2 l3 l4 l5 hab hbc hac hta hcl hfz hcl' hfz' hup hgd
        go_wp2_with fail
        refine (alike_is a a _ l1'.out _ (hG'.out.gr hg) (by omega) (by omega)).mono ?_
        rintro e w2 ⟨rfl, hbb⟩
        have hg2 := Lib.hid (hg.trans hbb)
        clear hbb hcv
        go_wp2_with fail
        refine (alike_is a g _ l2'.out _ (hG'.out.gr hg2.out) (by omega) (by omega)).mono ?_
        rintro e w3 ⟨rfl, hbb⟩
        have hg3 := Lib.hid (hg2.out.trans hbb)
        clear hbb
        go_wp2_with fail
        refine (alike_is a b _ hab'.out _ (hG'.out.gr hg3.out) (by omega) (by omega)).mono ?_
        rintro e w4 ⟨rfl, hbb⟩
        have hg4 := Lib.hid (hg3.out.trans hbb)
        clear hbb
        go_wp2_with fail
        refine (alike_is b a _ l3'.out.symm _ (hG'.out.gr hg4.out) (by omega) (by omega)).mono ?_
        rintro e w5 ⟨rfl, hbb⟩
        have hg5 := Lib.hid (hg4.out.trans hbb)
        clear hbb
        go_wp2_with fail
        refine (alike_is a b _ hab'.out _ (hG'.out.gr hg5.out) (by omega) (by omega)).mono ?_
        rintro e w6 ⟨rfl, hbb⟩
        have hg6 := Lib.hid (hg5.out.trans hbb)
        clear hbb
        go_wp2_with fail
        refine (alike_is g b _ l4'.out _ (hG'.out.gr hg6.out) (by omega) (by omega)).mono ?_
        rintro e w7 ⟨rfl, hbb⟩
        have hg7 := Lib.hid (hg6.out.trans hbb)
        clear hbb
        cases ab
        · go_wp2_with fail
          refine (alike_is a b _ hab'.out _ (hG'.out.gr hg7.out) (by omega) (by omega)).mono ?_
          rintro e w8 ⟨rfl, hbb⟩
          have hg8 := Lib.hid (hg7.out.trans hbb)
          clear hbb
          go_wp2_with fail
          refine (alike_is a b _ hab'.out _ (hG'.out.gr hg8.out) (by omega) (by omega)).mono ?_
          rintro e w9 ⟨rfl, hbb⟩
          have hg9 := Lib.hid (hg8.out.trans hbb)
          clear hbb
          go_wp2_with fail
          refine (token_is a ta hta'.out _ (by omega)).mono ?_
          rintro e wx ⟨rfl, rfl⟩
          go_wp2_with fail
          refine (token_is g ta l5'.out _ (by omega)).mono ?_
          rintro e wx ⟨rfl, rfl⟩
          go_wp2_with fail
          go_ret
          exact ⟨by simp, hg9.out⟩
        · have hln : a.length = b.length := (by simpa using hl7)
          go_wp2_with fail
          refine (alike_is a b _ hab'.out _ (hG'.out.gr hg7.out) (by omega) (by omega)).mono ?_
          rintro e w8 ⟨rfl, hbb⟩
          have hg8 := Lib.hid (hg7.out.trans hbb)
          clear hbb
          go_wp2_with fail
          refine (alike_is b c _ hbc'.out _ (hG'.out.gr hg8.out) (by omega) (by omega)).mono ?_
          rintro e w9 ⟨rfl, hbb⟩
          have hg9 := Lib.hid (hg8.out.trans hbb)
          clear hbb
          cases bc
          · go_wp2_with fail
            refine (alike_is a b _ hab'.out _ (hG'.out.gr hg9.out) (by omega) (by omega)).mono ?_
            rintro e wa ⟨rfl, hbb⟩
            have hga := Lib.hid (hg9.out.trans hbb)
            clear hbb
            go_wp2_with fail
            refine (token_is a ta hta'.out _ (by omega)).mono ?_
            rintro e wx ⟨rfl, rfl⟩
            go_wp2_with fail
            refine (token_is g ta l5'.out _ (by omega)).mono ?_
            rintro e wx ⟨rfl, rfl⟩
            go_wp2_with fail
            go_ret
            exact ⟨by simp [hln], hga.out⟩
          · obtain rfl : ac = true := (by simpa using hl6)
            go_wp2_with fail
            refine (alike_is a c _ hac'.out _ (hG'.out.gr hg9.out) (by omega) (by omega)).mono ?_
            rintro e wa ⟨rfl, hbb⟩
            have hga := Lib.hid (hg9.out.trans hbb)
            clear hbb
            go_wp2_with fail
            refine (alike_is a b _ hab'.out _ (hG'.out.gr hga.out) (by omega) (by omega)).mono ?_
            rintro e wb ⟨rfl, hbb⟩
            have hgb := Lib.hid (hga.out.trans hbb)
            clear hbb
            go_wp2_with fail
            refine (token_is a ta hta'.out _ (by omega)).mono ?_
            rintro e wx ⟨rfl, rfl⟩
            go_wp2_with fail
            refine (token_is g ta l5'.out _ (by omega)).mono ?_
            rintro e wx ⟨rfl, rfl⟩
            go_wp2_with fail
            go_ret
            exact ⟨by simp [hln], hgb.out⟩
  · have hor : 1000 < a.length ∨ (a.length ≤ 1000 ∧ (1000 < b.length ∨ (b.length ≤ 1000 ∧ 1000 < c.length))) := by omega
    clear hl
    rcases hor with h | ⟨h, h2 | ⟨h2, h3⟩⟩
    all_goals go_wp2
    all_goals go_ret
    all_goals exact ⟨rfl, hg1.out⟩
end Go.Proofs.YtpjocannogcejaaDoor
