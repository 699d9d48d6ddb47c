/-
  Walks over the reference of package chunk: a head's line.
  Walks over the reference of package chunk: a trailer's line.
-/
import Derived.Test.YtpncfeaaffgkfaaGreatDoorA
import Derived.Test.YtpncfeaaffgkfaaGreatDoorD
import Derived.Test.YtpncfeaaffgkfaaGreatDoorYm
import Derived.Test.YtpncfeaaffgkfaaGreatDoorKh
namespace Go.Proofs.YtpncfeaaffgkfaaGreatDoor
open Go.RowKit
attribute [local go_sem] Oper.semAt_some

def lrV (x : List UInt8 × Nat × Nat × Bool) : Value := .tuple #[.string ⟨x.1.toArray⟩, .int .i64 x.2.1, .int .i64 x.2.2.1, .bool x.2.2.2]
theorem lr_none {s : List UInt8} {k : Nat} (acc : List UInt8) (hk : k < s.length) : lineR none acc k (s.drop k) = if crB acc != (s[k] == 10) then ([], k + 1, 400, false) else if crB acc then (acc.dropLast, k + 1, 0, true) else if 2048 ≤ acc.length then ([], k + 1, 431, false) else lineR none (acc ++ [s[k]]) (k + 1) (s.drop (k + 1)) := by
  rw [List.drop_eq_getElem_cons hk, lineR]
  simp only [Bool.false_eq_true, if_false, Option.isNone_none, Bool.true_and, decide_eq_true_eq]
theorem acc_snoc {s : List UInt8} {a k : Nat} (ha : a ≤ k) (hk : k < s.length) : (s.drop a).take (k - a) ++ [s[k]] = (s.drop a).take (k + 1 - a) := by
  rw [show k + 1 - a = (k - a) + 1 by omega, List.take_add_one, List.getElem?_drop, show a + (k - a) = k by omega, List.getElem?_eq_getElem hk]; rfl
theorem acc_cr {s : List UInt8} {a k : Nat} (ha : a < k) (hk : k ≤ s.length) : crB ((s.drop a).take (k - a)) = (((s[k - 1]'(by omega)).toNat : Int) == 13) ∧ ((s.drop a).take (k - a)).dropLast = (s.drop a).take (k - 1 - a) := by
  have h := acc_snoc (s := s) (a := a) (k := k - 1) (by omega) (by omega)
  rw [show k - 1 + 1 - a = k - a by omega] at h
  rw [← h]
  exact ⟨crB_snoc _ _, List.dropLast_concat⟩

set_option maxHeartbeats 4000000 in
set_option maxRecDepth 20000 in
theorem rline_none (s : List UInt8) (a : Nat) (ha : a ≤ s.length) (hl : s.length ≤ 1000000) (w : World) :
    Calls Tryz.prog 55 #[.string ⟨s.toArray⟩, .int .i64 a, .int .i64 2048, .int .i64 (-1)] w fun e w' => e = .returned (lrV (lineR none [] a (s.drop a))) ∧ w = w' := by
  obtain ⟨R, hR⟩ : ∃ R, lineR none [] a (s.drop a) = R := ⟨_, rfl⟩
  rw [hR]
  have hst := Lib.hid (show lineR none ((s.drop a).take (a - a)) a (s.drop a) = R by rw [Nat.sub_self]; exact hR)
  clear hR
  go_enter Tryz.func55, Tryz.ntmps55
  go_wp2
  go_loop [12] (fun i => ∃ k : Nat, a ≤ k ∧ k ≤ s.length ∧ i = .int .i64 k ∧ lineR none ((s.drop a).take (k - a)) k (s.drop k) = R) (fun i => s.length - (intOf i).toNat)
  case atStart => exact ⟨a, Nat.le_refl _, ha, rfl, hst.out⟩
  case round =>
    obtain ⟨k, hak, hk, rfl, he⟩ := hrel
    by_cases hks : k < s.length
    · obtain ⟨c, hc⟩ : ∃ c, (⟨s.toArray⟩ : ByteArray)[k]'(by rw [size_mk]; exact hks) = c := ⟨_, rfl⟩
      rw [lr_none _ hks, acc_snoc hak hks, show s[k] = c from hc, ← ten_eq c] at he
      have hal : ((s.drop a).take (k - a)).length = k - a := by rw [List.length_take, List.length_drop]; omega
      rw [hal] at he
      by_cases hka : k = a
      · have hcr : crB ((s.drop a).take (k - a)) = false := by rw [hka, Nat.sub_self]; rfl
        have hkI : ¬ (a : Int) < k := by omega
        have hka' := Lib.hid hka
        clear hka
        cases hd : ((c.toNat : Int) == 10)
        · rw [hcr, hd, if_neg (by decide), if_neg (by decide), if_neg (by have := hka'.out; omega)] at he
          have he' := Lib.hid he
          have hm : ¬ (2048 : Int) ≤ (k : Int) - a := by have := hka'.out; omega
          clear he hal hcr
          go_wp2
          go_round
          case rel => exact ⟨k + 1, by omega, by omega, by go_num, he'.out⟩
          case measure => simp [intOf]; omega
        · rw [hcr, hd, if_pos (by decide)] at he
          have he' := Lib.hid he
          clear he hal hcr
          go_wp2
          refine bodyPost_ret (v := .tuple #[.string ⟨#[]⟩, .int .i64 (k + 1 : Nat), .int .i64 400, .bool false]) (by simp [results, Tryz.results55, go_sem]) rfl ⟨by rw [← he'.out]; rfl, rfl⟩
      · obtain ⟨h1, h2⟩ := acc_cr (s := s) (a := a) (k := k) (by omega) (by omega)
        obtain ⟨j, hj⟩ : ∃ j, k - 1 = j := ⟨_, rfl⟩
        simp only [hj] at h1 h2
        have hjs : j < s.length := by omega
        obtain ⟨x, hx⟩ : ∃ x, (⟨s.toArray⟩ : ByteArray)[j]'(by rw [size_mk]; exact hjs) = x := ⟨_, rfl⟩
        rw [show s[j] = x from hx] at h1
        rw [h1, h2] at he
        have hkI : (a : Int) < k := by omega
        have hjI : (k : Int) - 1 = j := by omega
        have hjs2 : (j : Int) < s.length := by omega
        cases hcr : ((x.toNat : Int) == 13)
        · cases hd : ((c.toNat : Int) == 10)
          · by_cases hm : 2048 ≤ k - a
            · rw [hcr, hd, if_neg (by decide), if_neg (by decide), if_pos hm] at he
              have he' := Lib.hid he
              have hm2 : (2048 : Int) ≤ (k : Int) - a := by omega
              clear he hal h1 h2 hm
              go_wp2
              refine bodyPost_ret (v := .tuple #[.string ⟨#[]⟩, .int .i64 (k + 1 : Nat), .int .i64 431, .bool false]) (by simp [results, Tryz.results55, go_sem]) rfl ⟨by rw [← he'.out]; rfl, rfl⟩
            · rw [hcr, hd, if_neg (by decide), if_neg (by decide), if_neg hm] at he
              have he' := Lib.hid he
              have hm2 : ¬ (2048 : Int) ≤ (k : Int) - a := by omega
              clear he hal h1 h2 hm
              go_wp2
              go_round
              case rel => exact ⟨k + 1, by omega, by omega, by go_num, he'.out⟩
              case measure => simp [intOf]; omega
          · rw [hcr, hd, if_pos (by decide)] at he
            have he' := Lib.hid he
            clear he hal h1 h2
            go_wp2
            refine bodyPost_ret (v := .tuple #[.string ⟨#[]⟩, .int .i64 (k + 1 : Nat), .int .i64 400, .bool false]) (by simp [results, Tryz.results55, go_sem]) rfl ⟨by rw [← he'.out]; rfl, rfl⟩
        · cases hd : ((c.toNat : Int) == 10)
          · rw [hcr, hd, if_pos (by decide)] at he
            have he' := Lib.hid he
            clear he hal h1 h2
            go_wp2
            refine bodyPost_ret (v := .tuple #[.string ⟨#[]⟩, .int .i64 (k + 1 : Nat), .int .i64 400, .bool false]) (by simp [results, Tryz.results55, go_sem]) rfl ⟨by rw [← he'.out]; rfl, rfl⟩
          · rw [hcr, hd, if_neg (by decide), if_pos rfl] at he
            have he' := Lib.hid he
            have hx2 : (⟨s.toArray⟩ : ByteArray).extract a j = ⟨((s.drop a).take (j - a)).toArray⟩ := by rw [extract_mk]; simp [List.drop_take]
            have haj : (a : Int) ≤ j := by omega
            obtain ⟨tx, htx⟩ : ∃ t, (s.drop a).take (j - a) = t := ⟨_, rfl⟩
            rw [htx] at hx2
            have htx' := Lib.hid htx
            clear he hal h1 h2 htx
            go_wp2
            refine bodyPost_ret (v := .tuple #[.string ⟨tx.toArray⟩, .int .i64 (k + 1 : Nat), .int .i64 0, .bool true]) (by simp [results, Tryz.results55, go_sem]) rfl ⟨by rw [← he'.out, htx'.out]; rfl, rfl⟩
    · obtain rfl : k = s.length := by omega
      rw [List.drop_length] at he
      have he' := Lib.hid he
      clear he
      go_wp2
      refine bodyPost_ret (v := .tuple #[.string ⟨#[]⟩, .int .i64 s.length, .int .i64 0, .bool false]) (by simp [results, Tryz.results55, go_sem]) rfl ⟨by rw [← he'.out]; rfl, rfl⟩
end Go.Proofs.YtpncfeaaffgkfaaGreatDoor
namespace Go.Proofs.YtpncfeaaffgkfaaGreatDoor
open Go.RowKit
attribute [local go_sem] Oper.semAt_some

theorem lr_some {s : List UInt8} {k L : Nat} (acc : List UInt8) (hk : k < s.length) : lineR (some L) acc k (s.drop k) = if L ≤ k then ([], k + 1, 431, false) else if crB acc != (s[k] == 10) then ([], k + 1, 400, false) else if crB acc then (acc.dropLast, k + 1, 0, true) else lineR (some L) (acc ++ [s[k]]) (k + 1) (s.drop (k + 1)) := by
  rw [List.drop_eq_getElem_cons hk, lineR]
  simp only [Bool.false_eq_true, if_false, Option.isNone_some, Bool.false_and, decide_eq_true_eq]

set_option maxHeartbeats 4000000 in
set_option maxRecDepth 20000 in
theorem rline_some (s : List UInt8) (a L : Nat) (hL2 : L ≤ 2000000) (ha : a ≤ s.length) (hl : s.length ≤ 1000000) (w : World) :
    Calls Tryz.prog 55 #[.string ⟨s.toArray⟩, .int .i64 a, .int .i64 (-1), .int .i64 L] w fun e w' => e = .returned (lrV (lineR (some L) [] a (s.drop a))) ∧ w = w' := by
  obtain ⟨R, hR⟩ : ∃ R, lineR (some L) [] a (s.drop a) = R := ⟨_, rfl⟩
  rw [hR]
  have hst := Lib.hid (show lineR (some L) ((s.drop a).take (a - a)) a (s.drop a) = R by rw [Nat.sub_self]; exact hR)
  clear hR
  go_enter Tryz.func55, Tryz.ntmps55
  go_wp2
  go_loop [12] (fun i => ∃ k : Nat, a ≤ k ∧ k ≤ s.length ∧ i = .int .i64 k ∧ lineR (some L) ((s.drop a).take (k - a)) k (s.drop k) = R) (fun i => s.length - (intOf i).toNat)
  case atStart => exact ⟨a, Nat.le_refl _, ha, rfl, hst.out⟩
  case round =>
    obtain ⟨k, hak, hk, rfl, he⟩ := hrel
    by_cases hks : k < s.length
    · obtain ⟨c, hc⟩ : ∃ c, (⟨s.toArray⟩ : ByteArray)[k]'(by rw [size_mk]; exact hks) = c := ⟨_, rfl⟩
      rw [lr_some _ hks, acc_snoc hak hks, show s[k] = c from hc, ← ten_eq c] at he
      by_cases hLk : L ≤ k
      · rw [if_pos hLk] at he
        have hLI : (L : Int) ≤ k := by omega
        have he' := Lib.hid he
        clear he
        go_wp2
        refine bodyPost_ret (v := .tuple #[.string ⟨#[]⟩, .int .i64 (k + 1 : Nat), .int .i64 431, .bool false]) (by simp [results, Tryz.results55, go_sem]) rfl ⟨by rw [← he'.out]; rfl, rfl⟩
      rw [if_neg hLk] at he
      have hLI : ¬ (L : Int) ≤ k := by omega
      by_cases hka : k = a
      · have hcr : crB ((s.drop a).take (k - a)) = false := by rw [hka, Nat.sub_self]; rfl
        have hkI : ¬ (a : Int) < k := by omega
        have hka' := Lib.hid hka
        clear hka
        cases hd : ((c.toNat : Int) == 10)
        · rw [hcr, hd, if_neg (by decide), if_neg (by decide)] at he
          have he' := Lib.hid he
          clear he hcr
          go_wp2
          go_round
          case rel => exact ⟨k + 1, by omega, by omega, by go_num, he'.out⟩
          case measure => simp [intOf]; omega
        · rw [hcr, hd, if_pos (by decide)] at he
          have he' := Lib.hid he
          clear he hcr
          go_wp2
          refine bodyPost_ret (v := .tuple #[.string ⟨#[]⟩, .int .i64 (k + 1 : Nat), .int .i64 400, .bool false]) (by simp [results, Tryz.results55, go_sem]) rfl ⟨by rw [← he'.out]; rfl, rfl⟩
      · obtain ⟨h1, h2⟩ := acc_cr (s := s) (a := a) (k := k) (by omega) (by omega)
        obtain ⟨j, hj⟩ : ∃ j, k - 1 = j := ⟨_, rfl⟩
        simp only [hj] at h1 h2
        have hjs : j < s.length := by omega
        obtain ⟨x, hx⟩ : ∃ x, (⟨s.toArray⟩ : ByteArray)[j]'(by rw [size_mk]; exact hjs) = x := ⟨_, rfl⟩
        rw [show s[j] = x from hx] at h1
        rw [h1, h2] at he
        have hkI : (a : Int) < k := by omega
        have hjI : (k : Int) - 1 = j := by omega
        have hjs2 : (j : Int) < s.length := by omega
        cases hcr : ((x.toNat : Int) == 13)
        · cases hd : ((c.toNat : Int) == 10)
          · rw [hcr, hd, if_neg (by decide), if_neg (by decide)] at he
            have he' := Lib.hid he
            clear he h1 h2
            go_wp2
            go_round
            case rel => exact ⟨k + 1, by omega, by omega, by go_num, he'.out⟩
            case measure => simp [intOf]; omega
          · rw [hcr, hd, if_pos (by decide)] at he
            have he' := Lib.hid he
            clear he h1 h2
            go_wp2
            refine bodyPost_ret (v := .tuple #[.string ⟨#[]⟩, .int .i64 (k + 1 : Nat), .int .i64 400, .bool false]) (by simp [results, Tryz.results55, go_sem]) rfl ⟨by rw [← he'.out]; rfl, rfl⟩
        · cases hd : ((c.toNat : Int) == 10)
          · rw [hcr, hd, if_pos (by decide)] at he
            have he' := Lib.hid he
            clear he h1 h2
            go_wp2
            refine bodyPost_ret (v := .tuple #[.string ⟨#[]⟩, .int .i64 (k + 1 : Nat), .int .i64 400, .bool false]) (by simp [results, Tryz.results55, go_sem]) rfl ⟨by rw [← he'.out]; rfl, rfl⟩
          · rw [hcr, hd, if_neg (by decide), if_pos rfl] at he
            have he' := Lib.hid he
            have hx2 : (⟨s.toArray⟩ : ByteArray).extract a j = ⟨((s.drop a).take (j - a)).toArray⟩ := by rw [extract_mk]; simp [List.drop_take]
            have haj : (a : Int) ≤ j := by omega
            obtain ⟨tx, htx⟩ : ∃ t, (s.drop a).take (j - a) = t := ⟨_, rfl⟩
            rw [htx] at hx2
            have htx' := Lib.hid htx
            clear he h1 h2 htx
            go_wp2
            refine bodyPost_ret (v := .tuple #[.string ⟨tx.toArray⟩, .int .i64 (k + 1 : Nat), .int .i64 0, .bool true]) (by simp [results, Tryz.results55, go_sem]) rfl ⟨by rw [← he'.out, htx'.out]; rfl, rfl⟩
    · obtain rfl : k = s.length := by omega
      rw [List.drop_length] at he
      have he' := Lib.hid he
      clear he
      go_wp2
      refine bodyPost_ret (v := .tuple #[.string ⟨#[]⟩, .int .i64 s.length, .int .i64 0, .bool false]) (by simp [results, Tryz.results55, go_sem]) rfl ⟨by rw [← he'.out]; rfl, rfl⟩
end Go.Proofs.YtpncfeaaffgkfaaGreatDoor
