/-
  Walks over package line: a target's text, a target, a request's line.
-/
import Derived.Test.YtpncfeaaffgkfaaGreatDoorD
import Derived.Test.YtpncfeaaffgkfaaGreatDoorP1
import Derived.Maps.Own
import Derived.Maps.OwnOps
import Derived.Maps.Views
namespace Go.Proofs.YtpncfeaaffgkfaaGreatDoor
open Go.RowKit Go.Maps Go.ChangeMaps

def IdxYes (w : World) (e : Ending) (w' : World) : Prop := ∃ n : Int, 0 ≤ n ∧ e = .returned (.int .i64 n) ∧ w = w'
def IdxNo (w : World) (e : Ending) (w' : World) : Prop := ∃ n : Int, n < 0 ∧ e = .returned (.int .i64 n) ∧ w = w'
theorem idx_yes (M : List UInt8) (c : UInt8) (h : M.contains c = true) (w : World) : Calls Tryz.prog 62 #[.string ⟨M.toArray⟩, .int .u8 c.toNat] w (IdxYes w) :=
  (Tryz.strings_IndexByte ⟨M.toArray⟩ c.toNat w).mono fun e w' ⟨he, hw⟩ => ⟨_, by
    have := indexByte_nonneg M c
    rw [h, decide_eq_true_eq] at this
    rw [toNat_u8]; exact this, he, hw.symm⟩
theorem idx_no (M : List UInt8) (c : UInt8) (h : M.contains c = false) (w : World) : Calls Tryz.prog 62 #[.string ⟨M.toArray⟩, .int .u8 c.toNat] w (IdxNo w) :=
  (Tryz.strings_IndexByte ⟨M.toArray⟩ c.toNat w).mono fun e w' ⟨he, hw⟩ => ⟨_, by
    have := indexByte_nonneg M c
    rw [h, decide_eq_false_iff_not] at this
    rw [toNat_u8]
    show Lib.indexByte M c < 0
    omega, he, hw.symm⟩

def moreL (q : Bool) : List UInt8 := if q then [63] else []
theorem path_more (q : Bool) (c : UInt8) : (isPath c || (q && c == 63)) = (isLetter c || (pmarks ++ moreL q).contains c) := by
  unfold isPath moreL
  cases q
  · simp
  · rw [if_pos rfl, List.contains_append, Bool.true_and, Bool.or_assoc]
    congr 2
    rw [Bool.eq_iff_iff]; simp
theorem letter_ways {c : UInt8} (h : isLetter c = true) : (97 ≤ (c.toNat : Int) ∧ (c.toNat : Int) ≤ 122) ∨ (65 ≤ (c.toNat : Int) ∧ (c.toNat : Int) ≤ 90) ∨ (48 ≤ (c.toNat : Int) ∧ (c.toNat : Int) ≤ 57) := by
  rw [letter_eq] at h; simpa using h
theorem letter_not {c : UInt8} (h : isLetter c = false) : (c.toNat : Int) < 48 ∨ (57 < (c.toNat : Int) ∧ (c.toNat : Int) < 65) ∨ (90 < (c.toNat : Int) ∧ (c.toNat : Int) < 97) ∨ 122 < (c.toNat : Int) := by
  rw [letter_eq] at h
  simp only [decide_eq_false_iff_not] at h
  omega
theorem plain_next {q : Bool} {l : List UInt8} {k : Nat} (hk : k < l.length) (h : (isLetter l[k] || (pmarks ++ moreL q).contains l[k]) = true) : plainT q (l.drop k) = plainT q (l.drop (k + 1)) := by
  rw [List.drop_eq_getElem_cons hk]; exact plainT_path _ ((path_more q _).trans h)
theorem plain_bad {q : Bool} {l : List UInt8} {k : Nat} (hk : k < l.length) (h : (isLetter l[k] || (pmarks ++ moreL q).contains l[k]) = false) (h2 : l[k] ≠ 37) : plainT q (l.drop k) = false := by
  rw [List.drop_eq_getElem_cons hk]; exact plainT_bad _ ((path_more q _).trans h) h2
theorem plain_pct3 {q : Bool} {l : List UInt8} {k : Nat} (hk : k + 2 < l.length) (h : l[k] = 37) : plainT q (l.drop k) = (isHex l[k + 1] && isHex l[k + 2] && plainT q (l.drop (k + 3))) := by
  rw [List.drop_eq_getElem_cons (by omega), h, plainT_pct, List.drop_eq_getElem_cons (show k + 1 < l.length by omega), List.drop_eq_getElem_cons (show k + 1 + 1 < l.length by omega)]; rfl
theorem plain_short {q : Bool} {l : List UInt8} {k : Nat} (hk : k < l.length) (hs : l.length ≤ k + 2) (h : l[k] = 37) : plainT q (l.drop k) = false := by
  rw [List.drop_eq_getElem_cons hk, h, plainT_pct]
  have hl : (l.drop (k + 1)).length ≤ 1 := by rw [List.length_drop]; omega
  match l.drop (k + 1), hl with
  | [], _ => rfl
  | [a], _ => rfl

set_option maxHeartbeats 2000000 in
set_option maxRecDepth 100000 in
theorem plain_any (q : Bool) (l : List UInt8) (w : World) (hl : l.length ≤ 1000000) :
    Calls Tryz.prog 58 #[.string ⟨l.toArray⟩, .string ⟨(moreL q).toArray⟩] w fun e w' => e = .returned (.bool (plainT q l)) ∧ w = w' := by
  obtain ⟨m, hm⟩ : ∃ m, moreL q = m := ⟨_, rfl⟩
  have hml : m.length ≤ 1 := by rw [← hm]; cases q <;> decide
  obtain ⟨M, hM⟩ : ∃ M, pmarks ++ m = M := ⟨_, rfl⟩
  have hcat : (⟨#[45, 46, 95, 126, 33, 36, 38, 39, 40, 41, 42, 43, 44, 59, 61, 58, 64, 47]⟩ : ByteArray) ++ ⟨m.toArray⟩ = ⟨M.toArray⟩ := by rw [← hM]; exact cat_mk pmarks m
  have hM' := Lib.hid (show pmarks ++ moreL q = M by rw [hm, hM])
  rw [hm]
  clear hm hM
  go_enter Tryz.func58, Tryz.ntmps58
  go_wp2
  go_loop [5] (fun i => ∃ k : Nat, k ≤ l.length ∧ i = .int .i64 k ∧ plainT q (l.drop k) = plainT q l) (fun i => l.length - (intOf i).toNat)
  case atStart => exact ⟨0, Nat.zero_le _, rfl, rfl⟩
  case round =>
    obtain ⟨k, hk, rfl, hT⟩ := hrel
    have hT' := Lib.hid hT
    clear hT
    have hlI : (l.length : Int) ≤ 1000000 := by omega
    by_cases hlt : k < l.length
    · obtain ⟨c, hc⟩ : ∃ c, (⟨l.toArray⟩ : ByteArray)[k]'(by rw [size_mk]; exact hlt) = c := ⟨_, rfl⟩
      have hc2 := Lib.hid (show l[k] = c from hc)
      cases hL : isLetter c
      · have hr := letter_not hL
        cases hC : M.contains c
        · have hnp := Lib.hid (show (isLetter l[k] || (pmarks ++ moreL q).contains l[k]) = false by rw [hc2.out, hM'.out, hL, hC]; rfl)
          have hidx := Lib.hid (fun w => idx_no M c hC w)
          clear hL hC
          by_cases h37 : c = 37
          · have h37' := Lib.hid (show l[k] = 37 by rw [hc2.out, h37])
            have hI1 : 37 ≤ (c.toNat : Int) := by rw [h37]; decide
            have hI2 : (c.toNat : Int) ≤ 37 := by rw [h37]; decide
            have hI3 : ((c.toNat : Int) == 37) = true := by rw [h37]; decide
            clear h37 hr
            by_cases hk2 : k + 2 < l.length
            · obtain ⟨a, ha⟩ : ∃ c, (⟨l.toArray⟩ : ByteArray)[k + 1]'(by rw [size_mk]; omega) = c := ⟨_, rfl⟩
              obtain ⟨b, hb⟩ : ∃ c, (⟨l.toArray⟩ : ByteArray)[k + 2]'(by rw [size_mk]; omega) = c := ⟨_, rfl⟩
              have ha2 := Lib.hid (show l[k + 1] = a from ha)
              have hb2 := Lib.hid (show l[k + 2] = b from hb)
              have hp := Lib.hid (plain_pct3 (q := q) hk2 h37'.out)
              cases hA : isHex a
              · have hia := Lib.hid (fun w => idx_no hexesL a hA w)
                have hA' := Lib.hid hA
                clear hA
                go_wp2_with fail
                refine (hidx.out _).mono ?_
                rintro e w2 ⟨n, hn, rfl, rfl⟩
                go_wp2_with fail
                refine (hia.out _).mono ?_
                rintro e w2 ⟨n2, hn2, rfl, rfl⟩
                go_wp2
                go_ret
                exact ⟨ret_bool (by rw [← hT'.out, hp.out, ha2.out, hA'.out]; rfl), rfl⟩
              · have hia := Lib.hid (fun w => idx_yes hexesL a hA w)
                have hA' := Lib.hid hA
                clear hA
                cases hB : isHex b
                · have hib := Lib.hid (fun w => idx_no hexesL b hB w)
                  have hB' := Lib.hid hB
                  clear hB
                  go_wp2_with fail
                  refine (hidx.out _).mono ?_
                  rintro e w2 ⟨n, hn, rfl, rfl⟩
                  go_wp2_with fail
                  refine (hia.out _).mono ?_
                  rintro e w2 ⟨n2, hn2, rfl, rfl⟩
                  go_wp2_with fail
                  refine (hib.out _).mono ?_
                  rintro e w2 ⟨n3, hn3, rfl, rfl⟩
                  go_wp2
                  go_ret
                  exact ⟨ret_bool (by rw [← hT'.out, hp.out, hb2.out, hB'.out, Bool.and_false]; rfl), rfl⟩
                · have hib := Lib.hid (fun w => idx_yes hexesL b hB w)
                  have hB' := Lib.hid hB
                  clear hB
                  go_wp2_with fail
                  refine (hidx.out _).mono ?_
                  rintro e w2 ⟨n, hn, rfl, rfl⟩
                  go_wp2_with fail
                  refine (hia.out _).mono ?_
                  rintro e w2 ⟨n2, hn2, rfl, rfl⟩
                  go_wp2_with fail
                  refine (hib.out _).mono ?_
                  rintro e w2 ⟨n3, hn3, rfl, rfl⟩
                  go_wp2
                  go_round
                  case rel => exact ⟨k + 3, by omega, by go_num, by rw [← hT'.out, hp.out, ha2.out, hb2.out, hA'.out, hB'.out]; rfl⟩
                  case measure => simp [intOf]; omega
            · have hp := Lib.hid (plain_short (q := q) hlt (by omega) h37'.out)
              have hk3 : ¬ ((k : Int) + 2 < l.length) := by omega
              go_wp2_with fail
              refine (hidx.out _).mono ?_
              rintro e w2 ⟨n, hn, rfl, rfl⟩
              go_wp2
              go_ret
              exact ⟨ret_bool (by rw [← hT'.out, hp.out]), rfl⟩
          · have hI3 : ((c.toNat : Int) == 37) = false := beq_eq_false_iff_ne.2 (fun e => h37 (UInt8.toNat_inj.1 (show c.toNat = 37 by omega)))
            have hp := Lib.hid (plain_bad hlt hnp.out (by rw [hc2.out]; exact h37))
            clear h37
            rcases hr with h1 | ⟨h1, h2⟩ | ⟨h1, h2⟩ | h1
            all_goals
              go_wp2_with fail
              refine (hidx.out _).mono ?_
              rintro e w2 ⟨n, hn, rfl, rfl⟩
              go_wp2
              go_ret
              exact ⟨ret_bool (by rw [← hT'.out, hp.out]), rfl⟩
        · have hidx := Lib.hid (fun w => idx_yes M c hC w)
          have hn := Lib.hid (plain_next hlt (show (isLetter l[k] || (pmarks ++ moreL q).contains l[k]) = true by rw [hc2.out, hM'.out, hC, Bool.or_true]))
          clear hL hC
          rcases hr with h1 | ⟨h1, h2⟩ | ⟨h1, h2⟩ | h1
          all_goals
            go_wp2_with fail
            refine (hidx.out _).mono ?_
            rintro e w2 ⟨n, hn2, rfl, rfl⟩
            go_wp2
            go_round
            case rel => exact ⟨k + 1, by omega, by go_num, by rw [← hT'.out, hn.out]⟩
            case measure => simp [intOf]; omega
      · have hr := letter_ways hL
        have hn := Lib.hid (plain_next (q := q) hlt (by rw [hc2.out, hL]; rfl))
        clear hL
        rcases hr with ⟨h1, h2⟩ | ⟨h1, h2⟩ | ⟨h1, h2⟩
        all_goals
          go_wp2
          go_round
          case rel => exact ⟨k + 1, by omega, by go_num, by rw [← hT'.out, hn.out]⟩
          case measure => simp [intOf]; omega
    · go_wp2
      go_ret
      exact ⟨ret_bool (by rw [← hT'.out, List.drop_of_length_le (by omega)]; rfl), rfl⟩
theorem plain_is (q : Bool) (l : List UInt8) (b : Bool) (h : plainT q l = b) (w : World) (hl : l.length ≤ 1000000) :
    Calls Tryz.prog 58 #[.string ⟨l.toArray⟩, .string ⟨(moreL q).toArray⟩] w fun e w' => e = .returned (.bool b) ∧ w = w' := h ▸ plain_any q l w hl

/-- The result of Target. -/
def tgV (r : List UInt8 × List UInt8 × Bool) : Value := .tuple #[.string ⟨r.1.toArray⟩, .string ⟨r.2.1.toArray⟩, .bool r.2.2]
theorem target_eq {l p q : List UInt8} {d : Bool} (h : Lib.cut l [63] = (p, q, d)) : targetB l = if decide (l.length ≤ 512) && ((Lib.hasPrefix p [47]) && (plainT false p && plainT true q)) then (p, q, true) else ([], [], false) := by
  unfold targetB; rw [h]
theorem prefix_is (l p : List UInt8) (b : Bool) (h : Lib.hasPrefix l p = b) (w : World) : Calls Tryz.prog 36 #[.string ⟨l.toArray⟩, .string ⟨p.toArray⟩] w fun e w' => e = .returned (.bool b) ∧ w = w' :=
  (Tryz.strings_HasPrefix ⟨l.toArray⟩ ⟨p.toArray⟩ w).mono fun e w' ⟨he, hw⟩ => ⟨by rw [he]; exact congrArg (fun b => Ending.returned (.bool b)) h, hw.symm⟩

set_option maxHeartbeats 1000000 in
theorem target_any (l : List UInt8) (w : World) (hG : G w) (hl : l.length ≤ 1000000) :
    Calls Tryz.prog 30 #[.string ⟨l.toArray⟩] w fun e w' => e = .returned (tgV (targetB l)) ∧ Gr w w' := by
  have hc1 : (Lib.cut l [63]).1.length ≤ l.length := cut_le1 l [63]
  have hc2 : (Lib.cut l [63]).2.1.length ≤ l.length := cut_le2 l [63]
  have hcut := cut_any l [63] w hG (by omega)
  obtain ⟨⟨p, q, d⟩, hc⟩ : ∃ c, Lib.cut l [63] = c := ⟨_, rfl⟩
  rw [hc] at hc1 hc2 hcut
  have hT := target_eq hc
  dsimp only at hc1 hc2 hcut
  have hcut' := Lib.hid hcut
  clear hc hcut
  by_cases h5 : l.length ≤ 512
  · have h5' : ¬ (512 < (l.length : Int)) := by omega
    cases h1 : Lib.hasPrefix p [47]
    · have hT' := Lib.hid (show targetB l = ([], [], false) by rw [hT, h1]; simp)
      have k1 := Lib.hid (fun w => prefix_is p [47] _ h1 w)
      clear hT h1
      go_enter Tryz.func30, Tryz.ntmps30
      go_wp2_with fail
      refine hcut'.out.mono ?_
      rintro e w1 ⟨rfl, hg⟩
      go_wp2_with fail
      refine (k1.out _).mono ?_
      rintro e w2 ⟨rfl, rfl⟩
      go_wp2
      go_ret3
      exact ⟨by rw [hT'.out]; rfl, hg⟩
    · have k1 := Lib.hid (fun w => prefix_is p [47] _ h1 w)
      cases h2 : plainT false p
      · have hT' := Lib.hid (show targetB l = ([], [], false) by rw [hT, h1, h2]; simp)
        have k2 := Lib.hid (fun w => plain_is false p _ h2 w (by omega))
        clear hT h1 h2
        go_enter Tryz.func30, Tryz.ntmps30
        go_wp2_with fail
        refine hcut'.out.mono ?_
        rintro e w1 ⟨rfl, hg⟩
        go_wp2_with fail
        refine (k1.out _).mono ?_
        rintro e w2 ⟨rfl, rfl⟩
        go_wp2_with fail
        refine (k2.out _).mono ?_
        rintro e w2 ⟨rfl, rfl⟩
        go_wp2
        go_ret3
        exact ⟨by rw [hT'.out]; rfl, hg⟩
      · have k2 := Lib.hid (fun w => plain_is false p _ h2 w (by omega))
        cases h3 : plainT true q
        all_goals
          have k3 := Lib.hid (fun w => plain_is true q _ h3 w (by omega))
          have hT' := Lib.hid hT
          have h1' := Lib.hid h1
          have h2' := Lib.hid h2
          have h3' := Lib.hid h3
          have h6 := Lib.hid h5
          clear hT h1 h2 h3
          go_enter Tryz.func30, Tryz.ntmps30
          go_wp2_with fail
          refine hcut'.out.mono ?_
          rintro e w1 ⟨rfl, hg⟩
          go_wp2_with fail
          refine (k1.out _).mono ?_
          rintro e w2 ⟨rfl, rfl⟩
          go_wp2_with fail
          refine (k2.out _).mono ?_
          rintro e w2 ⟨rfl, rfl⟩
          go_wp2_with fail
          refine (k3.out _).mono ?_
          rintro e w2 ⟨rfl, rfl⟩
          go_wp2
          go_ret3
          exact ⟨by rw [hT'.out, h1'.out, h2'.out, h3'.out, decide_eq_true h6.out]; rfl, hg⟩
  · have h5' : 512 < (l.length : Int) := by omega
    have hT' := Lib.hid (show targetB l = ([], [], false) by rw [hT, decide_eq_false h5]; rfl)
    clear hT h5
    go_enter Tryz.func30, Tryz.ntmps30
    go_wp2_with fail
    refine hcut'.out.mono ?_
    rintro e w1 ⟨rfl, hg⟩
    go_wp2
    go_ret3
    exact ⟨by rw [hT'.out]; rfl, hg⟩
end Go.Proofs.YtpncfeaaffgkfaaGreatDoor
