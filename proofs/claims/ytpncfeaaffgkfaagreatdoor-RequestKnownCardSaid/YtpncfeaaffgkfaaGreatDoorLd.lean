/-
  Walks over the reference of package line: a byte of a text, a target, a request's line.
  Walks over package line: a request's line.
-/
import Derived.Test.YtpncfeaaffgkfaaGreatDoorLa
import Derived.Test.YtpncfeaaffgkfaaGreatDoorB
import Derived.Test.YtpncfeaaffgkfaaGreatDoorP8
namespace Go.Proofs.YtpncfeaaffgkfaaGreatDoor
open Go.RowKit

set_option maxHeartbeats 400000 in
theorem in_is (c : UInt8) (M : List UInt8) (r : Bool) (hr : M.contains c = r) (w : World) (hM : M.length ≤ 1000) : Calls Tryz.prog 84 #[.int .u8 c.toNat, .string ⟨M.toArray⟩] w fun e w' => e = .returned (.bool r) ∧ w = w' := by
  have hr' := Lib.hid hr
  clear hr
  go_enter Tryz.func84, Tryz.ntmps84
  go_wp2
  go_loop [5] (fun i => ∃ k : Nat, k ≤ M.length ∧ i = .int .i64 k ∧ (M.take k).contains c = false) (fun i => M.length - (intOf i).toNat)
  case atStart => exact ⟨0, Nat.zero_le _, rfl, rfl⟩
  case round =>
    obtain ⟨k, hk, rfl, hall⟩ := hrel
    have hall' := Lib.hid hall
    clear hall
    by_cases hlt : k < M.length
    · obtain ⟨d, hd⟩ : ∃ d, (⟨M.toArray⟩ : ByteArray)[k]'(by rw [size_mk]; exact hlt) = d := ⟨_, rfl⟩
      have hd2 := Lib.hid (show M[k] = d from hd)
      by_cases hc : d = c
      · have h1 : ((d.toNat : Int) == c.toNat) = true := by rw [hc]; simp
        have h2 := Lib.hid (contains_at (l := M) hlt (show (M[k] == c) = true by rw [hd2.out, hc]; simp))
        clear hc
        go_wp2
        go_ret
        exact ⟨ret_bool (by rw [← hr'.out, h2.out]), rfl⟩
      · have h1 : ((d.toNat : Int) == c.toNat) = false := beq_eq_false_iff_ne.2 (fun e => hc (UInt8.toNat_inj.1 (by omega)))
        have h2 := Lib.hid (contains_take_succ (l := M) hall'.out hlt (show (M[k] == c) = false by rw [hd2.out]; exact beq_eq_false_iff_ne.2 hc))
        clear hc
        go_wp2
        go_round
        case rel => exact ⟨k + 1, by omega, by go_num, h2.out⟩
        case measure => simp [intOf]; omega
    · go_wp2
      go_ret
      exact ⟨ret_bool (by rw [← hr'.out, ← hall'.out, List.take_of_length_le (by omega)]), rfl⟩
theorem in_any (c : UInt8) (M : List UInt8) (w : World) (hM : M.length ≤ 1000) : Calls Tryz.prog 84 #[.int .u8 c.toNat, .string ⟨M.toArray⟩] w fun e w' => e = .returned (.bool (M.contains c)) ∧ w = w' := in_is c M _ rfl w hM
theorem hex_is (c : UInt8) (b : Bool) (h : isHex c = b) (w : World) : Calls Tryz.prog 83 #[.int .u8 c.toNat] w fun e w' => e = .returned (.bool b) ∧ w = w' := by
  have h' := Lib.hid (fun w => in_is c hexesL b h w (by decide))
  clear h
  go_enter Tryz.func83, Tryz.ntmps83
  go_wp2_with fail
  refine (h'.out _).mono ?_
  rintro e w2 ⟨rfl, rfl⟩
  go_wp2
  go_ret
  exact ⟨rfl, rfl⟩
def allL : List UInt8 := [97, 98, 99, 100, 101, 102, 103, 104, 105, 106, 107, 108, 109, 110, 111, 112, 113, 114, 115, 116, 117, 118, 119, 120, 121, 122, 65, 66, 67, 68, 69, 70, 71, 72, 73, 74, 75, 76, 77, 78, 79, 80, 81, 82, 83, 84, 85, 86, 87, 88, 89, 90, 48, 49, 50, 51, 52, 53, 54, 55, 56, 57, 45, 46, 95, 126, 33, 36, 38, 39, 40, 41, 42, 43, 44, 59, 61, 58, 64, 47]
set_option maxRecDepth 100000 in
theorem all_path (c : UInt8) : allL.contains c = isPath c := by
  refine u8_all (p := fun c => allL.contains c = isPath c) ?_ c
  decide +kernel
theorem all_is (c : UInt8) (b : Bool) (h : isPath c = b) (w : World) : Calls Tryz.prog 84 #[.int .u8 c.toNat, .string ⟨allL.toArray⟩] w fun e w' => e = .returned (.bool b) ∧ w = w' := by
  have := in_any c allL w (by decide)
  rwa [all_path, h] at this

/-- Where the first question mark stands among the first k bytes; below 0: nowhere. -/
def MarkAt (l : List UInt8) (k : Nat) (m : Int) : Prop := (m = -1 ∧ ∀ j, (hj : j < l.length) → j < k → l[j] ≠ 63) ∨ ∃ j : Nat, m = j ∧ j < k ∧ ∃ hj : j < l.length, l[j] = 63 ∧ ∀ i, (hi : i < j) → l[i]'(by omega) ≠ 63
theorem MarkAt.other {l : List UInt8} {k : Nat} {m : Int} (h : MarkAt l k m) {n : Nat} (hn : ∀ j, (hj : j < l.length) → k ≤ j → j < k + n → l[j] ≠ 63) : MarkAt l (k + n) m := by
  rcases h with ⟨h1, h2⟩ | ⟨j, h1, h2, h3, h4, h5⟩
  · refine .inl ⟨h1, fun j hj hk => ?_⟩
    by_cases h : j < k
    · exact h2 j hj h
    · exact hn j hj (by omega) hk
  · exact .inr ⟨j, h1, by omega, h3, h4, h5⟩
theorem MarkAt.first {l : List UInt8} {k : Nat} {m : Int} (h : MarkAt l k m) (hm : m < 0) (hk : k < l.length) (hc : l[k] = 63) : MarkAt l (k + 1) k := by
  rcases h with ⟨h1, h2⟩ | ⟨j, h1, h2, h3, h4, h5⟩
  · exact .inr ⟨k, rfl, by omega, hk, hc, fun i hi => h2 i (by omega) hi⟩
  · omega
theorem MarkAt.again {l : List UInt8} {k : Nat} {m : Int} (h : MarkAt l k m) (hm : ¬ m < 0) : MarkAt l (k + 1) m := by
  rcases h with ⟨h1, h2⟩ | ⟨j, h1, h2, h3, h4, h5⟩
  · omega
  · exact .inr ⟨j, h1, by omega, h3, h4, h5⟩
theorem MarkAt.le {l : List UInt8} {k : Nat} {m : Int} (h : MarkAt l k m) (_hk : k ≤ l.length) : -1 ≤ m ∧ m < l.length ∨ m = -1 := by
  rcases h with ⟨h1, h2⟩ | ⟨j, h1, h2, h3, h4, h5⟩ <;> omega
theorem MarkAt.cut {l : List UInt8} {m : Int} (h : MarkAt l l.length m) : (m < 0 ∧ Lib.cut l [63] = (l, [], false)) ∨ ∃ j : Nat, m = j ∧ j < l.length ∧ Lib.cut l [63] = (l.take j, l.drop (j + 1), true) := by
  rcases h with ⟨h1, h2⟩ | ⟨j, h1, h2, h3, h4, h5⟩
  · exact .inl ⟨by omega, cut_none fun j hj => h2 j hj hj⟩
  · exact .inr ⟨j, h1, h3, cut_at h3 h4 h5⟩
def TRel (l : List UInt8) (k : Nat) (m : Int) : Prop := plainT true (l.drop k) = plainT true l ∧ MarkAt l k m
theorem TRel.next {l : List UInt8} {k : Nat} {m : Int} (h : TRel l k m) (hk : k < l.length) (hp : isPath l[k] = true) : TRel l (k + 1) m := by
  refine ⟨?_, h.2.other (n := 1) fun j hj h1 h2 => ?_⟩
  · rw [← h.1, List.drop_eq_getElem_cons hk, plainT_path _ (by rw [hp]; rfl)]
  · obtain rfl : j = k := by omega
    intro e; rw [e, path_63] at hp; cases hp
theorem TRel.mark {l : List UInt8} {k : Nat} {m : Int} (h : TRel l k m) (hk : k < l.length) (hc : l[k] = 63) (hm : m < 0) : TRel l (k + 1) k :=
  ⟨by rw [← h.1, List.drop_eq_getElem_cons hk, plainT_path _ (by rw [hc]; rfl)], h.2.first hm hk hc⟩
theorem TRel.more {l : List UInt8} {k : Nat} {m : Int} (h : TRel l k m) (hk : k < l.length) (hc : l[k] = 63) (hm : ¬ m < 0) : TRel l (k + 1) m :=
  ⟨by rw [← h.1, List.drop_eq_getElem_cons hk, plainT_path _ (by rw [hc]; rfl)], h.2.again hm⟩
theorem TRel.pct {l : List UInt8} {k : Nat} {m : Int} (h : TRel l k m) (hk : k + 2 < l.length) (hc : l[k] = 37) (ha : isHex l[k + 1] = true) (hb : isHex l[k + 2] = true) : TRel l (k + 3) m := by
  refine ⟨?_, h.2.other (n := 3) fun j hj h1 h2 => ?_⟩
  · rw [← h.1, plain_pct3 hk hc, ha, hb]; rfl
  · intro e
    rcases (show j = k ∨ j = k + 1 ∨ j = k + 2 by omega) with rfl | rfl | rfl
    · rw [hc] at e; revert e; decide
    · rw [e, hex_63] at ha; cases ha
    · rw [e, hex_63] at hb; cases hb
theorem TRel.bad {l : List UInt8} {k : Nat} {m : Int} (h : TRel l k m) (hk : k < l.length) (h63 : l[k] ≠ 63) (hp : isPath l[k] = false) (h37 : l[k] ≠ 37) : plainT true l = false := by
  rw [← h.1, List.drop_eq_getElem_cons hk]
  exact plainT_bad _ (by rw [hp]; simpa using h63) h37
theorem TRel.badp {l : List UInt8} {k : Nat} {m : Int} (h : TRel l k m) (hk : k < l.length) (hc : l[k] = 37) (hx : l.length ≤ k + 2 ∨ ∃ h2 : k + 2 < l.length, isHex l[k + 1] = false ∨ isHex l[k + 2] = false) : plainT true l = false := by
  rw [← h.1]
  rcases hx with hx | ⟨h2, hx⟩
  · exact plain_short hk hx hc
  · rw [plain_pct3 h2 hc]
    rcases hx with hx | hx <;> rw [hx] <;> simp

set_option maxHeartbeats 4000000 in
set_option maxRecDepth 100000 in
theorem rtarget_any (l : List UInt8) (w : World) (hl : l.length ≤ 1000000) :
    Calls Tryz.prog 50 #[.string ⟨l.toArray⟩] w fun e w' => e = .returned (tgV (targetB l)) ∧ Gr w w' := by
  by_cases hbig : l.length = 0 ∨ 512 < l.length ∨ (∃ h : 0 < l.length, l[0] ≠ 47)
  · have hT := Lib.hid (show targetB l = ([], [], false) by
      rw [target_ref]
      rcases hbig with h | h | ⟨h, h2⟩
      · rw [List.length_eq_zero_iff.1 h]; rfl
      · rw [decide_eq_false (by omega)]; rfl
      · have : (l.head? == some 47) = false := by
          cases l with
          | nil => cases h
          | cons c t => simpa using h2
        rw [this]; simp)
    have hways : l.length = 0 ∨ (0 < l.length ∧ 512 < l.length) ∨ (∃ h : 0 < l.length, l.length ≤ 512 ∧ ((((⟨l.toArray⟩ : ByteArray)[0]'(by rw [size_mk]; exact h)).toNat : Int) != 47) = true) := by
      rcases hbig with h | h | ⟨h, h2⟩
      · exact .inl h
      · exact .inr (.inl ⟨by omega, h⟩)
      · by_cases h5 : 512 < l.length
        · exact .inr (.inl ⟨h, h5⟩)
        · exact .inr (.inr ⟨h, by omega, bne_iff_ne.2 (fun e => h2 (UInt8.toNat_inj.1 (show (l[0]).toNat = 47 by
            have e2 : (((l[0]).toNat : Nat) : Int) = 47 := e
            omega)))⟩)
    clear hbig
    rcases hways with h | ⟨h1, h2⟩ | ⟨h1, h2, h3⟩
    all_goals (try have h2I : 512 < (l.length : Int) := by omega)
    all_goals (try have h1I : ((l.length : Int) == 0) = false := beq_eq_false_iff_ne.2 (by omega))
    all_goals (try (obtain rfl := List.length_eq_zero_iff.1 h))
    all_goals
      go_enter Tryz.func50, Tryz.ntmps50
      go_wp2
      go_ret3
      exact ⟨by rw [hT.out]; rfl, Gr.refl _⟩
  · have h0 : 0 < l.length := by omega
    have h5 : l.length ≤ 512 := by omega
    have hs : l[0] = 47 := Classical.byContradiction fun e => hbig (.inr (.inr ⟨h0, e⟩))
    have hhead : (l.head? == some 47) = true := by
      cases l with
      | nil => cases h0
      | cons c t => simpa using hs
    have hT := Lib.hid (show targetB l = if plainT true l then ((Lib.cut l [63]).1, (Lib.cut l [63]).2.1, true) else ([], [], false) by
      rw [target_ref, decide_eq_true h5, hhead]; rfl)
    have hsI : ((((⟨l.toArray⟩ : ByteArray)[0]'(by rw [size_mk]; exact h0)).toNat : Int) != 47) = false := by
      have : (⟨l.toArray⟩ : ByteArray)[0]'(by rw [size_mk]; exact h0) = 47 := hs
      rw [this]; rfl
    have h1I : ((l.length : Int) == 0) = false := beq_eq_false_iff_ne.2 (by omega)
    clear hbig hs hhead
    go_enter Tryz.func50, Tryz.ntmps50
    go_wp2
    clear hsI h1I
    go_loop [5, 6] (fun z i => ∃ (k : Nat) (m : Int), k ≤ l.length ∧ z = .int .i64 m ∧ i = .int .i64 k ∧ TRel l k m) (fun _ i => l.length - (intOf i).toNat)
    case atStart => exact ⟨0, -1, Nat.zero_le _, rfl, rfl, rfl, .inl ⟨rfl, fun j _ hj => absurd hj (Nat.not_lt_zero _)⟩⟩
    case round =>
      obtain ⟨k, m, hk, rfl, rfl, hR⟩ := hrel
      have hR' := Lib.hid hR
      clear hR
      have hlI : (l.length : Int) ≤ 512 := by omega
      by_cases hlt : k < l.length
      · obtain ⟨c, hc⟩ : ∃ c, (⟨l.toArray⟩ : ByteArray)[k]'(by rw [size_mk]; exact hlt) = c := ⟨_, rfl⟩
        have hc2 := Lib.hid (show l[k] = c from hc)
        by_cases h63 : c = 63
        · have h63' := Lib.hid (show l[k] = 63 by rw [hc2.out, h63])
          have h63I : ((c.toNat : Int) == 63) = true := by rw [h63]; rfl
          clear h63
          by_cases hm : m < 0
          · have hn := Lib.hid (hR'.out.mark hlt h63'.out hm)
            go_wp2
            go_round
            case rel => exact ⟨k + 1, k, by omega, rfl, by go_num, hn.out⟩
            case measure => simp [intOf]; omega
          · have hn := Lib.hid (hR'.out.more hlt h63'.out hm)
            go_wp2
            go_round
            case rel => exact ⟨k + 1, m, by omega, rfl, by go_num, hn.out⟩
            case measure => simp [intOf]; omega
        · have h63I : ((c.toNat : Int) == 63) = false := beq_eq_false_iff_ne.2 (fun e => h63 (UInt8.toNat_inj.1 (show c.toNat = 63 by omega)))
          have h63' := Lib.hid (show l[k] ≠ 63 by rw [hc2.out]; exact h63)
          clear h63
          by_cases h37 : c = 37
          · have h37' := Lib.hid (show l[k] = 37 by rw [hc2.out, h37])
            have h37I : ((c.toNat : Int) == 37) = true := by rw [h37]; rfl
            have hno := Lib.hid (fun w => all_is c false (by rw [h37]; exact path_37) w)
            clear h37
            by_cases hk2 : k + 2 < l.length
            · obtain ⟨a, ha⟩ : ∃ c, (⟨l.toArray⟩ : ByteArray)[k + 1]'(by rw [size_mk]; omega) = c := ⟨_, rfl⟩
              obtain ⟨b, hb⟩ : ∃ c, (⟨l.toArray⟩ : ByteArray)[k + 2]'(by rw [size_mk]; omega) = c := ⟨_, rfl⟩
              have ha2 := Lib.hid (show l[k + 1] = a from ha)
              have hb2 := Lib.hid (show l[k + 2] = b from hb)
              cases hA : isHex a
              · have k1 := Lib.hid (fun w => hex_is a _ hA w)
                have hbad := Lib.hid (hR'.out.badp hlt h37'.out (.inr ⟨hk2, .inl (by rw [ha2.out]; exact hA)⟩))
                clear hA
                go_wp2_with fail
                refine (k1.out _).mono ?_
                rintro e w2 ⟨rfl, rfl⟩
                go_wp2_with fail
                refine (hno.out _).mono ?_
                rintro e w2 ⟨rfl, rfl⟩
                go_wp2
                go_ret3
                exact ⟨by rw [hT.out, hbad.out]; rfl, Gr.refl _⟩
              · have k1 := Lib.hid (fun w => hex_is a _ hA w)
                cases hB : isHex b
                · have k2 := Lib.hid (fun w => hex_is b _ hB w)
                  have hbad := Lib.hid (hR'.out.badp hlt h37'.out (.inr ⟨hk2, .inr (by rw [hb2.out]; exact hB)⟩))
                  clear hA hB
                  go_wp2_with fail
                  refine (k1.out _).mono ?_
                  rintro e w2 ⟨rfl, rfl⟩
                  go_wp2_with fail
                  refine (k2.out _).mono ?_
                  rintro e w2 ⟨rfl, rfl⟩
                  go_wp2_with fail
                  refine (hno.out _).mono ?_
                  rintro e w2 ⟨rfl, rfl⟩
                  go_wp2
                  go_ret3
                  exact ⟨by rw [hT.out, hbad.out]; rfl, Gr.refl _⟩
                · have k2 := Lib.hid (fun w => hex_is b _ hB w)
                  have hn := Lib.hid (hR'.out.pct hk2 h37'.out (by rw [ha2.out]; exact hA) (by rw [hb2.out]; exact hB))
                  clear hA hB
                  go_wp2_with fail
                  refine (k1.out _).mono ?_
                  rintro e w2 ⟨rfl, rfl⟩
                  go_wp2_with fail
                  refine (k2.out _).mono ?_
                  rintro e w2 ⟨rfl, rfl⟩
                  go_wp2
                  go_round
                  case rel => exact ⟨k + 3, m, by omega, rfl, by go_num, hn.out⟩
                  case measure => simp [intOf]; omega
            · have hbad := Lib.hid (hR'.out.badp hlt h37'.out (.inl (by omega)))
              have hk3 : ¬ ((k : Int) + 2 < l.length) := by omega
              go_wp2_with fail
              refine (hno.out _).mono ?_
              rintro e w2 ⟨rfl, rfl⟩
              go_wp2
              go_ret3
              exact ⟨by rw [hT.out, hbad.out]; rfl, Gr.refl _⟩
          · have h37I : ((c.toNat : Int) == 37) = false := beq_eq_false_iff_ne.2 (fun e => h37 (UInt8.toNat_inj.1 (show c.toNat = 37 by omega)))
            have h37' := Lib.hid (show l[k] ≠ 37 by rw [hc2.out]; exact h37)
            clear h37
            cases hp : isPath c
            · have k1 := Lib.hid (fun w => all_is c _ hp w)
              have hbad := Lib.hid (hR'.out.bad hlt h63'.out (by rw [hc2.out]; exact hp) h37'.out)
              clear hp
              go_wp2_with fail
              refine (k1.out _).mono ?_
              rintro e w2 ⟨rfl, rfl⟩
              go_wp2
              go_ret3
              exact ⟨by rw [hT.out, hbad.out]; rfl, Gr.refl _⟩
            · have k1 := Lib.hid (fun w => all_is c _ hp w)
              have hn := Lib.hid (hR'.out.next hlt (by rw [hc2.out]; exact hp))
              clear hp
              go_wp2_with fail
              refine (k1.out _).mono ?_
              rintro e w2 ⟨rfl, rfl⟩
              go_wp2
              go_round
              case rel => exact ⟨k + 1, m, by omega, rfl, by go_num, hn.out⟩
              case measure => simp [intOf]; omega
      · obtain rfl : k = l.length := by omega
        have hpl := hR'.out.1
        rw [List.drop_length] at hpl
        rcases hR'.out.2.cut with ⟨hm, hcut⟩ | ⟨j, rfl, hj, hcut⟩
        · have hT2 := Lib.hid (show targetB l = (l, [], true) by rw [hT.out, ← hpl, hcut]; rfl)
          clear hpl hcut
          go_wp2
          go_ret3
          exact ⟨by rw [hT2.out]; rfl, Gr.refl _⟩
        · have hT2 := Lib.hid (show targetB l = (l.take j, l.drop (j + 1), true) by rw [hT.out, ← hpl, hcut]; rfl)
          have hx1 : (⟨l.toArray⟩ : ByteArray).extract 0 j = ⟨(l.take j).toArray⟩ := by rw [extract_mk]; simp
          have hx2 : (⟨l.toArray⟩ : ByteArray).extract (j + 1) l.length = ⟨(l.drop (j + 1)).toArray⟩ := by rw [extract_mk]; simp
          have hjI : (j : Int) < l.length := by omega
          have hj0 : ¬ ((j : Int) < 0) := by omega
          clear hpl hcut
          go_wp2
          go_quiet (fail)
          go_wp2
          go_ret3
          exact ⟨by rw [hT2.out]; rfl, below_drewNm _ _⟩
end Go.Proofs.YtpncfeaaffgkfaaGreatDoor
namespace Go.Proofs.YtpncfeaaffgkfaaGreatDoor
open Go.RowKit Go.Maps Go.ChangeMaps

theorem lawS : Keyed Tryz.prog 9 := string_keyed Tryz.underlying9
theorem zeroI (w : World) : (zeroValue 3).run Tryz.prog w = .ok (.int .i64 0) w := by kernel_rfl
/-- The map of the two versions, made, filled, and asked. -/
theorem proto_map (W : World) (p : List UInt8) (hp : p.length ≤ 1000000) :
    ∃ w1 w2, (Instr.mapUpdate 143 (.map (some W.heap.size)) (.string ⟨#[72, 84, 84, 80, 47, 49, 46, 48]⟩) (.int .i64 10)).run Tryz.prog (W.alloc (.map #[] 0)) = .ok () w1 ∧
      (Instr.mapUpdate 143 (.map (some W.heap.size)) (.string ⟨#[72, 84, 84, 80, 47, 49, 46, 49]⟩) (.int .i64 11)).run Tryz.prog w1 = .ok () w2 ∧
      (Instr.lookup 143 (.map (some W.heap.size)) (.string ⟨p.toArray⟩) false).run Tryz.prog w2 = .ok (.int .i64 (protoN p)) w2 ∧ Gr W w2 := by
  have h0 := World.ownsMap_made W Tryz.prog 9 (plainElem (H := Unit) Tryz.prog 3)
  have hk : ∀ l : List UInt8, l.length ≤ 1000000 → keyOf Tryz.prog 9 (.string ⟨l.toArray⟩) = some (.string l) := fun l hl =>
    WideMaps.keyOf_string_mk Tryz.underlying9 (s := ⟨l.toArray⟩) (by rw [size_mk]; unfold maxLen; omega)
  obtain ⟨w1, r1, o1, g1⟩ := h0.update lawS Tryz.underlying143 (by decide) (hk pH10 (by decide)) (plainElem_int Tryz.underlying3 (a := 10) (by decide))
  obtain ⟨w2, r2, o2, g2⟩ := o1.update lawS Tryz.underlying143 (by decide) (hk pH11 (by decide)) (plainElem_int Tryz.underlying3 (a := 11) (by decide))
  obtain ⟨c, r3, hat, _⟩ := o2.lookup_int lawS Tryz.underlying143 Tryz.underlying3 (zeroI w2) (hk p hp)
  have hB0 : Gr W (W.alloc (.map #[] 0)) := Gr.alloc _ _
  have hB1 : Gr W w1 := Below.grown hB0 g1 (Below.size hB0) (fun j hj => by cases hj; exact Nat.le_refl _)
  have hB2 : Gr W w2 := Below.grown hB1 g2 (Below.size hB1) (fun j hj => by cases hj; exact Nat.le_refl _)
  refine ⟨w1, w2, r1, r2, ?_, hB2⟩
  have hc : c = protoN p := by
    have i0 : IsMap (.map [] : DataW Unit) := isMap_empty
    unfold protoN
    by_cases e1 : p = pH10
    · subst e1
      rw [if_pos rfl]
      rw [atKey_put_other (by simp [pH10, pH11]), atKey_put_same i0 (lawS.key (hk _ (by decide)))] at hat
      exact (Lit.int.inj (DataW.lit.inj hat)).2.symm
    · rw [if_neg e1]
      by_cases e2 : p = pH11
      · subst e2
        rw [if_pos rfl]
        rw [atKey_put_same (i0.put _ _) (lawS.key (hk _ (by decide)))] at hat
        exact (Lit.int.inj (DataW.lit.inj hat)).2.symm
      · rw [if_neg e2]
        rw [atKey_put_other (by simpa using e2), atKey_put_other (by simpa using e1)] at hat
        have : (DataW.map [] : DataW Unit).atKey (.string p) (.lit (.int .i64 0)) = .lit (.int .i64 0) := rfl
        rw [this] at hat
        exact (Lit.int.inj (DataW.lit.inj hat)).2.symm
  rw [← hc]; exact r3

theorem results_tmp4 {fn : Func} {t u v x : Tmp} (h : fn.results = #[.tmp t, .tmp u, .tmp v, .tmp x]) (tmps : Array Value) (P : Program) (w : World) :
    (results fn tmps).run P w = .ok (.tuple #[tmps.getD t undef, tmps.getD u undef, tmps.getD v undef, tmps.getD x undef]) w := by
  simp [results, h]
/-- The result of Parse. -/
def lnV (r : List UInt8 × List UInt8 × Nat × Bool) : Value := .tuple #[.string ⟨r.1.toArray⟩, .string ⟨r.2.1.toArray⟩, .int .i64 r.2.2.1, .bool r.2.2.2]

set_option maxHeartbeats 2000000 in
set_option maxRecDepth 100000 in
theorem line_any (l : List UInt8) (w : World) (hG : G w) (hl : l.length ≤ 1000000) :
    Calls Tryz.prog 110 #[.string ⟨l.toArray⟩] w fun e w' => e = .returned (lnV (lineB l)) ∧ Gr w w' := by
  have a1 : (Lib.cut l [32]).1.length ≤ l.length := cut_le1 l [32]
  have a2 : (Lib.cut l [32]).2.1.length ≤ l.length := cut_le2 l [32]
  have hcut1 := cut_any l [32] w hG (by omega)
  obtain ⟨⟨m, r, d⟩, hc⟩ : ∃ c, Lib.cut l [32] = c := ⟨_, rfl⟩
  rw [hc] at a1 a2 hcut1
  dsimp only at a1 a2 hcut1
  have b1 : (Lib.cut r [32]).1.length ≤ r.length := cut_le1 r [32]
  have b2 : (Lib.cut r [32]).2.1.length ≤ r.length := cut_le2 r [32]
  have hcut2 := fun W (h : Gr w W) => cut_any r [32] W (hG.gr h) (by omega)
  obtain ⟨⟨t, p, d2⟩, hc2⟩ : ∃ c, Lib.cut r [32] = c := ⟨_, rfl⟩
  rw [hc2] at b1 b2
  rw [hc2] at hcut2
  dsimp only at b1 b2 hcut2
  have hT := Lib.hid (lineB_eq hc hc2)
  have hcut1' := Lib.hid hcut1
  have hcut2' := Lib.hid hcut2
  clear hc hc2 hcut1 hcut2
  go_enter Tryz.func110, Tryz.ntmps110
  go_wp2_with fail
  refine hcut1'.out.mono ?_
  rintro e w1 ⟨rfl, hg1⟩
  have hg1' := Lib.hid hg1
  clear hg1
  go_wp2_with fail
  refine (hcut2'.out _ hg1'.out).mono ?_
  rintro e w2 ⟨rfl, hg2⟩
  have hg2' := Lib.hid (hg1'.out.trans hg2)
  clear hg2
  go_wp2
  go_loop [2, 3, 10, 25] (fun s2 s3 _ i => ∃ k : Nat, k ≤ t.length ∧ s2 = .string ⟨m.toArray⟩ ∧ s3 = .string ⟨t.toArray⟩ ∧ i = .int .i64 k ∧ (t.take k).all isVis = true) (fun _ _ _ i => t.length - (intOf i).toNat)
  case atStart => exact ⟨0, Nat.zero_le _, rfl, rfl, rfl, rfl⟩
  case round =>
    obtain ⟨k, hk, rfl, rfl, rfl, hall⟩ := hrel
    have hall' := Lib.hid hall
    clear hall
    by_cases hlt : k < t.length
    · obtain ⟨c, hcd⟩ : ∃ c, (⟨t.toArray⟩ : ByteArray)[k]'(by rw [size_mk]; exact hlt) = c := ⟨_, rfl⟩
      have hc2 := Lib.hid (show t[k] = c from hcd)
      cases hv : isVis c
      · have hT' := Lib.hid (show lineB l = ([], [], 0, false) by rw [hT.out, all_false hlt (by rw [hc2.out]; exact hv)]; rfl)
        rw [vis_eq, decide_eq_false_iff_not] at hv
        have hr : (c.toNat : Int) < 33 ∨ (33 ≤ (c.toNat : Int) ∧ 126 < (c.toNat : Int)) := by omega
        clear hv
        rcases hr with h1 | ⟨h1, h2⟩
        all_goals
          go_wp2
          (try simp only [Exit.inBlock, Exit.then])
          refine bodyPost_ret (results_tmp4 rfl _ _ _) rfl ⟨by rw [hT'.out]; rfl, hg2'.out⟩
      · have hv' := Lib.hid hv
        rw [vis_eq, decide_eq_true_eq] at hv
        obtain ⟨h1, h2⟩ := hv
        have hnext := Lib.hid (all_take_succ hall'.out hlt (by rw [hc2.out]; exact hv'.out))
        go_wp2
        go_round
        case rel => exact ⟨k + 1, by omega, rfl, rfl, by go_num, hnext.out⟩
        case measure => simp [intOf]; omega
    · have hvis := Lib.hid (show t.all isVis = true by have := hall'.out; rwa [List.take_of_length_le (by omega)] at this)
      clear hall'
      obtain ⟨w3, w4, r1, r2, r3, hg4⟩ := proto_map w2 p (by omega)
      have hg4' := Lib.hid (hg2'.out.trans hg4)
      obtain ⟨n, hn⟩ : ∃ n, protoN p = n := ⟨_, rfl⟩
      rw [hn] at r3
      have hn' := Lib.hid hn
      have hT2 := Lib.hid (show lineB l = if tokB m && (!t.isEmpty && n != 0) then (m, t, n, true) else ([], [], 0, false) by rw [hT.out, hvis.out, hn]; rfl)
      have hmm := @run_makeMap Tryz.prog
      clear hg4 hn
      cases hm : tokB m
      · have hT3 := Lib.hid (show lineB l = ([], [], 0, false) by rw [hT2.out, hm]; rfl)
        have htok := Lib.hid (fun w => token_is m _ hm w (by omega))
        clear hm
        go_wp2_with fail
        refine (htok.out _).mono ?_
        rintro e w5 ⟨rfl, rfl⟩
        go_wp2
        (try simp only [Exit.inBlock, Exit.then])
        refine bodyPost_ret (results_tmp4 rfl _ _ _) rfl ⟨by rw [hT3.out]; rfl, hg4'.out⟩
      · have htok := Lib.hid (fun w => token_is m _ hm w (by omega))
        have hm' := Lib.hid hm
        clear hm
        cases ht : t.isEmpty
        · cases hnz : (n != 0)
          · have hT3 := Lib.hid (show lineB l = ([], [], 0, false) by rw [hT2.out, hm'.out, ht, hnz]; rfl)
            obtain rfl : n = 0 := by simpa using hnz
            clear hnz
            have ht' : (!t.isEmpty) = true := by rw [ht]; rfl
            go_wp2_with fail
            refine (htok.out _).mono ?_
            rintro e w5 ⟨rfl, rfl⟩
            go_wp2
            (try simp only [Exit.inBlock, Exit.then])
            refine bodyPost_ret (results_tmp4 rfl _ _ _) rfl ⟨by rw [hT3.out]; rfl, hg4'.out⟩
          · have hT3 := Lib.hid (show lineB l = (m, t, n, true) by rw [hT2.out, hm'.out, ht, hnz]; rfl)
            have hnz2 : ((n : Int) == 0) = false := by
              have : n ≠ 0 := by simpa using hnz
              exact beq_eq_false_iff_ne.2 (by omega)
            clear hnz
            have ht' : (!t.isEmpty) = true := by rw [ht]; rfl
            go_wp2_with fail
            refine (htok.out _).mono ?_
            rintro e w5 ⟨rfl, rfl⟩
            go_wp2
            (try simp only [Exit.inBlock, Exit.then])
            refine bodyPost_ret (results_tmp4 rfl _ _ _) rfl ⟨by rw [hT3.out]; rfl, hg4'.out⟩
        · have hT3 := Lib.hid (show lineB l = ([], [], 0, false) by rw [hT2.out, hm'.out, ht]; rfl)
          have ht' : (!t.isEmpty) = false := by rw [ht]; rfl
          go_wp2_with fail
          refine (htok.out _).mono ?_
          rintro e w5 ⟨rfl, rfl⟩
          go_wp2
          (try simp only [Exit.inBlock, Exit.then])
          refine bodyPost_ret (results_tmp4 rfl _ _ _) rfl ⟨by rw [hT3.out]; rfl, hg4'.out⟩
end Go.Proofs.YtpncfeaaffgkfaaGreatDoor
