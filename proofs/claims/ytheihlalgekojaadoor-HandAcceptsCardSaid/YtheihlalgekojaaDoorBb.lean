/-
  Walks over package b64: a letter's number.
-/
import Derived.Test.YtheihlalgekojaaDoorBa
import Derived.Test.YtheihlalgekojaaDoorP18
import Derived.Laws.RangeAny
import Derived.WalkMore
namespace Go.Proofs.YtheihlalgekojaaDoor
open Go.RowKit
attribute [local go_sem] Oper.semAt_some

def letS : ByteArray := ⟨#[65, 66, 67, 68, 69, 70, 71, 72, 73, 74, 75, 76, 77, 78, 79, 80, 81, 82, 83, 84, 85, 86, 87, 88, 89, 90, 97, 98, 99, 100, 101, 102, 103, 104, 105, 106, 107, 108, 109, 110, 111, 112, 113, 114, 115, 116, 117, 118, 119, 120, 121, 122, 48, 49, 50, 51, 52, 53, 54, 55, 56, 57, 43, 47]⟩
theorem letS_size : letS.size = 64 := rfl
theorem letS_low : ∀ j : Fin 64, (letS[j.1]'(by have := j.2; rw [letS_size]; exact this)).toNat < 128 := by decide +kernel
theorem enc_high (r : Nat) (h : 128 ≤ r) : ∃ (L : List UInt8) (m : Nat) (c : UInt8), Utf8.encode (r : Int) = ⟨L.toArray⟩ ∧ L.length = m + 1 ∧ m ≤ 3 ∧ L[m]? = some c ∧ 128 ≤ c.toNat := by
  obtain ⟨c, hc, hc2⟩ : ∃ c, 128 ≤ c ∧ (if Utf8.valid (r : Int) then (r : Int).toNat else Utf8.runeError) = c := by
    refine ⟨_, ?_, rfl⟩
    split
    · omega
    · decide
  unfold Utf8.encode
  simp only [hc2]
  have e : ∀ x, (UInt8.ofNat (128 + x % 64)).toNat = 128 + x % 64 := fun x => by rw [UInt8.toNat_ofNat']; omega
  rw [if_neg (by omega)]
  split
  · exact ⟨[_, _], 1, _, rfl, rfl, by omega, rfl, by rw [e]; omega⟩
  · split
    · exact ⟨[_, _, _], 2, _, rfl, rfl, by omega, rfl, by rw [e]; omega⟩
    · exact ⟨[_, _, _, _], 3, _, rfl, rfl, by omega, rfl, by rw [e]; omega⟩
theorem idxByte_later {W0 : World} {T : List UInt8} {c : UInt8} (h : Lib.indexByte T c = -1) (v : Later (Gr W0)) :
    Calls Tryd.prog 81 #[.string ⟨T.toArray⟩, .int .u8 c.toNat] v.w fun e w' => e = .returned (.int .i64 (-1)) ∧ ∃ z : Later (Gr W0), w' = z.w :=
  Calls.later ((Tryd.strings_IndexByte ⟨T.toArray⟩ c.toNat v.w).mono fun _ _ ⟨h1, h2⟩ => ⟨by
    have e : ((c.toNat : Int).toNat.toUInt8) = c := by simp
    rw [e] at h1
    exact h1.trans (congrArg (fun z => Ending.returned (.int .i64 z)) h), h2 ▸ v.ok⟩)
set_option maxHeartbeats 4000000 in
set_option maxRecDepth 100000 in
theorem idxRune_high (r : Nat) (h1 : 128 ≤ r) (h2 : r ≤ 2147483647) (w : World) :
    Calls Tryd.prog 70 #[.string letS, .int .i32 r] w fun e w' => e = .returned (.int .i64 (-1)) ∧ Gr w w' := by
  have hr1 : ¬ (r : Int) < 128 := by omega
  have hr2 : (r : Int) ≤ 2147483647 := by omega
  have hsz := letS_size
  by_cases hE : r = 65533
  · subst hE
    have hsz' := Lib.hid hsz
    have hlow := Lib.hid letS_low
    obtain ⟨S, hS⟩ : ∃ S, letS = S := ⟨_, rfl⟩
    rw [hS]
    have hSs := Lib.hid (show S.size = 64 from hS ▸ rfl)
    have hSl := Lib.hid (show ∀ j (hj : j < S.size), S[j].toNat < 128 by subst hS; exact fun j hj => letS_low ⟨j, hj⟩)
    clear hS hsz hr1 hr2
    go_enter Tryd.func70, Tryd.ntmps70
    go_wp2
    go_loopw [6] (fun _ wx => ∃ k : Nat, k ≤ S.size ∧ wx = w.iter S k) (fun _ wx => S.size - wx.iterPos w.heap.size)
    case atStart => exact ⟨0, Nat.zero_le _, rfl⟩
    case round =>
      obtain ⟨k, hk, rfl⟩ := hrel
      by_cases hlt : k < S.size
      · have hnx := run_next_ascii (P := Tryd.prog) w S k 0 hlt (hSl.out k hlt)
        obtain ⟨c, hc⟩ : ∃ c, S[k] = c := ⟨_, rfl⟩
        have hc128 : c.toNat < 128 := hc ▸ hSl.out k hlt
        rw [hc] at hnx
        have hcE : ((c.toNat : Int) == 65533) = false := beq_eq_false_iff_ne.2 (by omega)
        clear hc
        go_wp2
        go_roundw
        case rel => exact ⟨k + 1, by omega, rfl⟩
        case measure => simp; omega
      · have hnx := run_next_end (P := Tryd.prog) w S k 0 hlt
        go_wp2
        go_ret
        exact ⟨rfl, Gr.alloc _ _⟩
  · have hEI : ((r : Int) == 65533) = false := beq_eq_false_iff_ne.2 (by omega)
    cases hv : Lib.validRune (r : Int)
    · go_enter Tryd.func70, Tryd.ntmps70
      go_wp2_with fail
      refine (Tryd.utf8_ValidRune _ _).mono ?_
      rintro e w1 ⟨rfl, rfl⟩
      rw [hv]
      go_wp2
      go_ret
      exact ⟨rfl, Gr.refl _⟩
    · obtain ⟨L, m, c, hE1, hE2, hm3, hE3, hc⟩ := enc_high r h1
      obtain ⟨S, hS⟩ : ∃ S : List UInt8, lettersL = S := ⟨_, rfl⟩
      have hSl : S.length = 64 := hS ▸ rfl
      have hlow : ∀ x ∈ S, x.toNat < 128 := hS ▸ letters_low
      have hlS : letS = ⟨S.toArray⟩ := hS ▸ rfl
      rw [hlS]
      clear hlS hS hsz
      have hm3I : (m : Int) ≤ 3 := by omega
      have hLI : (L.length : Int) - 1 = m := by omega
      have hLl : L.length ≤ 4 := by omega
      have hm1 : m < L.length := by omega
      have hm2 : m < S.length := by omega
      obtain ⟨d, hd⟩ : ∃ d, (⟨S.toArray⟩ : ByteArray)[m]'(by rw [size_mk]; exact hm2) = d := ⟨_, rfl⟩
      have hd128 : d.toNat < 128 := hlow d (by rw [← hd]; exact List.getElem_mem hm2)
      have hcx : (⟨L.toArray⟩ : ByteArray)[m]'(by rw [size_mk]; exact hm1) = c := by
        have : L[m]'hm1 = c := by rw [List.getElem?_eq_getElem hm1] at hE3; exact Option.some.inj hE3
        exact this
      have hne : ((d.toNat : Int) != c.toNat) = true := by rw [bne_iff_ne]; omega
      have hx : (⟨S.toArray⟩ : ByteArray).extract (m + 1) S.length = ⟨(S.drop (m + 1)).toArray⟩ := by rw [extract_mk, List.take_of_length_le (Nat.le_refl _)]
      have hSB : S.length ≤ 64 := by omega
      have hmS : (m : Int) + 1 ≤ S.length := by omega
      have hidx := Lib.hid (indexByte_none c (S.drop (m + 1)) (fun x hx e => by have := hlow x (List.mem_of_mem_drop hx); rw [e] at this; omega))
      have hE4 := Lib.hid hE1
      have hE2' := Lib.hid hE2
      have hSl' := Lib.hid hSl
      clear hE3 hlow hE2 hSl
      go_enter Tryd.func70, Tryd.ntmps70
      go_wp2_with fail
      refine (Tryd.utf8_ValidRune _ _).mono ?_
      rintro e w1 ⟨rfl, rfl⟩
      rw [hv]
      go_wp2
      go_step3
      go_wp2
      clear hLI hLl hE1 hv hEI hr1 hr2
      go_loop [9] (fun i => i = .int .i64 m) (fun _ => 0)
      case atStart => rfl
      case round =>
        obtain rfl := hrel
        go_wp2
        go_step3
        go_wp2
        haveI hne2 : ∀ W, Nonempty (Later (Gr W)) := fun W => ⟨⟨_, Gr.refl W⟩⟩
        refine wp_region_later (C := Gr _) (by kernel_rfl) (by kernel_rfl) (Gr.drew' _) ?_
        repeat (go_big_quiet_step (fail))
        refine wpQuiet_nil ?_
        intro w8 hg8
        have e1 : IntKind.i64.wrap ((m : Int) + 1) = (m : Int) + 1 := IntWalk.i64_in _ (by omega)
        have e2 : ((m : Int) + 1).toNat = m + 1 := by omega
        have e3 : 0 ≤ (m : Int) + 1 := by omega
        go_wp2
        refine wp_region_later (C := Gr _) (by kernel_rfl) (by kernel_rfl) (Gr.drew' _) ?_
        repeat (go_big_quiet_step (with_reducible exact idxByte_later hidx.out _))
        refine wpQuiet_nil ?_
        intro w9 hg9
        have hg := Lib.hid (hg8.trans hg9)
        clear e1 e2 e3 hg8 hg9
        go_wp2
        simp only [Exit.noGoto_ret, Exit.inBlock]
        show bodyPost _ _ (fun e w' => e = .returned (.int .i64 (-1)) ∧ Gr w1 w') Exit.ret _ _
        go_ret
        exact ⟨rfl, hg.out⟩
theorem value_low (c : UInt8) (hc : c.toNat < 128) (w : World) : Calls Tryd.prog 57 #[.int .i32 c.toNat] w fun e w' => e = .returned (.int .i64 (numB c)) ∧ w = w' := by
  have hi := Lib.hid (Tryd.strings_IndexRune_ascii letS c.toNat)
  have hcI : (c.toNat : Int) < 128 := by omega
  go_enter Tryd.func57, Tryd.ntmps57
  go_wp2_with fail
  refine (hi.out w (by omega) (by omega)).mono ?_
  rintro e w1 ⟨rfl, rfl⟩
  go_wp2
  go_ret
  refine ⟨?_, rfl⟩
  have e : ((c.toNat : Int).toNat.toUInt8) = c := by simp
  first | rfl | (rw [e]; rfl) | (simp [numB, letS, lettersL])
theorem value_high (r : Nat) (h1 : 128 ≤ r) (h2 : r ≤ 2147483647) (w : World) : Calls Tryd.prog 57 #[.int .i32 r] w fun e w' => e = .returned (.int .i64 (-1)) ∧ Gr w w' := by
  go_enter Tryd.func57, Tryd.ntmps57
  go_wp2_with fail
  refine (idxRune_high r h1 h2 w).mono ?_
  rintro e w1 ⟨rfl, hg⟩
  go_wp2
  go_ret
  exact ⟨rfl, hg⟩
end Go.Proofs.YtheihlalgekojaaDoor
