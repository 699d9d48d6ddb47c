/-
  Walks over the library's numbers in hexadecimal digits: what the program calls; what a chunk's head says.
-/
import Derived.Test.YtnopfoagioodjaaDoorKd
import Derived.Test.YtnopfoagioodjaaDoorKb
import Derived.Deep.Cut
namespace Go.Proofs.YtnopfoagioodjaaDoor
open Go.RowKit

set_option maxHeartbeats 2000000 in
set_option maxRecDepth 100000 in
theorem pint0_any (l : List UInt8) (h0 : l ≠ []) (h8 : l.length ≤ 8) (hx : l.all isHex = true) (w : World) :
    Calls Tryd.prog 71 #[.string ⟨l.toArray⟩, .int .i64 16, .int .i64 64] w fun e w' => e = .returned (.tuple #[.int .i64 (hexN l), .nilIface]) ∧ Gr w w' := by
  have hcall := Lib.hid (fun w => puint_any l h0 h8 hx w)
  have hb := hexN_lt l.length l rfl hx
  have hb2 : hexN l ≤ 4294967295 := by
    have : 16 ^ l.length ≤ 16 ^ 8 := Nat.pow_le_pow_right (by decide) h8
    have e : (16 : Nat) ^ 8 = 4294967296 := rfl
    omega
  obtain ⟨n, hn⟩ : ∃ n, hexN l = n := ⟨_, rfl⟩
  rw [hn] at hcall hb2 ⊢
  have hlen : 0 < l.length := List.length_pos_iff.2 h0
  obtain ⟨c, hc⟩ : ∃ c, (⟨l.toArray⟩ : ByteArray)[0]'(by rw [size_mk]; exact hlen) = c := ⟨_, rfl⟩
  have hxc : isHex c = true := List.all_eq_true.1 hx c (hc ▸ List.getElem_mem (l := l) hlen)
  have hcs := hex_cases c hxc
  have h43 : ((c.toNat : Int) == 43) = false := beq_eq_false_iff_ne.2 (by rcases hcs with ⟨h, _⟩ | ⟨h, _⟩ <;> omega)
  have h45 : ((c.toNat : Int) == 45) = false := beq_eq_false_iff_ne.2 (by rcases hcs with ⟨h, _⟩ | ⟨h, _⟩ <;> omega)
  have he : l.isEmpty = false := by simpa using h0
  have hnI : (n : Int) ≤ 4294967295 := by omega
  clear hx hb hn hcs hxc h0 hb2
  go_enter Tryd.func71, Tryd.ntmps71
  go_wp2_with fail
  refine (hcall.out _).mono ?_
  rintro e w1 ⟨rfl, hg⟩
  go_upto_region 17 with (fail)
  obtain ⟨co, hco⟩ : ∃ co : Int, (9223372036854775808 : Int) = co := ⟨_, rfl⟩
  have hco1 : 5000000000 < co := by omega
  rw [hco]
  clear hco
  go_wp2
  go_ret2
  exact ⟨rfl, hg⟩
theorem pint_any (l : List UInt8) (h0 : l ≠ []) (h8 : l.length ≤ 8) (hx : l.all isHex = true) (w : World) :
    Calls Tryd.prog 57 #[.string ⟨l.toArray⟩, .int .i64 16, .int .i64 64] w fun e w' => e = .returned (.tuple #[.int .i64 (hexN l), .nilIface]) ∧ Gr w w' := by
  have hcall := Lib.hid (fun w => pint0_any l h0 h8 hx w)
  obtain ⟨n, hn⟩ : ∃ n, hexN l = n := ⟨_, rfl⟩
  rw [hn] at hcall ⊢
  clear hx hn h0
  go_enter Tryd.func57, Tryd.ntmps57
  go_wp2_with fail
  refine (hcall.out _).mono ?_
  rintro e w1 ⟨rfl, hg⟩
  go_wp2
  go_ret2
  exact ⟨rfl, hg⟩

theorem dw_nil (p : UInt8 → Bool) : ∀ l : List UInt8, l.dropWhile p = [] ↔ ∀ x ∈ l, p x = true
  | [] => by simp
  | c :: t => by
    rw [List.dropWhile_cons]
    cases h : p c
    · simp [h]
    · simp [h, dw_nil p t]
theorem dw_head (p : UInt8 → Bool) : ∀ (l : List UInt8) (c : UInt8) (t : List UInt8), l.dropWhile p = c :: t → p c = false
  | [], _, _, h => by cases h
  | a :: l, c, t, h => by
    rw [List.dropWhile_cons] at h
    cases ha : p a
    · rw [ha] at h; simp at h; rw [← h.1]; exact ha
    · rw [ha] at h; exact dw_head p l c t h
theorem trimS_empty (l cs : List UInt8) : (Lib.trimS l cs).isEmpty = l.all (cs.contains ·) := by
  rw [Bool.eq_iff_iff, List.isEmpty_iff, List.all_eq_true]
  unfold Lib.trimS Lib.trimLeftS Lib.trimRightS
  rw [dw_nil]
  constructor
  · intro h
    have hnil : l.reverse.dropWhile (cs.contains ·) = [] := by
      cases hd : l.reverse.dropWhile (cs.contains ·) with
      | nil => rfl
      | cons c t =>
        have h1 := dw_head _ _ _ _ hd
        have h2 := h c (by rw [hd]; simp)
        rw [h1] at h2; cases h2
    have := (dw_nil _ _).1 hnil
    exact fun x hx => this x (List.mem_reverse.2 hx)
  · intro h
    have : l.reverse.dropWhile (cs.contains ·) = [] := (dw_nil _ _).2 (fun x hx => h x (List.mem_reverse.1 hx))
    rw [this]
    intro x hx; cases hx
theorem trimh_any (l t : List UInt8) (ht : Lib.trimS l hexesL = t) (w : World) (hl : l.length ≤ 9223372036854775807) :
    Calls Tryd.prog 56 #[.string ⟨l.toArray⟩, .string ⟨#[48, 49, 50, 51, 52, 53, 54, 55, 56, 57, 97, 98, 99, 100, 101, 102, 65, 66, 67, 68, 69, 70]⟩] w fun e w' => e = .returned (.string ⟨t.toArray⟩) ∧ Gr w w' :=
  ht ▸ Any.strings_Trim_laid Tryd.lays160 (by kernel_rfl) ⟨l.toArray⟩ ⟨#[48, 49, 50, 51, 52, 53, 54, 55, 56, 57, 97, 98, 99, 100, 101, 102, 65, 66, 67, 68, 69, 70]⟩ w (by rw [size_mk]; exact hl) (by decide) (ascii_of_all (by decide))
/-- What a text is parsed as: whether it is a value. -/
def PFineX (f : Bool) (w : World) (e : Ending) (w' : World) : Prop := ∃ n v : List UInt8, e = .returned (.tuple #[.agg #[.string ⟨n.toArray⟩, .string ⟨v.toArray⟩], .bool f]) ∧ Gr w w'
theorem pfinex (z y : List UInt8) (hz : z = [120, 58] ++ y) (f : Bool) (hf : y.all isVal = f) (w : World) (hG : G w) (hl : z.length ≤ 1000000) :
    Calls Tryd.prog 47 #[.string ⟨z.toArray⟩] w (PFineX f w) :=
  (parse_any z w hG (by omega)).mono fun e w' ⟨he, hg⟩ => by
    have h := parse_colon (n := [120]) (y := y) (by decide)
    have hz' : z = [120] ++ [58] ++ y := by rw [hz]; rfl
    rw [← hz', hf] at h
    rw [h] at he
    cases f
    · exact ⟨[], [], he, hg⟩
    · exact ⟨[120], trimB y, he, hg⟩
/-- The result of size. -/
def szV (o : Option Nat) : Value := match o with | none => .tuple #[.int .i64 0, .bool false] | some n => .tuple #[.int .i64 n, .bool true]

set_option maxHeartbeats 2000000 in
set_option maxRecDepth 100000 in
theorem size_any (s : List UInt8) (w : World) (hG : G w) (hl : s.length ≤ 900000) :
    Calls Tryd.prog 46 #[.string ⟨s.toArray⟩] w fun e w' => e = .returned (szV (sizeC s)) ∧ Gr w w' := by
  have hG' := Lib.hid hG
  have hc1 : (Lib.cut s [59]).1.length ≤ s.length := cut_le1 s [59]
  have hc2 : (Lib.cut s [59]).2.1.length ≤ s.length := cut_le2 s [59]
  have hcut := cut_any s [59] w hG (by omega)
  clear hG
  obtain ⟨⟨n, ext, d⟩, hc⟩ : ∃ c, Lib.cut s [59] = c := ⟨_, rfl⟩
  have hS : sizeC s = if ext.all isVal && (!n.isEmpty && (decide (n.length ≤ 8) && n.all isHex)) then some (hexN n) else none := by unfold sizeC; rw [hc]
  rw [hc] at hc1 hc2 hcut
  dsimp only at hc1 hc2 hcut
  have hcut' := Lib.hid hcut
  clear hc hcut
  obtain ⟨z, hz⟩ : ∃ z, [120, 58] ++ ext = z := ⟨_, rfl⟩
  have ez : (⟨#[120, 58]⟩ : ByteArray) ++ ⟨ext.toArray⟩ = ⟨z.toArray⟩ := hz ▸ cat_mk [120, 58] ext
  have hzl : z.length ≤ 1000000 := by rw [← hz]; simp; omega
  obtain ⟨f, hf⟩ : ∃ f, ext.all isVal = f := ⟨_, rfl⟩
  have hp := Lib.hid (fun W (h : Gr w W) => pfinex z ext hz.symm f hf W (hG'.out.gr h) hzl)
  rw [hf] at hS
  clear hz hf
  cases f
  · have hS' := Lib.hid (show sizeC s = none by rw [hS]; rfl)
    clear hS
    go_enter Tryd.func46, Tryd.ntmps46
    go_wp2_with fail
    refine hcut'.out.mono ?_
    rintro e w1 ⟨rfl, hg1⟩
    have g1 := Lib.hid hg1
    clear hg1
    go_wp2_with fail
    refine (hp.out _ g1.out).mono ?_
    rintro e w2 ⟨x1, x2, rfl, hg2⟩
    have g2 := Lib.hid ((g1.out.trans hg2).alloc1 (.cells #[.string ⟨x1.toArray⟩, .string ⟨x2.toArray⟩] 46))
    clear hg2
    go_wp2
    go_ret2
    exact ⟨by rw [hS'.out]; rfl, g2.out⟩
  · rw [Bool.true_and] at hS
    by_cases hne : n = []
    · have hS' := Lib.hid (show sizeC s = none by rw [hS, hne]; rfl)
      subst hne
      clear hS
      go_enter Tryd.func46, Tryd.ntmps46
      go_wp2_with fail
      refine hcut'.out.mono ?_
      rintro e w1 ⟨rfl, hg1⟩
      have g1 := Lib.hid hg1
      clear hg1
      go_wp2_with fail
      refine (hp.out _ g1.out).mono ?_
      rintro e w2 ⟨x1, x2, rfl, hg2⟩
      have g2 := Lib.hid ((g1.out.trans hg2).alloc1 (.cells #[.string ⟨x1.toArray⟩, .string ⟨x2.toArray⟩] 46))
      clear hg2
      go_wp2
      go_ret2
      exact ⟨by rw [hS'.out]; rfl, g2.out⟩
    · have hie : n.isEmpty = false := by simpa using hne
      have hne' := Lib.hid hne
      clear hne
      rw [hie, Bool.not_false, Bool.true_and] at hS
      by_cases h8 : n.length ≤ 8
      · rw [decide_eq_true h8, Bool.true_and] at hS
        obtain ⟨t, ht⟩ : ∃ t, Lib.trimS n hexesL = t := ⟨_, rfl⟩
        have htr := Lib.hid (fun W => trimh_any n t ht W (by omega))
        have hte : t.isEmpty = n.all isHex := by rw [← ht]; exact trimS_empty n hexesL
        have h8I : (n.length : Int) ≤ 8 := by omega
        clear ht
        cases hx : n.all isHex
        · have hS' := Lib.hid (show sizeC s = none by rw [hS, hx]; rfl)
          have htI : (!t.isEmpty) = true := by rw [hte, hx]; rfl
          clear hte hS hx
          go_enter Tryd.func46, Tryd.ntmps46
          go_wp2_with fail
          refine hcut'.out.mono ?_
          rintro e w1 ⟨rfl, hg1⟩
          have g1 := Lib.hid hg1
          clear hg1
          go_wp2_with fail
          refine (hp.out _ g1.out).mono ?_
          rintro e w2 ⟨x1, x2, rfl, hg2⟩
          have g2 := Lib.hid ((g1.out.trans hg2).alloc1 (.cells #[.string ⟨x1.toArray⟩, .string ⟨x2.toArray⟩] 46))
          clear hg2
          go_wp2_with fail
          refine (htr.out _).mono ?_
          rintro e w3 ⟨rfl, hg3⟩
          have g3 := Lib.hid (g2.out.trans hg3)
          clear hg3
          go_wp2
          go_ret2
          exact ⟨by rw [hS'.out]; rfl, g3.out⟩
        · have hS' := Lib.hid (show sizeC s = some (hexN n) by rw [hS, hx]; rfl)
          have hpi := Lib.hid (fun W => pint_any n hne'.out h8 hx W)
          obtain rfl : t = [] := by rw [hx] at hte; simpa using hte
          clear hte hS hx
          go_enter Tryd.func46, Tryd.ntmps46
          go_wp2_with fail
          refine hcut'.out.mono ?_
          rintro e w1 ⟨rfl, hg1⟩
          have g1 := Lib.hid hg1
          clear hg1
          go_wp2_with fail
          refine (hp.out _ g1.out).mono ?_
          rintro e w2 ⟨x1, x2, rfl, hg2⟩
          have g2 := Lib.hid ((g1.out.trans hg2).alloc1 (.cells #[.string ⟨x1.toArray⟩, .string ⟨x2.toArray⟩] 46))
          clear hg2
          go_wp2_with fail
          refine (htr.out _).mono ?_
          rintro e w3 ⟨rfl, hg3⟩
          have g3 := Lib.hid (g2.out.trans hg3)
          clear hg3
          go_wp2_with fail
          refine (hpi.out _).mono ?_
          rintro e w4 ⟨rfl, hg4⟩
          have g4 := Lib.hid (g3.out.trans hg4)
          clear hg4
          haveI : Nonempty (Later (Gr w4)) := ⟨⟨_, Gr.refl _⟩⟩
          go_wp2
          refine wp_region_later (C := Gr w4) (by kernel_rfl) (by kernel_rfl) (Gr.drew' _) ?_
          repeat (go_big_quiet_step (fail))
          refine wpQuiet_nil ?_
          intro w5 hg5
          have g5 := Lib.hid (g4.out.trans hg5)
          clear hg5
          go_wp2
          go_ret2
          exact ⟨by rw [hS'.out]; rfl, g5.out⟩
      · have hS' := Lib.hid (show sizeC s = none by rw [hS, decide_eq_false h8]; rfl)
        have h8I : 8 < (n.length : Int) := by omega
        clear hS h8
        go_enter Tryd.func46, Tryd.ntmps46
        go_wp2_with fail
        refine hcut'.out.mono ?_
        rintro e w1 ⟨rfl, hg1⟩
        have g1 := Lib.hid hg1
        clear hg1
        go_wp2_with fail
        refine (hp.out _ g1.out).mono ?_
        rintro e w2 ⟨x1, x2, rfl, hg2⟩
        have g2 := Lib.hid ((g1.out.trans hg2).alloc1 (.cells #[.string ⟨x1.toArray⟩, .string ⟨x2.toArray⟩] 46))
        clear hg2
        go_wp2
        go_ret2
        exact ⟨by rw [hS'.out]; rfl, g2.out⟩
end Go.Proofs.YtnopfoagioodjaaDoor
