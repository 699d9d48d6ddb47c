/-
  Walks over package line: a reply's line.
-/
import Derived.Test.YtfcokldbpjkjpaaGreatDoorLa
import Derived.Test.YtfcokldbpjkjpaaGreatDoorP8
import Derived.Sort.Grow
import Derived.Lib.SmallJoins
namespace Go.Proofs.YtfcokldbpjkjpaaGreatDoor
open Go.RowKit

theorem gr_grow (w : World) (k : Nat) (os : Array Obj) : Gr w (Sort.grow (w.drewN k) os) := by
  have h := below_drewNm w k
  refine ⟨h.os, h.tape, h.output, ?_, fun i hi => ?_⟩
  · have := h.size; (first | (simp [Sort.grow]; done) | (simp [Sort.grow]; omega))
  · have h2 := h.block i hi
    rw [← h2]
    exact Array.getElem?_append_left (Nat.lt_of_lt_of_le hi h.size)
theorem itoa_any (n : Int) (h0 : -9223372036854775808 ≤ n) (h1 : n ≤ 9223372036854775807) (w : World) (hG : G w) :
    Calls Tryz.prog 24 #[.int .i64 n] w fun e w' => e = .returned (.string ⟨(Lib.itoa n).toArray⟩) ∧ Gr w w' :=
  (Tryz.strconv_Itoa n h0 h1 w hG.pow).mono fun _ _ ⟨he, k, os, hw⟩ => ⟨he, hw ▸ gr_grow w k os⟩
theorem atoi_some (l : List UInt8) (v : Int) (h : Lib.atoi l = some v) (hl : l.length ≤ 18) (w : World) :
    Calls Tryz.prog 81 #[.string ⟨l.toArray⟩] w fun e w' => e = .returned (.tuple #[.int .i64 v, .nilIface]) ∧ Gr w w' :=
  (Tryz.strconv_Atoi ⟨l.toArray⟩ v (by rw [size_mk]; exact hl) h w).mono fun _ _ ⟨he, t, hw⟩ => ⟨he, hw ▸ Joins.below_bytesWorld _ w 5 t (Nat.le_refl _)⟩
def AtoiNo (w : World) (e : Ending) (w' : World) : Prop := ∃ N : Nat, e = .returned (.tuple #[.int .i64 0, .iface 132 (.pointer (some ⟨N, 0, none⟩))]) ∧ Gr w w'
theorem atoi_none (l : List UInt8) (h : Lib.atoi l = none) (hl : l.length ≤ 18) (w : World) (hG : G w) : Calls Tryz.prog 81 #[.string ⟨l.toArray⟩] w (AtoiNo w) :=
  let ⟨te, pe, hs⟩ := hG.syn
  (Tryz.strconv_Atoi_err ⟨l.toArray⟩ (by rw [size_mk]; exact hl) h (.iface te pe) w hs (.inr ⟨te, pe, rfl⟩)).mono fun _ _ ⟨N, he, _, _, hb⟩ => ⟨N, he, hb⟩

theorem cutp_yes (t : List UInt8) (w : World) :
    Calls Tryz.prog 80 #[.string ⟨(aheadL ++ t).toArray⟩, .string ⟨#[72, 84, 84, 80, 47, 49, 46, 49, 32]⟩] w fun e w' => e = .returned (.tuple #[.string ⟨t.toArray⟩, .bool true]) ∧ w = w' :=
  (Tryz.strings_CutPrefix ⟨(aheadL ++ t).toArray⟩ ⟨aheadL.toArray⟩ w).mono fun e w' ⟨he, hw⟩ => ⟨by
    have h1 : Lib.hasPrefix (aheadL ++ t) aheadL = true := List.isPrefixOf_iff_prefix.2 (List.prefix_append _ _)
    have h2 : Lib.trimPrefix (aheadL ++ t) aheadL = t := by unfold Lib.trimPrefix; rw [if_pos h1, List.drop_left]
    rw [he]
    show Ending.returned (.tuple #[.string ⟨(Lib.trimPrefix (aheadL ++ t) aheadL).toArray⟩, .bool (Lib.hasPrefix (aheadL ++ t) aheadL)]) = _
    rw [h1, h2], hw.symm⟩
theorem cutp_no (l : List UInt8) (h : Lib.hasPrefix l aheadL = false) (w : World) :
    Calls Tryz.prog 80 #[.string ⟨l.toArray⟩, .string ⟨#[72, 84, 84, 80, 47, 49, 46, 49, 32]⟩] w fun e w' => e = .returned (.tuple #[.string ⟨l.toArray⟩, .bool false]) ∧ w = w' :=
  (Tryz.strings_CutPrefix ⟨l.toArray⟩ ⟨aheadL.toArray⟩ w).mono fun e w' ⟨he, hw⟩ => ⟨by
    have h2 : Lib.trimPrefix l aheadL = l := by unfold Lib.trimPrefix; rw [if_neg (by rw [h]; decide)]
    rw [he]
    show Ending.returned (.tuple #[.string ⟨(Lib.trimPrefix l aheadL).toArray⟩, .bool (Lib.hasPrefix l aheadL)]) = _
    rw [h, h2], hw.symm⟩
/-- What a field's text after 'r:' is parsed as: whether it is a value. -/
def PFine (f : Bool) (w : World) (e : Ending) (w' : World) : Prop := ∃ n v : List UInt8, e = .returned (.tuple #[.agg #[.string ⟨n.toArray⟩, .string ⟨v.toArray⟩], .bool f]) ∧ Gr w w'
theorem pfine (z y : List UInt8) (hz : z = [114, 58] ++ y) (f : Bool) (hf : y.all isVal = f) (w : World) (hG : G w) (hl : z.length ≤ 1000000) :
    Calls Tryz.prog 29 #[.string ⟨z.toArray⟩] w (PFine f w) :=
  (parse_any z w hG (by omega)).mono fun e w' ⟨he, hg⟩ => by
    have h := parse_colon (n := [114]) (y := y) (by decide)
    have hz' : z = [114] ++ [58] ++ y := by rw [hz]; rfl
    rw [← hz', hf] at h
    rw [h] at he
    cases f
    · exact ⟨[], [], he, hg⟩
    · exact ⟨[114], trimB y, he, hg⟩

/-- The result of Status. -/
def stV (r : Nat × List UInt8 × Bool) : Value := .tuple #[.int .i64 r.1, .string ⟨r.2.1.toArray⟩, .bool r.2.2]
theorem stat_short {t : List UInt8} (h : t.length < 4) : statB (aheadL ++ t) = (0, [], false) :=
  statB_no (.inl (by
    have : decide (13 ≤ (aheadL ++ t).length) = false := by simp [aheadL]; omega
    rw [this]; simp))
theorem stat_four {a b c d : UInt8} {y : List UInt8} : statB (aheadL ++ a :: b :: c :: d :: y) = if (d == 32 && y.all isVal) then (match code3 a b c with | some n => (n, y, true) | none => (0, [], false)) else (0, [], false) := by
  have hcond : (Lib.hasPrefix (aheadL ++ a :: b :: c :: d :: y) aheadL && (decide (13 ≤ (aheadL ++ a :: b :: c :: d :: y).length) && (((aheadL ++ a :: b :: c :: d :: y)[12]? == some 32) && ((aheadL ++ a :: b :: c :: d :: y).drop 13).all isVal))) = (d == 32 && y.all isVal) := by
    have e1 : Lib.hasPrefix (aheadL ++ a :: b :: c :: d :: y) aheadL = true := List.isPrefixOf_iff_prefix.2 (List.prefix_append _ _)
    rw [e1]; simp [aheadL]
  unfold statB
  rw [hcond]; rfl
theorem four_of {t : List UInt8} (h : 4 ≤ t.length) : ∃ a b c d y, t = a :: b :: c :: d :: y := by
  match t, h with
  | a :: b :: c :: d :: y, _ => exact ⟨a, b, c, d, y, rfl⟩
theorem itoa_later {w : World} (n : Int) (h0 : -9223372036854775808 ≤ n) (h1 : n ≤ 9223372036854775807) (s : List UInt8) (hs : Lib.itoa n = s) (hG : G w) (x : Later (Gr w)) :
    Calls Tryz.prog 24 #[.int .i64 n] x.w fun e w'' => e = .returned (.string ⟨s.toArray⟩) ∧ ∃ y : Later (Gr w), w'' = y.w :=
  Calls.later ((itoa_any n h0 h1 x.w (hG.gr x.ok)).mono fun _ _ ⟨he, hw⟩ => ⟨hs ▸ he, x.ok.trans hw⟩)

set_option maxHeartbeats 2000000 in
set_option maxRecDepth 100000 in
theorem status_any (l : List UInt8) (w : World) (hG : G w) (hl : l.length ≤ 900000) :
    Calls Tryz.prog 55 #[.string ⟨l.toArray⟩] w fun e w' => e = .returned (stV (statB l)) ∧ Gr w w' := by
  have hG' := Lib.hid hG
  clear hG
  cases hp : Lib.hasPrefix l aheadL
  · have hT := Lib.hid (statB_no (l := l) (.inl (by rw [hp]; rfl)))
    have hc := Lib.hid (fun w => cutp_no l hp w)
    clear hp
    go_enter Tryz.func55, Tryz.ntmps55
    go_wp2_with fail
    refine (hc.out _).mono ?_
    rintro e w1 ⟨rfl, rfl⟩
    go_wp2
    go_ret3
    exact ⟨by rw [hT.out]; rfl, Gr.refl _⟩
  · obtain ⟨t, ht⟩ := List.isPrefixOf_iff_prefix.1 hp
    clear hp
    subst ht
    have hc := Lib.hid (fun w => cutp_yes t w)
    rw [List.length_append] at hl
    by_cases h4 : 4 ≤ t.length
    · obtain ⟨a, b, c, d, y, ht⟩ := four_of h4
      have hT := stat_four (a := a) (b := b) (c := c) (d := d) (y := y)
      rw [← ht] at hT
      have hlenT : t.length = y.length + 4 := by rw [ht]; simp
      have hd : (⟨t.toArray⟩ : ByteArray)[3]'(by rw [size_mk]; exact Nat.lt_of_lt_of_le (by decide) h4) = d := by subst ht; rfl
      obtain ⟨n3, hn3⟩ : ∃ n3, [a, b, c] = n3 := ⟨_, rfl⟩
      have hx3 : (⟨t.toArray⟩ : ByteArray).extract 0 3 = ⟨n3.toArray⟩ := by rw [extract_mk, ht, ← hn3]; rfl
      have hx4 : (⟨t.toArray⟩ : ByteArray).extract 4 t.length = ⟨y.toArray⟩ := by rw [extract_mk, ht]; simp
      obtain ⟨z, hz⟩ : ∃ z, [114, 58] ++ y = z := ⟨_, rfl⟩
      have hcat : (⟨#[114, 58]⟩ : ByteArray) ++ ⟨y.toArray⟩ = ⟨z.toArray⟩ := by rw [← hz]; exact cat_mk [114, 58] y
      have hyl : y.length ≤ 900000 := by omega
      have hzl : z.length ≤ 1000000 := by rw [← hz]; simp; omega
      obtain ⟨f, hf⟩ : ∃ f, y.all isVal = f := ⟨_, rfl⟩
      have hpf := Lib.hid (fun W (h : Gr w W) => pfine z y hz.symm f hf W (hG'.out.gr h) hzl)
      rw [hf] at hT
      have hT1 := Lib.hid hT
      have h3l : n3.length ≤ 18 := by rw [← hn3]; simp
      have hlen' := Lib.hid hlenT
      have h4I : ¬ ((t.length : Int) < 4) := by omega
      clear hT hz hf hlenT ht
      by_cases hd32 : d = 32
      · have hT2 := Lib.hid (show statB (aheadL ++ t) = if f then (match code3 a b c with | some n => (n, y, true) | none => (0, [], false)) else (0, [], false) by rw [hT1.out, hd32]; simp)
        have hdI : ((d.toNat : Int) == 32) = true := by rw [hd32]; rfl
        have hdI2 : ((d.toNat : Int) != 32) = false := by rw [hd32]; rfl
        clear hd32
        cases hat : Lib.atoi n3 with
        | none =>
          have hT3 := Lib.hid (show statB (aheadL ++ t) = (0, [], false) by rw [hT2.out, code3_fail (hn3 ▸ hat)]; cases f <;> rfl)
          have hcall := Lib.hid (fun W (h : Gr w W) => atoi_none n3 hat h3l W (hG'.out.gr h))
          clear hat hn3
          go_enter Tryz.func55, Tryz.ntmps55
          go_wp2_with fail
          refine (hc.out _).mono ?_
          rintro e w1 ⟨rfl, rfl⟩
          go_wp2_with fail
          refine (hpf.out _ (Gr.refl _)).mono ?_
          rintro e w2 ⟨n, v, rfl, hg2⟩
          have hg2' := Lib.hid hg2
          clear hg2
          go_wp2_with fail
          refine (hcall.out _ (hg2'.out.alloc1 _)).mono ?_
          rintro e w3 ⟨N, rfl, hg3⟩
          have hg3' := Lib.hid ((hg2'.out.alloc1 _).trans hg3)
          clear hg3
          haveI : Nonempty (Later (Gr w3)) := ⟨⟨_, Gr.refl _⟩⟩
          go_wp2
          refine wp_region_later (C := Gr w3) (by kernel_rfl) (by kernel_rfl) (Gr.drew' _) ?_
          repeat (go_big_quiet_step (fail))
          refine wpQuiet_nil ?_
          intro w4 hg4
          have hg4' := Lib.hid (hg3'.out.trans hg4)
          clear hg4
          go_wp2
          go_ret3
          exact ⟨by rw [hT3.out]; rfl, hg4'.out⟩
        | some v =>
          have hcall := Lib.hid (fun W => atoi_some n3 v hat h3l W)
          by_cases hr : v < 100 ∨ 599 < v
          · have hT3 := Lib.hid (show statB (aheadL ++ t) = (0, [], false) by rw [hT2.out, code3_range (hn3 ▸ hat) hr]; cases f <;> rfl)
            have hr2 : decide (v < 100) = true ∨ (decide (v < 100) = false ∧ decide (599 < v) = true) := by simp; omega
            clear hat hn3 hr
            rcases hr2 with h1 | ⟨h1, h2⟩
            all_goals
              go_enter Tryz.func55, Tryz.ntmps55
              go_wp2_with fail
              refine (hc.out _).mono ?_
              rintro e w1 ⟨rfl, rfl⟩
              go_wp2_with fail
              refine (hpf.out _ (Gr.refl _)).mono ?_
              rintro e w2 ⟨n, v, rfl, hg2⟩
              have hg2' := Lib.hid hg2
              clear hg2
              go_wp2_with fail
              refine (hcall.out _).mono ?_
              rintro e w3 ⟨rfl, hg3⟩
              have hg3' := Lib.hid ((hg2'.out.alloc1 _).trans hg3)
              clear hg3
              haveI : Nonempty (Later (Gr w3)) := ⟨⟨_, Gr.refl _⟩⟩
              go_wp2
              refine wp_region_later (C := Gr w3) (by kernel_rfl) (by kernel_rfl) (Gr.drew' _) ?_
              repeat (go_big_quiet_step (fail))
              refine wpQuiet_nil ?_
              intro w4 hg4
              have hg4' := Lib.hid (hg3'.out.trans hg4)
              clear hg4
              go_wp2
              go_ret3
              exact ⟨by rw [hT3.out]; rfl, hg4'.out⟩
          · have h1 : 100 ≤ v := by omega
            have h2 : v ≤ 599 := by omega
            have hprog := code3_prog (hn3 ▸ hat) h1 h2
            rw [hn3] at hprog
            clear hat hn3 hr
            obtain ⟨s, hs⟩ : ∃ s, Lib.itoa v = s := ⟨_, rfl⟩
            rw [hs] at hprog
            have hit := Lib.hid (fun W (h : Gr w W) (x : Later (Gr W)) => itoa_later v (by omega) (by omega) s hs (hG'.out.gr h) x)
            clear hs
            have hres : ∃ rr : Nat × List UInt8 × Bool, statB (aheadL ++ t) = rr ∧ ((s ≠ n3 ∧ rr = (0, [], false)) ∨ (s = n3 ∧ f = false ∧ rr = (0, [], false)) ∨ (s = n3 ∧ f = true ∧ rr = (v.toNat, y, true))) := by
              rcases hprog with ⟨e1, e2⟩ | ⟨e1, e2⟩
              · cases hf : f
                · exact ⟨_, by rw [hT2.out, e2, hf]; rfl, .inr (.inl ⟨e1, rfl, rfl⟩)⟩
                · exact ⟨_, by rw [hT2.out, e2, hf]; rfl, .inr (.inr ⟨e1, rfl, rfl⟩)⟩
              · exact ⟨_, by rw [hT2.out, e2]; cases f <;> rfl, .inl ⟨e1, rfl⟩⟩
            clear hprog
            have g1 : decide (v < 100) = false := by simp; omega
            have g2 : decide (599 < v) = false := by simp; omega
            obtain ⟨rr, hrr, hcase⟩ := hres
            have hrr' := Lib.hid hrr
            clear hrr
            rcases hcase with ⟨e1, rfl⟩ | ⟨rfl, rfl, rfl⟩ | ⟨rfl, rfl, rfl⟩
            · have e2 : (!(s == n3)) = true := by simpa using e1
              clear e1
              go_enter Tryz.func55, Tryz.ntmps55
              go_wp2_with fail
              refine (hc.out _).mono ?_
              rintro e w1 ⟨rfl, rfl⟩
              go_wp2_with fail
              refine (hpf.out _ (Gr.refl _)).mono ?_
              rintro e w2 ⟨n, v, rfl, hg2⟩
              have hg2' := Lib.hid hg2
              clear hg2
              go_wp2_with fail
              refine (hcall.out _).mono ?_
              rintro e w3 ⟨rfl, hg3⟩
              have hg3' := Lib.hid ((hg2'.out.alloc1 _).trans hg3)
              clear hg3
              have hitl := Lib.hid (fun x => hit.out w3 hg3'.out x)
              haveI : Nonempty (Later (Gr w3)) := ⟨⟨_, Gr.refl _⟩⟩
              go_wp2
              refine wp_region_later (C := Gr w3) (by kernel_rfl) (by kernel_rfl) (Gr.drew' _) ?_
              repeat (go_big_quiet_step (with_reducible exact hitl.out _))
              refine wpQuiet_nil ?_
              intro w4 hg4
              have hg4' := Lib.hid (hg3'.out.trans hg4)
              clear hg4
              go_wp2
              go_ret3
              exact ⟨by rw [hrr'.out]; rfl, hg4'.out⟩
            · go_enter Tryz.func55, Tryz.ntmps55
              go_wp2_with fail
              refine (hc.out _).mono ?_
              rintro e w1 ⟨rfl, rfl⟩
              go_wp2_with fail
              refine (hpf.out _ (Gr.refl _)).mono ?_
              rintro e w2 ⟨n, v, rfl, hg2⟩
              have hg2' := Lib.hid hg2
              clear hg2
              go_wp2_with fail
              refine (hcall.out _).mono ?_
              rintro e w3 ⟨rfl, hg3⟩
              have hg3' := Lib.hid ((hg2'.out.alloc1 _).trans hg3)
              clear hg3
              have hitl := Lib.hid (fun x => hit.out w3 hg3'.out x)
              haveI : Nonempty (Later (Gr w3)) := ⟨⟨_, Gr.refl _⟩⟩
              go_wp2
              refine wp_region_later (C := Gr w3) (by kernel_rfl) (by kernel_rfl) (Gr.drew' _) ?_
              repeat (go_big_quiet_step (with_reducible exact hitl.out _))
              refine wpQuiet_nil ?_
              intro w4 hg4
              have hg4' := Lib.hid (hg3'.out.trans hg4)
              clear hg4
              go_wp2
              go_ret3
              exact ⟨by rw [hrr'.out]; rfl, hg4'.out⟩
            · obtain ⟨m, rfl⟩ : ∃ m : Nat, v = m := ⟨v.toNat, by omega⟩
              rw [Int.toNat_natCast] at hrr'
              go_enter Tryz.func55, Tryz.ntmps55
              go_wp2_with fail
              refine (hc.out _).mono ?_
              rintro e w1 ⟨rfl, rfl⟩
              go_wp2_with fail
              refine (hpf.out _ (Gr.refl _)).mono ?_
              rintro e w2 ⟨n, v, rfl, hg2⟩
              have hg2' := Lib.hid hg2
              clear hg2
              go_wp2_with fail
              refine (hcall.out _).mono ?_
              rintro e w3 ⟨rfl, hg3⟩
              have hg3' := Lib.hid ((hg2'.out.alloc1 _).trans hg3)
              clear hg3
              have hitl := Lib.hid (fun x => hit.out w3 hg3'.out x)
              haveI : Nonempty (Later (Gr w3)) := ⟨⟨_, Gr.refl _⟩⟩
              go_wp2
              refine wp_region_later (C := Gr w3) (by kernel_rfl) (by kernel_rfl) (Gr.drew' _) ?_
              repeat (go_big_quiet_step (with_reducible exact hitl.out _))
              refine wpQuiet_nil ?_
              intro w4 hg4
              have hg4' := Lib.hid (hg3'.out.trans hg4)
              clear hg4 hitl
              haveI : Nonempty (Later (Gr w4)) := ⟨⟨_, Gr.refl _⟩⟩
              go_wp2
              refine wp_region_later (C := Gr w4) (by kernel_rfl) (by kernel_rfl) (Gr.drew' _) ?_
              repeat (go_big_quiet_step (fail))
              refine wpQuiet_nil ?_
              intro w5 hg5
              have hg5' := Lib.hid (hg4'.out.trans hg5)
              clear hg5
              go_wp2
              go_ret3
              exact ⟨by rw [hrr'.out]; rfl, hg5'.out⟩
      · have hT2 := Lib.hid (show statB (aheadL ++ t) = (0, [], false) by
          rw [hT1.out, show (d == 32) = false from beq_eq_false_iff_ne.2 hd32]; rfl)
        have hdI2 : ((d.toNat : Int) != 32) = true := bne_iff_ne.2 (fun e => hd32 (UInt8.toNat_inj.1 (show d.toNat = 32 by omega)))
        clear hd32
        go_enter Tryz.func55, Tryz.ntmps55
        go_wp2_with fail
        refine (hc.out _).mono ?_
        rintro e w1 ⟨rfl, rfl⟩
        go_wp2
        go_ret3
        exact ⟨by rw [hT2.out]; rfl, Gr.refl _⟩
    · have hT := Lib.hid (stat_short (t := t) (by omega))
      have h4I : (t.length : Int) < 4 := by omega
      clear h4
      go_enter Tryz.func55, Tryz.ntmps55
      go_wp2_with fail
      refine (hc.out _).mono ?_
      rintro e w1 ⟨rfl, rfl⟩
      go_wp2
      go_ret3
      exact ⟨by rw [hT.out]; rfl, Gr.refl _⟩
end Go.Proofs.YtfcokldbpjkjpaaGreatDoor
