/-
  The walk over ChunkData.
-/
import Derived.Test.YtnopfoagioodjaaDoorKl
import Derived.Test.YtnopfoagioodjaaDoorP11
namespace Go.Proofs.YtnopfoagioodjaaDoor
open Go.RowKit
attribute [local go_sem] Oper.semAt_some

/-- Data: what was fed so far, and what of it is data. -/
def DataRel (b : Nat) (w : World) (s : List UInt8) (was rest : List UInt8) (wr : World) : Prop :=
  ∃ r lv dv fed, Rd b wr r lv dv ∧ CkOk r ∧ Gr w wr ∧ r.data = was ∧ s = fed ++ rest ∧ was.Sublist fed
theorem sub_ne {x y : UInt8} {t w : List UInt8} (h : (y :: w).Sublist (x :: t)) (e : x ≠ y) : (y :: w).Sublist t := by
  cases h with
  | cons _ h => exact h
  | cons_cons _ h => exact absurd rfl e
theorem sub_next {s was : List UInt8} {i a : Nat} (hi : i < s.length) (ha : a < was.length) (h : (was.drop a).Sublist (s.drop i)) :
    (s[i] = was[a] → (was.drop (a + 1)).Sublist (s.drop (i + 1))) ∧ (s[i] ≠ was[a] → (was.drop a).Sublist (s.drop (i + 1))) := by
  rw [List.drop_eq_getElem_cons hi, List.drop_eq_getElem_cons ha] at h
  refine ⟨fun e => ?_, fun e => ?_⟩
  · rw [e] at h; exact List.cons_sublist_cons.1 h
  · rw [List.drop_eq_getElem_cons ha]
    exact sub_ne h e

set_option maxHeartbeats 8000000 in
set_option maxRecDepth 20000 in
theorem data_law (s cs : List UInt8) (cv : Value) (w : World) (hG : G w) (hc : CutsAt w cv cs) (hs : s.length ≤ 9223372036854775807) (hcl : cs.length ≤ 9223372036854775807) :
    Calls Tryd.prog 6 #[.string ⟨s.toArray⟩, cv] w fun e w' => e = .returned (.bool true) ∧ Gr w w' := by
  have hG' := Lib.hid hG
  have hc' := Lib.hid hc
  obtain ⟨p, cap, hcv, hcc⟩ := hc
  subst hcv
  have haw := Lib.hid (awake_any w hG)
  by_cases hbig : 5000 < s.length
  · have hbI : (5000 : Int) < s.length := by omega
    clear hcc hG
    go_enter Tryd.func6, Tryd.ntmps6
    go_wp2_with fail
    refine haw.out.mono ?_
    rintro e w1 ⟨rfl, hg1⟩
    have g1 := Lib.hid hg1
    clear hg1
    go_wp2
    go_ret
    exact ⟨rfl, g1.out⟩
  by_cases hbig2 : 300 < cs.length
  · have hbI : ¬ (5000 : Int) < s.length := by omega
    have hbI2 : (300 : Int) < cs.length := by omega
    clear hcc hG
    go_enter Tryd.func6, Tryd.ntmps6
    go_wp2_with fail
    refine haw.out.mono ?_
    rintro e w1 ⟨rfl, hg1⟩
    have g1 := Lib.hid hg1
    clear hg1
    go_wp2
    go_ret
    exact ⟨rfl, g1.out⟩
  have hbI : ¬ (5000 : Int) < s.length := by omega
  have hbI2 : ¬ (300 : Int) < cs.length := by omega
  have hsl := Lib.hid (show s.length ≤ 5000 by omega)
  have hcsl := Lib.hid (show cs.length ≤ 300 by omega)
  clear hG hcc hbig hbig2
  go_enter Tryd.func6, Tryd.ntmps6
  go_wp2_with fail
  refine haw.out.mono ?_
  rintro e w1 ⟨rfl, hg1⟩
  have g1 := Lib.hid hg1
  clear hg1
  go_wp2_with fail
  refine (new_any _).mono ?_
  rintro e w2 ⟨rfl, hR, hg⟩
  have hst := Lib.hid (show DataRel w1.heap.size w s [] s w2 from ⟨ck0, _, _, [], hR, ck0_ok, g1.out.trans hg, rfl, rfl, .slnil⟩)
  have hbb := Lib.hid (show w.heap.size ≤ w1.heap.size from g1.out.size)
  clear hR hg
  go_wp2
  go_loopw [6, 7, 8] (fun u t i wr => ∃ (was rest : List UInt8) (k : Nat), k ≤ cs.length ∧ was.length ≤ 4096 ∧ rest.length ≤ 5000 ∧ u = .string ⟨was.toArray⟩ ∧ t = .string ⟨rest.toArray⟩ ∧ i = .int .i64 k ∧ DataRel w1.heap.size w s was rest wr) (fun _ _ i _ => cs.length - (intOf i).toNat)
  case atStart => exact ⟨[], s, 0, by omega, by simp, hsl.out, rfl, rfl, rfl, hst.out⟩
  case round =>
    obtain ⟨was, rest, i, hi, hwl, hrl, rfl, rfl, rfl, r, lv, dv, fed, hR, hok, hgr0, hwas, hfed, hsub⟩ := hrel
    have hR' := Lib.hid hR
    have hok' := Lib.hid hok
    have hgr := Lib.hid hgr0
    have hwas' := Lib.hid hwas
    have hfed' := Lib.hid hfed
    have hsub' := Lib.hid hsub
    clear hR hok hgr0 hwas hfed hsub
    by_cases hin : i < cs.length
    · have hiI : (i : Int) < cs.length := by omega
      obtain ⟨p2, cap2, e, hcell⟩ := hc'.out.gr hgr.out
      obtain ⟨g, off, hp, hx⟩ := hcell i hin
      injection e with e1 e2 e3
      obtain rfl : p = some ⟨g, off, none⟩ := e1.trans hp
      clear hcell hp e1 e2 e3
      obtain ⟨c, hcc⟩ : ∃ c, cs[i].toNat = c := ⟨_, rfl⟩
      have hc255 : c ≤ 255 := by have := UInt8.toNat_lt cs[i]; omega
      rw [hcc] at hx
      obtain ⟨k, hmod⟩ : ∃ k, c % (rest.length + 1) = k := ⟨_, rfl⟩
      have hk : k ≤ rest.length := by have := Nat.mod_lt c (show 0 < rest.length + 1 by omega); omega
      have hrem1 : Int.tmod (c : Int) ((rest.length : Int) + 1) = k := by rw [← hmod]; exact (Int.ofNat_tmod c (rest.length + 1)).symm
      have hrem2 : (c : Int) % ((rest.length : Int) + 1) = k := by exact_mod_cast hmod
      have hcI : (c : Int) ≤ 255 := by omega
      obtain ⟨⟨m, r2⟩, hm⟩ : ∃ x, feedC r (rest.take k) = x := ⟨_, rfl⟩
      obtain ⟨d, hd1, hd2⟩ := feed_data_grows (rest.take k) r
      rw [hm, hwas'.out] at hd1
      dsimp only at hd1
      have hok2 := feed_ok (rest.take k) hok'.out
      rw [hm] at hok2
      dsimp only at hok2
      obtain ⟨now, hnow⟩ : ∃ l, was ++ d = l := ⟨_, rfl⟩
      rw [hnow] at hd1
      have hnl : was.length ≤ now.length := by rw [← hnow]; simp
      have hnl4 : now.length ≤ 4096 := by have := hok2.data; rw [hd1] at this; exact this
      have hsub2 : now.Sublist (fed ++ rest.take k) := by rw [← hnow]; exact hsub'.out.append hd2
      have hfed2 : s = (fed ++ rest.take k) ++ rest.drop k := by rw [List.append_assoc, List.take_append_drop]; exact hfed'.out
      have hnls : now.length ≤ s.length := by
        have := hsub2.length_le
        rw [hfed2, List.length_append]; omega
      have hx0 : (⟨now.toArray⟩ : ByteArray).extract 0 was.length = ⟨was.toArray⟩ := by rw [extract_mk, ← hnow]; simp
      have hx1 : (⟨rest.toArray⟩ : ByteArray).extract 0 k = ⟨(rest.take k).toArray⟩ := by rw [extract_mk]; simp
      have hx2 : (⟨rest.toArray⟩ : ByteArray).extract k rest.length = ⟨(rest.drop k).toArray⟩ := by rw [extract_mk]; simp
      have hdrl : (rest.drop k).length ≤ 5000 := by rw [List.length_drop]; omega
      have htkl : (rest.take k).length ≤ 5000 := by rw [List.length_take]; omega
      obtain ⟨ra, hra⟩ : ∃ a, rest.take k = a := ⟨_, rfl⟩
      obtain ⟨rb, hrb⟩ : ∃ a, rest.drop k = a := ⟨_, rfl⟩
      rw [hra] at hx1 hm hsub2 hfed2 htkl
      rw [hrb] at hx2 hfed2 hdrl
      have hfeed := Lib.hid (cfeed_is w1.heap.size r r2 ra m hm _ _ wr (hG'.out.gr hgr.out) (by have := hG'.out.lt; have := hbb.out; omega) hR'.out hok'.out (by omega))
      have hd1' := Lib.hid hd1
      have hok3 := Lib.hid hok2
      have hsub3 := Lib.hid hsub2
      have hfed3 := Lib.hid hfed2
      have hkr : (k : Int) ≤ rest.length := by omega
      have hnlI : (was.length : Int) ≤ now.length := by omega
      have hnl4I : (now.length : Int) ≤ 4096 := by omega
      have hnlsI : (now.length : Int) ≤ s.length := by omega
      have hdrl' := Lib.hid hdrl
      clear hm hd1 hd2 hok2 hsub2 hfed2 hra hrb hnow hmod hcc htkl hdrl
      go_wp2_with fail
      refine hfeed.out.mono ?_
      rintro e w5 ⟨rfl, hp⟩
      have hgr5 := Lib.hid (hp.made hR'.out hbb.out hgr.out)
      obtain ⟨lv5, dv5, hR5, _, _⟩ := hp
      have hR5' := Lib.hid hR5
      clear hR5
      go_wp2_with fail
      refine (data_is w1.heap.size r2 now hd1'.out _ _ w5 hR5'.out).mono ?_
      rintro e w6 ⟨rfl, rfl⟩
      go_wp2
      go_round
      case rel => exact ⟨now, rb, i + 1, by omega, hnl4, hdrl'.out, rfl, rfl, by go_num, r2, lv5, dv5, _, hR5'.out, hok3.out, hgr5.out, hd1'.out, hfed3.out, hsub3.out⟩
      case measure => simp [intOf]; omega
    · have hiI : ¬ (i : Int) < cs.length := by omega
      have hsubs := Lib.hid (show was.Sublist s from hsub'.out.trans (by rw [hfed'.out]; exact List.sublist_append_left _ _))
      clear hi hin
      have hsl2 := hsl.out
      go_wp2
      go_loopw [11, 12] (fun a j wx => ∃ (k m : Nat), k ≤ was.length ∧ m ≤ s.length ∧ a = .int .i64 k ∧ j = .int .i64 m ∧ Gr w wx ∧ (was.drop k).Sublist (s.drop m)) (fun _ j _ => s.length - (intOf j).toNat)
      case atStart => exact ⟨0, 0, by omega, by omega, rfl, rfl, hgr.out, by simpa using hsubs.out⟩
      case round =>
        obtain ⟨k, m, hk, hm, rfl, rfl, hg2, hsb⟩ := hrel
        have hg2' := Lib.hid hg2
        have hsb' := Lib.hid hsb
        clear hg2 hsb
        by_cases hms : m < s.length
        · by_cases hkw : k < was.length
          · obtain ⟨c, hc1⟩ : ∃ c, (⟨s.toArray⟩ : ByteArray)[m]'(by rw [size_mk]; exact hms) = c := ⟨_, rfl⟩
            obtain ⟨d, hd1⟩ : ∃ d, (⟨was.toArray⟩ : ByteArray)[k]'(by rw [size_mk]; exact hkw) = d := ⟨_, rfl⟩
            have hn := sub_next hms hkw hsb'.out
            rw [show s[m] = c from hc1, show was[k] = d from hd1] at hn
            have hn' := Lib.hid hn
            clear hn
            by_cases hcd : c = d
            · have hcdI : ((c.toNat : Int) == (d.toNat : Int)) = true := by rw [beq_iff_eq, hcd]
              go_wp2
              haveI hne : ∀ W, Nonempty (Later (Gr W)) := fun W => ⟨⟨_, Gr.refl W⟩⟩
              refine wp_region_later (C := Gr _) (by kernel_rfl) (by kernel_rfl) (Gr.drew' _) ?_
              repeat (go_big_quiet_step (fail))
              refine wpQuiet_nil ?_
              intro w9 hg9
              go_wp2
              go_round
              case rel => exact ⟨k + 1, m + 1, by omega, by omega, by go_num, by go_num, hg2'.out.trans hg9, hn'.out.1 hcd⟩
              case measure => simp [intOf]; omega
            · have hcdI : ((c.toNat : Int) == (d.toNat : Int)) = false := beq_eq_false_iff_ne.2 (fun e => hcd (UInt8.toNat_inj.1 (by omega)))
              go_wp2
              haveI hne : ∀ W, Nonempty (Later (Gr W)) := fun W => ⟨⟨_, Gr.refl W⟩⟩
              refine wp_region_later (C := Gr _) (by kernel_rfl) (by kernel_rfl) (Gr.drew' _) ?_
              repeat (go_big_quiet_step (fail))
              refine wpQuiet_nil ?_
              intro w9 hg9
              go_wp2
              go_round
              case rel => exact ⟨k, m + 1, by omega, by omega, by go_num, by go_num, hg2'.out.trans hg9, hn'.out.2 hcd⟩
              case measure => simp [intOf]; omega
          · have hkI : ((k : Int) == was.length) = true := by rw [beq_iff_eq]; omega
            have hkw2 : ¬ (k : Int) < was.length := by omega
            go_wp2
            go_ret
            exact ⟨rfl, hg2'.out⟩
        · have hmI : ¬ (m : Int) < s.length := by omega
          have hkI : ((k : Int) == was.length) = true := by
            have := hsb'.out.length_le
            rw [List.length_drop, List.length_drop] at this
            rw [beq_iff_eq]; omega
          go_wp2
          go_ret
          exact ⟨rfl, hg2'.out⟩
end Go.Proofs.YtnopfoagioodjaaDoor
