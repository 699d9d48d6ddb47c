/-
  Walks over package hand: has one of the fields of a name a part; the only field of a name.
-/
import Derived.Test.YtheihlalgekojaaGreatDoorHa
import Derived.Test.YtheihlalgekojaaGreatDoorBb
import Derived.Test.YtheihlalgekojaaGreatDoorG
import Derived.Test.YtheihlalgekojaaGreatDoorJ
import Derived.Test.YtheihlalgekojaaGreatDoorVr
import Derived.Test.YtheihlalgekojaaGreatDoorP19
namespace Go.Proofs.YtheihlalgekojaaGreatDoor
open Go.RowKit
attribute [local go_sem] Oper.semAt_some

/-- Fields whose texts are no longer than this. -/
def Short (fs : List Fl) : Prop := fs.length ≤ 1000000 ∧ ∀ f ∈ fs, f.1.length ≤ 800000 ∧ f.2.length ≤ 800000
theorem getB_short {fs : List Fl} (h : Short fs) (name : List UInt8) : (getB fs name).1.length ≤ 800000 ∧ (getB fs name).2 ≤ 1000000 := by
  refine ⟨?_, Nat.le_trans (getB_le fs name) h.1⟩
  unfold getB
  cases hq : (fs.filter fun f => alikeB f.1 name) with
  | nil => simp
  | cons f t =>
    have hm : f ∈ fs.filter fun f => alikeB f.1 name := by rw [hq]; exact List.mem_cons_self ..
    simpa using (h.2 f (List.mem_filter.1 hm).1).2
set_option maxHeartbeats 1000000 in
theorem one_any (v : Value) (fs : List Fl) (name : List UInt8) (w : World) (hG : G w) (hf : FieldsAt w v fs) (hs : Short fs) (hln : name.length ≤ 1000) :
    Calls Tryz.prog 13 #[v, .string ⟨name.toArray⟩] w fun e w' => e = .returned (.tuple #[.string ⟨(oneB fs name).1.toArray⟩, .bool (oneB fs name).2]) ∧ Gr w w' := by
  obtain ⟨⟨x, n⟩, hx⟩ : ∃ x, getB fs name = x := ⟨_, rfl⟩
  have hn := (getB_short hs name).2
  rw [hx] at hn
  dsimp only at hn
  have hget := Lib.hid (get_any v fs name w hG hf (by have := hs.1; omega) (fun f hf => by have := (hs.2 f hf).1; omega) (by omega))
  rw [hx] at hget
  have hb : ((n : Int) == 1) = (n == 1) := by rw [Bool.eq_iff_iff]; simp; omega
  have hH := Lib.hid (show oneB fs name = (x, n == 1) by unfold oneB; rw [hx])
  rw [hH.out]
  obtain ⟨f, hfd⟩ : ∃ f, (n == 1) = f := ⟨_, rfl⟩
  rw [hfd] at hb ⊢
  clear hx hfd
  obtain ⟨p, cap, rfl, _⟩ := hf
  go_enter Tryz.func13, Tryz.ntmps13
  go_wp2_with fail
  refine hget.out.mono ?_
  rintro e w1 ⟨rfl, hg⟩
  go_wp2
  go_ret2
  exact ⟨rfl, hg⟩
set_option maxHeartbeats 2000000 in
theorem asks_any (v : Value) (fs : List Fl) (name word : List UInt8) (w : World) (hG : G w) (hf : FieldsAt w v fs) (hs : Short fs) (hln : name.length ≤ 1000) (hlw : word.length ≤ 1000) :
    Calls Tryz.prog 15 #[v, .string ⟨name.toArray⟩, .string ⟨word.toArray⟩] w fun e w' => e = .returned (.bool (asksB fs name word)) ∧ Gr w w' := by
  have hs' := Lib.hid hs
  have hG' := Lib.hid hG
  have hfl : (fs.length : Int) ≤ 1000000 := by have := hs.1; omega
  obtain ⟨p, cap, rfl, hc⟩ := hf
  have hc' := Lib.hid hc
  obtain ⟨R, hR⟩ : ∃ R, asksB fs name word = R := ⟨_, rfl⟩
  rw [hR]
  have hR' := Lib.hid hR
  clear hc hs hG hR
  go_enter Tryz.func15, Tryz.ntmps15
  go_wp2
  go_loopw [11] (fun i wr => (∃ k : Nat, k ≤ fs.length ∧ i = .int .i64 k ∧ asksB (fs.take k) name word = false) ∧ Gr w wr) (fun i _ => fs.length - (intOf i).toNat)
  case atStart => exact ⟨⟨0, Nat.zero_le _, rfl, rfl⟩, Gr.refl _⟩
  case round =>
    obtain ⟨⟨k, hk, rfl, ha0⟩, hg⟩ := hrel
    have ha0' := Lib.hid ha0
    clear ha0
    by_cases hlt : k < fs.length
    · obtain ⟨b, off, rfl, h1, h2⟩ := hc'.out k hlt
      have c1 := hg.cell h1
      have c2 := hg.cell h2
      have hg' := Lib.hid (hg.trans (Gr.alloc wr (.cells #[.string ⟨fs[k].1.toArray⟩, .string ⟨fs[k].2.toArray⟩] 35)))
      have hts := Lib.hid (List.take_succ_eq_append_getElem hlt)
      obtain ⟨f, hfd⟩ : ∃ f, fs[k] = f := ⟨_, rfl⟩
      have hmem : f ∈ fs := hfd ▸ List.getElem_mem hlt
      obtain ⟨hf1, hf2⟩ := hs'.out.2 f hmem
      rw [hfd] at c1 c2 hts hg'
      have hany := Lib.hid (show (alikeB f.1 name && hasB f.2 word) = true → R = true from fun h => by
        rw [← hR'.out]; unfold asksB; exact List.any_eq_true.2 ⟨f, hmem, h⟩)
      have hkI : (k : Int) < fs.length := by omega
      clear hfd h1 h2 hg hmem
      have hal := Lib.hid (fun W h => alike_any f.1 name W h (by omega) (by omega))
      have hha := Lib.hid (fun W h => has_any f.2 word W h (by omega) (by omega))
      cases ha : alikeB f.1 name
      · rw [ha] at hal
        have hn := Lib.hid (show asksB (fs.take (k + 1)) name word = false by rw [hts.out]; unfold asksB; rw [List.any_append]; have := ha0'.out; unfold asksB at this; rw [this]; simp [ha])
        clear ha
        go_wp2_with fail
        refine (hal.out _ (hG'.out.gr hg'.out)).mono ?_
        rintro e w2 ⟨rfl, hb⟩
        have hg2 := Lib.hid (hg'.out.trans hb)
        clear hb
        go_wp2
        go_roundw
        case rel => exact ⟨⟨k + 1, by omega, by go_num, hn.out⟩, hg2.out⟩
        case measure => simp [intOf]; omega
      · rw [ha] at hal
        cases hh : hasB f.2 word
        · rw [hh] at hha
          have hn := Lib.hid (show asksB (fs.take (k + 1)) name word = false by rw [hts.out]; unfold asksB; rw [List.any_append]; have := ha0'.out; unfold asksB at this; rw [this]; simp [ha, hh])
          clear ha hh
          have q1 : (wr.alloc (.cells #[.string ⟨f.1.toArray⟩, .string ⟨f.2.toArray⟩] 35)).cell? ⟨wr.heap.size, 1, none⟩ = some (.string ⟨f.2.toArray⟩) := by simp [go_sem]
          go_wp2_with fail
          refine (hal.out _ (hG'.out.gr hg'.out)).mono ?_
          rintro e w2 ⟨rfl, hb⟩
          have hg2 := Lib.hid (hg'.out.trans hb)
          replace q1 := hb.cell q1
          clear hb
          go_wp2_with fail
          refine (hha.out _ (hG'.out.gr hg2.out)).mono ?_
          rintro e w3 ⟨rfl, hb⟩
          have hg3 := Lib.hid (hg2.out.trans hb)
          clear hb q1
          go_wp2
          go_roundw
          case rel => exact ⟨⟨k + 1, by omega, by go_num, hn.out⟩, hg3.out⟩
          case measure => simp [intOf]; omega
        · rw [hh] at hha
          have hfin := Lib.hid (hany.out (by rw [ha, hh]; rfl))
          clear ha hh
          have q1 : (wr.alloc (.cells #[.string ⟨f.1.toArray⟩, .string ⟨f.2.toArray⟩] 35)).cell? ⟨wr.heap.size, 1, none⟩ = some (.string ⟨f.2.toArray⟩) := by simp [go_sem]
          go_wp2_with fail
          refine (hal.out _ (hG'.out.gr hg'.out)).mono ?_
          rintro e w2 ⟨rfl, hb⟩
          have hg2 := Lib.hid (hg'.out.trans hb)
          replace q1 := hb.cell q1
          clear hb
          go_wp2_with fail
          refine (hha.out _ (hG'.out.gr hg2.out)).mono ?_
          rintro e w3 ⟨rfl, hb⟩
          have hg3 := Lib.hid (hg2.out.trans hb)
          clear hb q1
          go_wp2
          go_ret
          exact ⟨by rw [hfin.out]; rfl, hg3.out⟩
    · have hkI : ¬ (k : Int) < fs.length := by omega
      have hfin := Lib.hid (show R = false by rw [← hR'.out, ← ha0'.out, List.take_of_length_le (by omega)])
      go_wp2
      go_ret
      exact ⟨by rw [hfin.out]; rfl, hg⟩
end Go.Proofs.YtheihlalgekojaaGreatDoor
