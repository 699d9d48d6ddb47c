/-
  Walks over the chain's reference: values, names, whether a step is right, the first field of a name.
-/
import Derived.Test.YtolpphmgobeocaaDoorRa
import Derived.Test.YtolpphmgobeocaaDoorCd
namespace Go.Proofs.YtolpphmgobeocaaDoor
open Go.RowKit

theorem all_take_all {l : List UInt8} {p : UInt8 → Bool} {k : Nat} (h : (l.take k).all p = true) (hk : l.length ≤ k) : l.all p = true := by rwa [List.take_of_length_le hk] at h
set_option maxHeartbeats 4000000 in
theorem rplain_any (l : List UInt8) (w : World) (hl : l.length ≤ 1000000) :
    Calls Tryd.prog 28 #[.string ⟨l.toArray⟩] w fun e w' => e = .returned (.bool (plainB l)) ∧ w = w' := by
  have hlI : (l.length : Int) ≤ 1000000 := by omega
  go_enter Tryd.func28, Tryd.ntmps28
  go_wp2
  go_loop [3] (fun i => ∃ k : Nat, k ≤ l.length ∧ i = .int .i64 k ∧ (l.take k).all isVal = true) (fun i => l.length - (intOf i).toNat)
  case atStart => exact ⟨0, Nat.zero_le _, rfl, rfl⟩
  case round =>
    obtain ⟨k, hk, rfl, hall⟩ := hrel
    have hall' := Lib.hid hall
    clear hall
    by_cases hlt : k < l.length
    · obtain ⟨c, hc⟩ : ∃ c, (⟨l.toArray⟩ : ByteArray)[k]'(by rw [size_mk]; exact hlt) = c := ⟨_, rfl⟩
      have hc' := Lib.hid (show l[k] = c from hc)
      have hve := val_eq c
      cases hv : isVal c
      · have hbad := Lib.hid (show plainB l = false by unfold plainB; rw [all_false hlt (by rw [hc'.out]; exact hv)]; rfl)
        rw [hv] at hve
        have hve2 : ¬ ((c.toNat : Int) = 9 ∨ (32 ≤ (c.toNat : Int) ∧ (c.toNat : Int) ≠ 127)) := of_decide_eq_false hve.symm
        have h9 : ((c.toNat : Int) != 9) = true := by rw [bne_iff_ne]; omega
        clear hve hv
        by_cases h32 : (c.toNat : Int) < 32
        · clear hve2
          go_wp2
          go_ret
          exact ⟨ret_bool hbad.out.symm, rfl⟩
        · have h127 : ((c.toNat : Int) == 127) = true := by rw [beq_iff_eq]; omega
          clear hve2
          go_wp2
          go_ret
          exact ⟨ret_bool hbad.out.symm, rfl⟩
      · have hnext := Lib.hid (all_take_succ hall'.out hlt (by rw [hc'.out]; exact hv))
        rw [hv] at hve
        have hve2 : (c.toNat : Int) = 9 ∨ (32 ≤ (c.toNat : Int) ∧ (c.toNat : Int) ≠ 127) := of_decide_eq_true hve.symm
        clear hve hv
        rcases hve2 with h | ⟨h1, h2⟩
        · have h9 : ((c.toNat : Int) != 9) = false := by rw [h]; rfl
          clear h
          go_wp2
          go_round
          case rel => exact ⟨k + 1, by omega, by go_num, hnext.out⟩
          case measure => simp [intOf]; omega
        · have h127 : ((c.toNat : Int) == 127) = false := beq_eq_false_iff_ne.2 h2
          have h9 : ((c.toNat : Int) != 9) = true := by rw [bne_iff_ne]; omega
          clear h2
          go_wp2
          go_round
          case rel => exact ⟨k + 1, by omega, by go_num, hnext.out⟩
          case measure => simp [intOf]; omega
    · have hv := Lib.hid (all_take_all hall'.out (by omega))
      clear hall'
      by_cases h0 : l = []
      · subst h0
        go_wp2
        go_ret
        exact ⟨rfl, rfl⟩
      · have hlen : 0 < l.length := List.length_pos_iff.2 h0
        have e1 : l.isEmpty = false := by simpa using h0
        have hlenI : (0 : Int) < l.length := by omega
        obtain ⟨a, ha⟩ : ∃ c, (⟨l.toArray⟩ : ByteArray)[0]'(by rw [size_mk]; exact hlen) = c := ⟨_, rfl⟩
        obtain ⟨b, hb⟩ : ∃ c, (⟨l.toArray⟩ : ByteArray)[l.length - 1]'(by rw [size_mk]; omega) = c := ⟨_, rfl⟩
        have hhd : l.headD 0 = a := by cases l with
          | nil => cases hlen
          | cons x t => exact ha
        have htl : l.getLastD 0 = b := by
          rw [List.getLastD_eq_getLast?, List.getLast?_eq_getElem?, List.getElem?_eq_getElem (by omega)]; exact hb
        have hfin := Lib.hid (show plainB l = (!isBlank a && !isBlank b) by unfold plainB; rw [hv.out, e1, hhd, htl]; rfl)
        have hba := Lib.hid (blank_eq a)
        have hbb := Lib.hid (blank_eq b)
        have hix : ((l.length : Int) - 1).toNat = l.length - 1 := by omega
        have hip : (0 : Int) ≤ (l.length : Int) - 1 := by omega
        have hil : (l.length : Int) - 1 < l.length := by omega
        have hwr : IntKind.i64.wrap ((l.length : Int) - 1) = (l.length : Int) - 1 := by unfold IntKind.wrap; simp [IntKind.bits, IntKind.signed]; omega
        clear hhd htl h0
        go_wp2
        all_goals go_ret
        all_goals exact ⟨ret_bool (by rw [hfin.out, hba.out, hbb.out]; first | (simp [*]; done) | (rw [Bool.eq_iff_iff]; simp [*]; done) | (rw [Bool.eq_iff_iff]; simp [*]; omega)), rfl⟩

theorem own_eq (s : List UInt8) : ownB s = ((s.map lower == ([97, 108, 108, 111, 119] : List UInt8)) || ((s.map lower == ([99, 111, 110, 110, 101, 99, 116, 105, 111, 110] : List UInt8)) || ((s.map lower == ([99, 111, 110, 116, 101, 110, 116, 45, 108, 101, 110, 103, 116, 104] : List UInt8)) || ((s.map lower == ([115, 101, 99, 45, 119, 101, 98, 115, 111, 99, 107, 101, 116, 45, 97, 99, 99, 101, 112, 116] : List UInt8)) || ((s.map lower == ([115, 101, 99, 45, 119, 101, 98, 115, 111, 99, 107, 101, 116, 45, 118, 101, 114, 115, 105, 111, 110] : List UInt8)) || ((s.map lower == ([116, 114, 97, 110, 115, 102, 101, 114, 45, 101, 110, 99, 111, 100, 105, 110, 103] : List UInt8)) || ((s.map lower == ([117, 112, 103, 114, 97, 100, 101] : List UInt8))))))))) := by
  rw [own_low, show lowsL = [[97, 108, 108, 111, 119], [99, 111, 110, 110, 101, 99, 116, 105, 111, 110], [99, 111, 110, 116, 101, 110, 116, 45, 108, 101, 110, 103, 116, 104], [115, 101, 99, 45, 119, 101, 98, 115, 111, 99, 107, 101, 116, 45, 97, 99, 99, 101, 112, 116], [115, 101, 99, 45, 119, 101, 98, 115, 111, 99, 107, 101, 116, 45, 118, 101, 114, 115, 105, 111, 110], [116, 114, 97, 110, 115, 102, 101, 114, 45, 101, 110, 99, 111, 100, 105, 110, 103], [117, 112, 103, 114, 97, 100, 101]] from by decide +kernel]
  generalize s.map lower = g
  simp only [List.contains_cons, List.contains_nil, Bool.or_false]

set_option maxHeartbeats 4000000 in
theorem rown_any (s : List UInt8) (w : World) (hs : s.length ≤ 1000000) :
    Calls Tryd.prog 29 #[.string ⟨s.toArray⟩] w fun e w' => e = .returned (.bool (ownB s)) ∧ Gr w w' := by
  have hlow := rlow_any s
  have hoe := own_eq s
  obtain ⟨g, hg⟩ : ∃ g, s.map lower = g := ⟨_, rfl⟩
  rw [hg] at hlow hoe
  have hlow' := Lib.hid hlow
  have hoe' := Lib.hid hoe
  clear hlow hoe hg
  go_enter Tryd.func29, Tryd.ntmps29
  go_wp2_with fail
  refine (hlow'.out _ hs).mono ?_
  rintro e w1 ⟨rfl, hb⟩
  have hb' := Lib.hid hb
  clear hb
  go_wp2
  all_goals go_ret
  all_goals exact ⟨ret_bool (by rw [hoe'.out]; first | (simp [*]; done) | simp_all), hb'.out⟩

theorem low_eq (a b : List UInt8) : (a.map lower == b.map lower) = alikeB a b := rfl

set_option maxHeartbeats 4000000 in
theorem rget13_any (v : Value) (fs : List Fl) (name : List UInt8) (w : World) (hf : FieldsAt w v fs) (hn : fs.length ≤ 1000000) (hl : ∀ f ∈ fs, f.1.length ≤ 1000000) (hln : name.length ≤ 1000000) :
    Calls Tryd.prog 36 #[v, .string ⟨name.toArray⟩] w fun e w' => e = .returned (.tuple #[.string ⟨((getO fs name).getD []).toArray⟩, .bool (getO fs name).isSome]) ∧ Gr w w' := by
  have hl' := Lib.hid hl
  obtain ⟨p, cap, rfl, hc⟩ := hf
  have hc' := Lib.hid hc
  have hnI : (fs.length : Int) ≤ 1000000 := by omega
  clear hl hc
  go_enter Tryd.func36, Tryd.ntmps36
  go_wp2
  go_loopw [6] (fun i wr => (∃ k : Nat, k ≤ fs.length ∧ i = .int .i64 k ∧ getO fs name = getO (fs.drop k) name) ∧ Gr w wr) (fun i _ => fs.length - (intOf i).toNat)
  case atStart => exact ⟨⟨0, Nat.zero_le _, rfl, rfl⟩, Gr.refl _⟩
  case round =>
    obtain ⟨⟨k, hk, rfl, hall⟩, hg⟩ := hrel
    have hall' := Lib.hid hall
    clear hall
    by_cases hlt : k < fs.length
    · obtain ⟨b, off, rfl, h1, h2⟩ := hc'.out k hlt
      have c1 := hg.cell h1
      have c2 := hg.cell h2
      clear h1 h2
      have hdr := Lib.hid (List.drop_eq_getElem_cons hlt)
      obtain ⟨f, hfd⟩ : ∃ f, fs[k] = f := ⟨_, rfl⟩
      have hmem : f ∈ fs := hfd ▸ List.getElem_mem hlt
      rw [hfd] at c1 c2 hdr
      have hfl := hl'.out f hmem
      clear hfd
      have e1 := rlow_any f.1
      have e2 := rlow_any name
      have hal : (f.1.map lower == name.map lower) = alikeB f.1 name := rfl
      obtain ⟨ga, hga⟩ : ∃ g, f.1.map lower = g := ⟨_, rfl⟩
      obtain ⟨gb, hgb⟩ : ∃ g, name.map lower = g := ⟨_, rfl⟩
      rw [hga] at e1 hal
      rw [hgb] at e2 hal
      have e1' := Lib.hid e1
      have e2' := Lib.hid e2
      have hal' := Lib.hid hal
      clear e1 e2 hal hga hgb
      by_cases heq : ga = gb
      · subst heq
        have hget := Lib.hid (show getO fs name = some f.2 by rw [hall'.out, hdr.out]; unfold getO; rw [List.find?_cons, ← hal'.out]; simp)
        go_wp2_with fail
        refine (e1'.out _ hfl).mono ?_
        rintro e w2 ⟨rfl, hb2⟩
        have d2 := hb2.cell c2
        have hg2 := Lib.hid (hg.trans hb2)
        clear hb2 c1 c2 hg
        go_wp2_with fail
        refine (e2'.out _ hln).mono ?_
        rintro e w3 ⟨rfl, hb3⟩
        have d3 := hb3.cell d2
        have hg3 := Lib.hid (hg2.out.trans hb3)
        clear hb3 d2
        go_wp2
        go_ret2
        exact ⟨by rw [hget.out]; rfl, hg3.out⟩
      · have hno := Lib.hid (show getO fs name = getO (fs.drop (k + 1)) name by
          rw [hall'.out, hdr.out]; unfold getO; rw [List.find?_cons, ← hal'.out, beq_eq_false_iff_ne.2 heq])
        have hbq : (ga == gb) = false := beq_eq_false_iff_ne.2 heq
        clear heq
        go_wp2_with fail
        refine (e1'.out _ hfl).mono ?_
        rintro e w2 ⟨rfl, hb2⟩
        have hg2 := Lib.hid (hg.trans hb2)
        clear hb2 c1 c2 hg
        go_wp2_with fail
        refine (e2'.out _ hln).mono ?_
        rintro e w3 ⟨rfl, hb3⟩
        have hg3 := Lib.hid (hg2.out.trans hb3)
        clear hb3
        go_wp2
        go_roundw
        case rel => exact ⟨⟨k + 1, by omega, by go_num, hno.out⟩, hg3.out⟩
        case measure => simp [intOf]; omega
    · have hnone := Lib.hid (show getO fs name = none by rw [hall'.out, List.drop_of_length_le (by omega)]; rfl)
      go_wp2
      go_ret2
      exact ⟨by rw [hnone.out]; rfl, hg⟩

theorem rown_is (s : List UInt8) (b : Bool) (h : ownB s = b) (w : World) (hs : s.length ≤ 1000000) :
    Calls Tryd.prog 29 #[.string ⟨s.toArray⟩] w fun e w' => e = .returned (.bool b) ∧ Gr w w' := h ▸ rown_any s w hs
theorem rtok13_is (l : List UInt8) (b : Bool) (h : tokB l = b) (w : World) (hl : l.length ≤ 9223372036854775807) :
    Calls Tryd.prog 27 #[.string ⟨l.toArray⟩] w fun e w' => e = .returned (.bool b) ∧ w = w' := h ▸ rtok13_any l w hl
theorem rplain_is (l : List UInt8) (b : Bool) (h : plainB l = b) (w : World) (hl : l.length ≤ 1000000) :
    Calls Tryd.prog 28 #[.string ⟨l.toArray⟩] w fun e w' => e = .returned (.bool b) ∧ w = w' := h ▸ rplain_any l w hl

set_option maxHeartbeats 2000000 in
theorem rright1_any (name value : List UInt8) (n : Int) (w : World) (hn : name.length ≤ 1000) (hv : value.length ≤ 1000) :
    Calls Tryd.prog 13 #[.agg #[.int .i64 1, .string ⟨name.toArray⟩, .string ⟨value.toArray⟩, .int .i64 n]] w fun e w' => e = .returned (.bool (tokB name && plainB value && !ownB name && decide (n = 0))) ∧ Gr w w' := by
  obtain ⟨b1, hb1⟩ : ∃ b, tokB name = b := ⟨_, rfl⟩
  obtain ⟨b2, hb2⟩ : ∃ b, plainB value = b := ⟨_, rfl⟩
  obtain ⟨b3, hb3⟩ : ∃ b, ownB name = b := ⟨_, rfl⟩
  rw [hb1, hb2, hb3]
  have h1 := Lib.hid hb1
  have h2 := Lib.hid hb2
  have h3 := Lib.hid hb3
  clear hb1 hb2 hb3
  cases b1
  · go_enter Tryd.func13, Tryd.ntmps13
    go_wp2_with fail
    refine (rtok13_is name _ h1.out _ (by omega)).mono ?_
    rintro e w1 ⟨rfl, rfl⟩
    go_wp2
    go_ret
    exact ⟨rfl, Gr.alloc _ _⟩
  · cases b2
    · go_enter Tryd.func13, Tryd.ntmps13
      go_wp2_with fail
      refine (rtok13_is name _ h1.out _ (by omega)).mono ?_
      rintro e w1 ⟨rfl, rfl⟩
      go_wp2_with fail
      refine (rplain_is value _ h2.out _ (by omega)).mono ?_
      rintro e w1 ⟨rfl, rfl⟩
      go_wp2
      go_ret
      exact ⟨rfl, Gr.alloc _ _⟩
    · cases b3
      all_goals
        go_enter Tryd.func13, Tryd.ntmps13
        go_wp2_with fail
        refine (rtok13_is name _ h1.out _ (by omega)).mono ?_
        rintro e w1 ⟨rfl, rfl⟩
        go_wp2_with fail
        refine (rplain_is value _ h2.out _ (by omega)).mono ?_
        rintro e w1 ⟨rfl, rfl⟩
        go_wp2_with fail
        refine (rown_is name _ h3.out _ (by omega)).mono ?_
        rintro e w2 ⟨rfl, hb⟩
        have d3 : w2.cell? ⟨w.heap.size, 3, none⟩ = some (.int .i64 n) := hb.cell (by simp [go_sem])
        have hg2 := Lib.hid ((Gr.alloc _ _).trans hb)
        clear hb
        go_wp2
        go_ret
        exact ⟨ret_bool (by first | rfl | (rw [int_beq]; rfl)), hg2.out⟩

set_option maxHeartbeats 2000000 in
theorem rright2_any (name value : List UInt8) (n : Int) (w : World) (hn : name.length ≤ 1000) :
    Calls Tryd.prog 13 #[.agg #[.int .i64 2, .string ⟨name.toArray⟩, .string ⟨value.toArray⟩, .int .i64 n]] w fun e w' => e = .returned (.bool (tokB name && decide (n = 0))) ∧ Gr w w' := by
  cases ht : tokB name
  all_goals have ht' := Lib.hid ht
  all_goals clear ht
  all_goals
    go_enter Tryd.func13, Tryd.ntmps13
    go_wp2_with fail
    refine (rtok13_is name _ ht'.out _ (by omega)).mono ?_
    rintro e w1 ⟨rfl, rfl⟩
    go_wp2
    go_ret
    exact ⟨ret_bool (by first | rfl | simp), Gr.alloc _ _⟩

set_option maxHeartbeats 2000000 in
theorem rright3_any (name value : List UInt8) (n : Int) (w : World) :
    Calls Tryd.prog 13 #[.agg #[.int .i64 3, .string ⟨name.toArray⟩, .string ⟨value.toArray⟩, .int .i64 n]] w fun e w' => e = .returned (.bool (decide (0 ≤ n) && name.isEmpty && value.isEmpty)) ∧ Gr w w' := by
  go_enter Tryd.func13, Tryd.ntmps13
  go_wp2
  all_goals go_ret
  all_goals exact ⟨ret_bool (by first | (simp [*]; done) | (simp; omega)), Gr.alloc _ _⟩

set_option maxHeartbeats 2000000 in
theorem rright4_any (name value : List UInt8) (n : Int) (w : World) (hv : value.length ≤ 1000) :
    Calls Tryd.prog 13 #[.agg #[.int .i64 4, .string ⟨name.toArray⟩, .string ⟨value.toArray⟩, .int .i64 n]] w fun e w' => e = .returned (.bool (slashB value && name.isEmpty && decide (n = 0))) ∧ Gr w w' := by
  by_cases hlt : 2 ≤ value.length
  · obtain ⟨a, ha⟩ : ∃ c, (⟨value.toArray⟩ : ByteArray)[0]'(by rw [size_mk]; omega) = c := ⟨_, rfl⟩
    obtain ⟨b, hb⟩ : ∃ c, (⟨value.toArray⟩ : ByteArray)[value.length - 1]'(by rw [size_mk]; omega) = c := ⟨_, rfl⟩
    have hhd : value.headD 0 = a := by cases value with
      | nil => simp at hlt
      | cons x t => exact ha
    have htl : value.getLastD 0 = b := by
      rw [List.getLastD_eq_getLast?, List.getLast?_eq_getElem?, List.getElem?_eq_getElem (by omega)]; exact hb
    have hsl := Lib.hid (show slashB value = ((a == 47) && !(b == 47)) by unfold slashB; rw [hhd, htl, decide_eq_true (by omega : 1 < value.length)]; rfl)
    have hix : ((value.length : Int) - 1).toNat = value.length - 1 := by omega
    have hip : (0 : Int) ≤ (value.length : Int) - 1 := by omega
    have hil : (value.length : Int) - 1 < value.length := by omega
    have hwr : IntKind.i64.wrap ((value.length : Int) - 1) = (value.length : Int) - 1 := by unfold IntKind.wrap; simp [IntKind.bits, IntKind.signed]; omega
    have hlI : (2 : Int) ≤ value.length := by omega
    have h0I : (0 : Int) < value.length := by omega
    clear hhd htl
    by_cases h47 : a = 47
    · subst h47
      by_cases hb47 : b = 47
      · subst hb47
        go_enter Tryd.func13, Tryd.ntmps13
        go_wp2
        all_goals go_ret
        all_goals exact ⟨ret_bool (by rw [hsl.out]; rfl), Gr.alloc _ _⟩
      · have hbn : ((b.toNat : Int) != 47) = true := by rw [bne_iff_ne]; exact fun e => hb47 (UInt8.toNat_inj.1 (by show b.toNat = 47; omega))
        have hsl2 := Lib.hid (show slashB value = true by rw [hsl.out, beq_eq_false_iff_ne.2 hb47]; rfl)
        clear hb47
        go_enter Tryd.func13, Tryd.ntmps13
        go_wp2
        all_goals go_ret
        all_goals exact ⟨ret_bool (by first | (rw [hsl2.out, int_beq]; simp [*]; done) | (rw [hsl2.out]; simp [*]; done)), Gr.alloc _ _⟩
    · have han : ((a.toNat : Int) == 47) = false := beq_eq_false_iff_ne.2 fun e => h47 (UInt8.toNat_inj.1 (by show a.toNat = 47; omega))
      have hsl2 := Lib.hid (show slashB value = false by rw [hsl.out, beq_eq_false_iff_ne.2 h47]; rfl)
      clear h47
      go_enter Tryd.func13, Tryd.ntmps13
      go_wp2
      all_goals go_ret
      all_goals exact ⟨ret_bool (by rw [hsl2.out]; simp), Gr.alloc _ _⟩
  · have hs := Lib.hid (show slashB value = false by unfold slashB; rw [decide_eq_false (by omega : ¬ 1 < value.length)]; rfl)
    go_enter Tryd.func13, Tryd.ntmps13
    go_wp2
    all_goals go_ret
    all_goals exact ⟨ret_bool (by rw [hs.out]; simp), Gr.alloc _ _⟩

set_option maxHeartbeats 2000000 in
theorem rright5_any (name value : List UInt8) (n : Int) (w : World) (hn : name.length ≤ 1000) (hv : value.length ≤ 1000) :
    Calls Tryd.prog 13 #[.agg #[.int .i64 5, .string ⟨name.toArray⟩, .string ⟨value.toArray⟩, .int .i64 n]] w fun e w' => e = .returned (.bool (tokB name && tokB value && !ownB value && decide (n = 0))) ∧ Gr w w' := by
  obtain ⟨b1, hb1⟩ : ∃ b, tokB name = b := ⟨_, rfl⟩
  obtain ⟨b2, hb2⟩ : ∃ b, tokB value = b := ⟨_, rfl⟩
  obtain ⟨b3, hb3⟩ : ∃ b, ownB value = b := ⟨_, rfl⟩
  rw [hb1, hb2, hb3]
  have h1 := Lib.hid hb1
  have h2 := Lib.hid hb2
  have h3 := Lib.hid hb3
  clear hb1 hb2 hb3
  cases b1
  · go_enter Tryd.func13, Tryd.ntmps13
    go_wp2_with fail
    refine (rtok13_is name _ h1.out _ (by omega)).mono ?_
    rintro e w1 ⟨rfl, rfl⟩
    go_wp2
    go_ret
    exact ⟨rfl, Gr.alloc _ _⟩
  · cases b2
    · go_enter Tryd.func13, Tryd.ntmps13
      go_wp2_with fail
      refine (rtok13_is name _ h1.out _ (by omega)).mono ?_
      rintro e w1 ⟨rfl, rfl⟩
      go_wp2_with fail
      refine (rtok13_is value _ h2.out _ (by omega)).mono ?_
      rintro e w1 ⟨rfl, rfl⟩
      go_wp2
      go_ret
      exact ⟨rfl, Gr.alloc _ _⟩
    · cases b3
      all_goals
        go_enter Tryd.func13, Tryd.ntmps13
        go_wp2_with fail
        refine (rtok13_is name _ h1.out _ (by omega)).mono ?_
        rintro e w1 ⟨rfl, rfl⟩
        go_wp2_with fail
        refine (rtok13_is value _ h2.out _ (by omega)).mono ?_
        rintro e w1 ⟨rfl, rfl⟩
        go_wp2_with fail
        refine (rown_is value _ h3.out _ (by omega)).mono ?_
        rintro e w2 ⟨rfl, hb⟩
        have d3 : w2.cell? ⟨w.heap.size, 3, none⟩ = some (.int .i64 n) := hb.cell (by simp [go_sem])
        have hg2 := Lib.hid ((Gr.alloc _ _).trans hb)
        clear hb
        go_wp2
        go_ret
        exact ⟨ret_bool (by first | rfl | (rw [int_beq]; rfl)), hg2.out⟩

set_option maxHeartbeats 1000000 in
theorem rright0_any (k : Int) (name value : List UInt8) (n : Int) (w : World) (h1 : (k == 1) = false) (h2 : (k == 2) = false) (h3 : (k == 3) = false) (h4 : (k == 4) = false) (h5 : (k == 5) = false) :
    Calls Tryd.prog 13 #[.agg #[.int .i64 k, .string ⟨name.toArray⟩, .string ⟨value.toArray⟩, .int .i64 n]] w fun e w' => e = .returned (.bool false) ∧ Gr w w' := by
  go_enter Tryd.func13, Tryd.ntmps13
  go_wp2
  go_ret
  exact ⟨rfl, Gr.alloc _ _⟩

/-- The reference's Right, of any step. -/
theorem rright_any (s : Stp) (w : World) (hn : s.name.length ≤ 1000) (hv : s.value.length ≤ 1000) :
    Calls Tryd.prog 13 #[s.V] w fun e w' => e = .returned (.bool (rightB s)) ∧ Gr w w' := by
  obtain ⟨k, name, value, n⟩ := s
  unfold Stp.V rightB
  dsimp only at hn hv ⊢
  by_cases h1 : k = 1
  · subst h1; exact rright1_any name value n w hn hv
  by_cases h2 : k = 2
  · subst h2; exact rright2_any name value n w hn
  by_cases h3 : k = 3
  · subst h3; exact rright3_any name value n w
  by_cases h4 : k = 4
  · subst h4; exact rright4_any name value n w hv
  by_cases h5 : k = 5
  · subst h5; exact rright5_any name value n w hn hv
  rw [if_neg h1, if_neg h2, if_neg h3, if_neg h4, if_neg h5]
  exact rright0_any k name value n w (beq_eq_false_iff_ne.2 h1) (beq_eq_false_iff_ne.2 h2) (beq_eq_false_iff_ne.2 h3) (beq_eq_false_iff_ne.2 h4) (beq_eq_false_iff_ne.2 h5)
end Go.Proofs.YtolpphmgobeocaaDoor
