/-
  Requests: the walk over RequestStops.
-/
import Derived.Test.YtpncfeaaffgkfaaGreatDoorYr
import Derived.Deep.LoopGhost
namespace Go.Proofs.YtpncfeaaffgkfaaGreatDoor
open Go.RowKit
attribute [local go_sem] Oper.semAt_some

def firQ : List UInt8 := [71, 69, 84, 32, 47, 102, 105, 114, 115, 116, 32, 72, 84, 84, 80, 47, 49, 46, 48, 13, 10, 13, 10]
def firR : Rq := ⟨[71, 69, 84], [47, 102, 105, 114, 115, 116], [], 10, [], [], true⟩
theorem fir_one : oneQ firQ = .got firR 23 := by rw [← oneS_eq]; kernel_rfl
theorem fir_next (s : List UInt8) : nextQ { ps0 with inp := firQ ++ s } = ({ ps0 with inp := s }, some firR) := by
  have h := one_app firQ s
  rw [fir_one] at h
  have h2 := stands_got (p := { ps0 with inp := firQ ++ s }) (.fresh rfl) h.1
  rw [h2]
  rfl
/-- Where the loop stands: it has the last answer. -/
def StopRel (w : World) (B : Nat) (c : Nat) (k : Nat) (o : Value) (W : World) : Prop :=
  ∃ (b : Bool) (T : Nat → Prop) (p : Ps), o = .bool b ∧ PsL w B T p W ∧ p.inp.length + p.und.length ≤ 90000 ∧
    ((b = true ∧ ∃ s l t, Stands p s ∧ p.bad = 0 ∧ Alls s l c t ∧ l.length + 1 ≤ k) ∨ (b = false ∧ p.bad = c))
theorem alls_step {p : Ps} {s : List UInt8} {l : List Rq} {c : Nat} {t : List UInt8} (hs : Stands p s) (hA : Alls s l c t) :
    (∃ p' r s' l', nextQ p = (p', some r) ∧ Stands p' s' ∧ p'.bad = 0 ∧ Alls s' l' c t ∧ l'.length + 1 = l.length) ∨ (∃ p', nextQ p = (p', none) ∧ p'.bad = c) := by
  cases hA with
  | more h =>
    obtain ⟨p', h1, h2, _⟩ := stands_more hs h
    exact .inr ⟨p', h1, h2⟩
  | bad h =>
    obtain ⟨p', h1, h2, _⟩ := stands_bad hs h
    exact .inr ⟨p', h1, h2⟩
  | got h k => exact .inl ⟨_, _, _, _, stands_got hs h, .fresh rfl, rfl, k, rfl⟩
set_option maxHeartbeats 16000000 in
set_option maxRecDepth 100000 in
theorem qstops_any (s t : List UInt8) (w : World) (hG : G w) :
    Calls Tryz.prog 6 #[.string ⟨s.toArray⟩, .string ⟨t.toArray⟩] w fun e w' => e = .returned (.bool true) ∧ Gr w w' := by
  have hG' := Lib.hid hG
  clear hG
  go_enter Tryz.func6, Tryz.ntmps6
  go_wp2_with fail
  refine (awake9_any w hG'.out).mono ?_
  rintro e w1 ⟨rfl, hb⟩
  have g1 := Lib.hid hb
  clear hb
  by_cases hls : s.length ≤ 5000
  · have hlsI : ¬ (5000 : Int) < s.length := by omega
    by_cases hlt : t.length ≤ 5000
    · have hltI : ¬ (5000 : Int) < t.length := by omega
      obtain ⟨x, hx⟩ : ∃ x, firQ ++ s = x := ⟨_, rfl⟩
      have hcat : (⟨#[71, 69, 84, 32, 47, 102, 105, 114, 115, 116, 32, 72, 84, 84, 80, 47, 49, 46, 48, 13, 10, 13, 10]⟩ : ByteArray) ++ ⟨s.toArray⟩ = ⟨x.toArray⟩ := by rw [← hx]; exact cat_mk firQ s
      have hcl : ¬ 9223372036854775807 < 23 + s.length := by omega
      have hxl : x.length = 23 + s.length := by rw [← hx]; exact List.length_append
      have hn1 := Lib.hid (fir_next s)
      rw [hx] at hn1
      have hsl := Lib.hid hls
      have htl := Lib.hid hlt
      have hxl' := Lib.hid hxl
      clear hx hxl hls hlt
      go_wp2_with fail
      refine (PsL.new (w := w) (hG'.out.gr g1.out) g1.out).mono ?_
      rintro e w2 ⟨rfl, h2, hg2⟩
      have h2' := Lib.hid h2
      clear h2 hg2 g1
      obtain ⟨B, hB⟩ : ∃ x, w1.heap.size = x := ⟨_, rfl⟩
      rw [hB] at h2' ⊢
      clear hB
      go_wp2_with fail
      refine (h2'.out.feed x (by have := hxl'.out; have := hsl.out; show 0 + x.length ≤ _; omega)).mono ?_
      rintro e w3 ⟨rfl, T3, h3, _, _⟩
      rw [feed0] at h3
      have h3' := Lib.hid h3
      clear h3 h2' hcat hcl
      go_wp2_with fail
      refine (h3'.out.next (h3'.out.G hG'.out) _ _ hn1.out (by have := hxl'.out; have := hsl.out; show x.length + 0 ≤ _; omega)).mono ?_
      rintro e w4 ⟨rv, T4, rfl, hF, _, _, h4, _, _⟩
      obtain ⟨pf, capf, rfl, _⟩ := hF
      rw [show (rqO (some firR)).V (.slice pf (rqO (some firR)).fs.length capf) = .agg #[.string ⟨#[71, 69, 84]⟩, .string ⟨#[47, 102, 105, 114, 115, 116]⟩, .string ⟨#[]⟩, .int .i64 10, .slice pf 0 capf, .string ⟨#[]⟩, .bool true] from rfl, show (some firR).isSome = true from rfl]
      have y1 := cell_new7 w4 [.string ⟨#[71, 69, 84]⟩, .string ⟨#[47, 102, 105, 114, 115, 116]⟩, .string ⟨#[]⟩, .int .i64 10, .slice pf 0 capf, .string ⟨#[]⟩, .bool true] 27 1 _ rfl
      have h5' := Lib.hid (h4.gr (Gr.alloc w4 (.cells #[.string ⟨#[71, 69, 84]⟩, .string ⟨#[47, 102, 105, 114, 115, 116]⟩, .string ⟨#[]⟩, .int .i64 10, .slice pf 0 capf, .string ⟨#[]⟩, .bool true] 27)))
      clear h4 h3' hn1 hxl'
      go_upto_region 8 with (fail)
      obtain ⟨R, hRe⟩ : ∃ x, w4.heap.size = x := ⟨_, rfl⟩
      rw [hRe] at y1 ⊢
      generalize (w4.alloc (.cells #[.string ⟨#[71, 69, 84]⟩, .string ⟨#[47, 102, 105, 114, 115, 116]⟩, .string ⟨#[]⟩, .int .i64 10, .slice pf 0 capf, .string ⟨#[]⟩, .bool true] 27)) = w5 at y1 h5' ⊢
      clear hRe
      obtain ⟨l, c, t0, hA⟩ := alls_total s.length s (Nat.le_refl _)
      have hcode := Lib.hid (alls_bad hA).1
      have hst := Lib.hid (show StopRel w B c (l.length + 1) (.bool true) w5 from ⟨true, T4, _, rfl, h5'.out, (by have := hsl.out; show s.length + 0 ≤ _; omega), .inl ⟨rfl, s, l, t0, .fresh rfl, rfl, hA, Nat.le_refl _⟩⟩)
      clear hA
      go_wp2_with fail
      refine (h5'.out.bad 0 rfl).mono ?_
      rintro e w6 ⟨rfl, rfl⟩
      clear y1
      go_wp2_with fail
      go_loopg [7] (l.length + 1) (fun k o wr => StopRel w B c k o wr)
      case atStart => exact hst.out
      case round =>
        obtain ⟨b, T6, p6, rfl, h6, hl6, hor⟩ := hrel
        have h6' := Lib.hid h6
        have hl6' := Lib.hid hl6
        have hor' := Lib.hid hor
        clear h6 hl6 hor hst h5'
        cases b with
        | true =>
          rcases hor'.out with ⟨_, s6, l6, t6, hs6, hb6, hA6, hk6⟩ | ⟨h, _⟩
          · clear hor'
            rcases alls_step hs6 hA6 with ⟨p7, r, s7, l7, hn, hs7, hb7, hA7, hl7⟩ | ⟨p7, hn, hb7⟩
            · have hn' := Lib.hid hn
              have hsum := nextQ_sum p6
              rw [hn] at hsum
              dsimp only at hsum
              have hsum' := Lib.hid hsum
              have hfin := Lib.hid (fun T W (h : PsL w B T p7 W) => (show StopRel w B c l6.length (.bool true) W from ⟨true, T, p7, rfl, h, (by have := hl6'.out; have := hsum'.out; omega), .inl ⟨rfl, s7, l7, t6, hs7, hb7, hA7, by omega⟩⟩))
              have hk6' := Lib.hid hk6
              clear hs6 hb6 hA6 hs7 hb7 hA7 hl7 hn hsum hk6
              go_wp2_with fail
              refine (h6'.out.next (h6'.out.G hG'.out) _ _ hn'.out hl6'.out).mono ?_
              rintro e w7 ⟨rv, T7, rfl, hF, _, _, h7, _, _⟩
              obtain ⟨pf, capf, rfl, _⟩ := hF
              rw [show (some r).isSome = true from rfl]
              have hrel7 := Lib.hid (hfin.out T7 w7 h7)
              obtain ⟨rv, hrv⟩ : ∃ x, (rqO (some r)).V (.slice pf (rqO (some r)).fs.length capf) = x := ⟨_, rfl⟩
              rw [hrv]
              clear h7 hrv hfin hn' hsum'
              go_wp2_with fail
              go_roundg l6.length
              case measure => have := hk6'.out; omega
              case rel => exact hrel7.out
            · have hn' := Lib.hid hn
              have hsum := nextQ_sum p6
              rw [hn] at hsum
              dsimp only at hsum
              have hsum' := Lib.hid hsum
              have hfin := Lib.hid (fun T W (h : PsL w B T p7 W) => (show StopRel w B c 0 (.bool false) W from ⟨false, T, p7, rfl, h, (by have := hl6'.out; have := hsum'.out; omega), .inr ⟨rfl, hb7⟩⟩))
              have hk6' := Lib.hid hk6
              clear hs6 hb6 hA6 hb7 hn hsum hk6
              go_wp2_with fail
              refine (h6'.out.next (h6'.out.G hG'.out) _ _ hn'.out hl6'.out).mono ?_
              rintro e w7 ⟨rv, T7, rfl, hF, _, _, h7, _, _⟩
              obtain ⟨pf, capf, rfl, _⟩ := hF
              rw [show (none : Option Rq).isSome = false from rfl]
              have hrel7 := Lib.hid (hfin.out T7 w7 h7)
              obtain ⟨rv, hrv⟩ : ∃ x, (rqO none).V (.slice pf (rqO none).fs.length capf) = x := ⟨_, rfl⟩
              rw [hrv]
              clear h7 hrv hfin hn' hsum'
              go_wp2_with fail
              go_roundg 0
              case measure => have := hk6'.out; omega
              case rel => exact hrel7.out
          · cases h
        | false =>
          rcases hor'.out with ⟨h, _⟩ | ⟨_, hb6⟩
          · cases h
          · have hb6' := Lib.hid hb6
            clear hor' hb6
            go_wp2_with fail
            refine (h6'.out.bad c hb6'.out).mono ?_
            rintro e w7 ⟨rfl, rfl⟩
            by_cases h0 : c = 0
            · subst h0
              have hg := Lib.hid h6'.out.g
              go_wp2
              go_ret
              exact ⟨rfl, hg.out⟩
            · have hcI : ((c : Int) == 0) = false := by rw [beq_eq_false_iff_ne]; omega
              have hbp : p6.bad ≠ 0 := by rw [hb6'.out]; exact h0
              have hi6 := Lib.hid (bad_idle hbp)
              have hr6 := Lib.hid (bad_rest hbp)
              have hf6 := Lib.hid (bad_feed hbp t)
              have hn6 := Lib.hid (bad_next hbp)
              clear hbp
              go_wp2_with fail
              refine (h6'.out.feed t (by have := hl6'.out; have := htl.out; omega)).mono ?_
              rintro e w8 ⟨rfl, T8, h8, _, _⟩
              rw [hf6.out] at h8
              have h8' := Lib.hid h8
              clear h8 h6' hf6
              go_wp2_with fail
              refine (h8'.out.next (h8'.out.G hG'.out) _ _ hn6.out hl6'.out).mono ?_
              rintro e w9 ⟨rv, T9, rfl, hF, _, _, h9, _, _⟩
              obtain ⟨pf, capf, rfl, _⟩ := hF
              rw [show (rqO none).V (.slice pf (rqO none).fs.length capf) = .agg #[.string ⟨#[]⟩, .string ⟨#[]⟩, .string ⟨#[]⟩, .int .i64 0, .slice pf 0 capf, .string ⟨#[]⟩, .bool false] from rfl, show (none : Option Rq).isSome = false from rfl]
              have h10' := Lib.hid (h9.gr (Gr.alloc w9 (.cells #[.string ⟨#[]⟩, .string ⟨#[]⟩, .string ⟨#[]⟩, .int .i64 0, .slice pf 0 capf, .string ⟨#[]⟩, .bool false] 27)))
              clear h9 h8' hn6
              rcases hcode.out with e | e | e | e
              · exact absurd e h0
              all_goals
                subst e
                go_wp2_with fail
                refine (h10'.out.bad _ hb6'.out).mono ?_
                rintro e w11 ⟨rfl, rfl⟩
                go_wp2_with fail
                refine (h10'.out.rest [] p6 hr6.out hl6'.out).mono ?_
                rintro e w12 ⟨rfl, T12, h12, _, _⟩
                have h12' := Lib.hid h12
                clear h12 h10'
                go_wp2_with fail
                refine (h12'.out.idle _ hi6.out).mono ?_
                rintro e w13 ⟨rfl, rfl⟩
                have hg := Lib.hid h12'.out.g
                clear h12'
                go_wp2
                go_ret
                exact ⟨rfl, hg.out⟩
    · have hltI : (5000 : Int) < t.length := by omega
      go_wp2
      go_ret
      exact ⟨rfl, g1.out⟩
  · have hlsI : (5000 : Int) < s.length := by omega
    go_wp2
    go_ret
    exact ⟨rfl, g1.out⟩
end Go.Proofs.YtpncfeaaffgkfaaGreatDoor
