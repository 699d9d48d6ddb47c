/-
  The walk over ChunkBack.
-/
import Derived.Test.YtnopfoagioodjaaDoorKl
import Derived.Test.YtnopfoagioodjaaDoorKw
import Derived.Test.YtnopfoagioodjaaDoorE
import Derived.Test.YtnopfoagioodjaaDoorP15
namespace Go.Proofs.YtnopfoagioodjaaDoor
open Go.RowKit
attribute [local go_sem] Oper.semAt_some

/-- Pieces: how many bytes of the text have been put into chunks. -/
def BackRel (s body fed rest : List UInt8) (k : Nat) : Prop := s = fed ++ rest ∧ k ≤ fed.length ∧ body.length ≤ 21 * fed.length ∧ Leads ck0 body (atHead fed)
theorem BackRel.next {s body fed rest : List UInt8} {k n : Nat} (g : Bool) (h : BackRel s body fed rest k) (hn : 1 ≤ n) (hr : n ≤ rest.length) (hs : s.length ≤ 4096) :
    BackRel s (body ++ headL g n ++ [13, 10] ++ rest.take n ++ [13, 10]) (fed ++ rest.take n) (rest.drop n) (k + 1) := by
  obtain ⟨h1, h2, h3, h4⟩ := h
  have hl : s.length = fed.length + rest.length := by rw [h1]; simp
  have ht : (rest.take n).length = n := by rw [List.length_take]; omega
  refine ⟨by rw [h1]; simp, by simp; omega, ?_, ?_⟩
  · have := (headL_ok g hn (by omega)).2.2
    simp only [List.length_append, List.length_cons, List.length_nil, ht]; omega
  · have := leads_round g h4 (x := rest.take n) (by omega) (by omega)
    rwa [ht] at this

set_option maxHeartbeats 8000000 in
set_option maxRecDepth 20000 in
theorem back_any (s cs : List UInt8) (cv : Value) (g : Bool) (t : List UInt8) (w : World) (hG : G w) (hT : Tz w) (hc : CutsAt w cv cs) (hs : s.length ≤ 9223372036854775807) (hcl : cs.length ≤ 9223372036854775807) (ht : t.length ≤ 9223372036854775807) :
    Calls Tryd.prog 7 #[.string ⟨s.toArray⟩, cv, .bool g, .string ⟨t.toArray⟩] w fun e w' => e = .returned (.bool true) ∧ Gr w w' := by
  have hG' := Lib.hid hG
  have hT' := Lib.hid hT
  have hc' := Lib.hid hc
  obtain ⟨p, cap, hcv, hcc⟩ := hc
  subst hcv
  have haw := Lib.hid (awake_any w hG)
  clear hG hT hcc
  by_cases hsm : s.length ≤ 4096 ∧ cs.length ≤ 300 ∧ t.length ≤ 300
  · obtain ⟨m1, m2, m3⟩ := hsm
    have i1 : (s.length : Int) ≤ 4096 := by omega
    have i2 : (cs.length : Int) ≤ 300 := by omega
    have i3 : (t.length : Int) ≤ 300 := by omega
    go_enter Tryd.func7, Tryd.ntmps7
    go_wp2_with fail
    refine haw.out.mono ?_
    rintro e w1 ⟨rfl, hg⟩
    have g1 := Lib.hid hg
    clear hg
    go_wp2
    go_loopw [9, 10, 11] (fun b r i wx => ∃ (body fed rest : List UInt8) (k : Nat), b = .string ⟨body.toArray⟩ ∧ r = .string ⟨rest.toArray⟩ ∧ i = .int .i64 k ∧ Gr w wx ∧ BackRel s body fed rest k) (fun _ r _ _ => lenOf r)
    case atStart => exact ⟨[], [], s, 0, rfl, rfl, rfl, g1.out, rfl, Nat.le_refl _, Nat.le_refl _, rfl⟩
    case round =>
      obtain ⟨body, fed, rest, k, rfl, rfl, rfl, hg, hrl⟩ := hrel
      have hg' := Lib.hid hg
      have hrl' := Lib.hid hrl
      have hsum : s.length = fed.length + rest.length := by rw [hrl.1]; simp
      have hkf : k ≤ fed.length := hrl.2.1
      have hbl : body.length ≤ 21 * fed.length := hrl.2.2.1
      clear hg hrl
      by_cases hr0 : 0 < rest.length
      · have hr0I : (0 : Int) < rest.length := by omega
        obtain ⟨n, hn1, hn2, hcase⟩ : ∃ n, 1 ≤ n ∧ n ≤ rest.length ∧ ((∃ gg off c, k < cs.length ∧ p = some ⟨gg, off, none⟩ ∧ wr.cell? ⟨gg, off + k, none⟩ = some (.int .u8 (c : Nat)) ∧ c ≤ 255 ∧ min rest.length (1 + c) = n) ∨ (cs.length ≤ k ∧ n = rest.length)) := by
          by_cases h : k < cs.length
          · obtain ⟨p2, cap2, e, hcell⟩ := hc'.out.gr hg'.out
            obtain ⟨gg, off, hp, hx⟩ := hcell k h
            injection e with e1 e2 e3
            exact ⟨min rest.length (1 + cs[k].toNat), by omega, by omega, .inl ⟨gg, off, _, h, e1.trans hp, hx, by have := UInt8.toNat_lt cs[k]; omega, rfl⟩⟩
          · exact ⟨rest.length, by omega, Nat.le_refl _, .inr ⟨by omega, rfl⟩⟩
        have hnext := Lib.hid (hrl'.out.next g hn1 hn2 m1)
        have hfmt := Lib.hid (fun W h => fmt_any n hn1 (by omega) W h)
        have hn4I : (n : Int) ≤ 4096 := by omega
        have hnrI : (n : Int) ≤ rest.length := by omega
        have hl4 := (headL_ok g hn1 (by omega)).2.2
        have hxf : (hexF n).length ≤ 16 := (headL_ok false hn1 (by omega)).2.2
        have hx1 : (⟨rest.toArray⟩ : ByteArray).extract 0 n = ⟨(rest.take n).toArray⟩ := by rw [extract_mk]; simp
        have hx2 : (⟨rest.toArray⟩ : ByteArray).extract n rest.length = ⟨(rest.drop n).toArray⟩ := by rw [extract_mk]; simp
        have htl : (rest.take n).length = n := by rw [List.length_take]; omega
        have hdl : (rest.drop n).length < rest.length := by rw [List.length_drop]; omega
        obtain ⟨ra, hra⟩ : ∃ a, rest.take n = a := ⟨_, rfl⟩
        obtain ⟨rb, hrb⟩ : ∃ a, rest.drop n = a := ⟨_, rfl⟩
        rw [hra] at hx1 hnext htl
        rw [hrb] at hx2 hnext hdl
        obtain ⟨hx, hhx⟩ : ∃ a, hexF n = a := ⟨_, rfl⟩
        rw [hhx] at hfmt hxf
        obtain ⟨hd, hhd⟩ : ∃ a, headL g n = a := ⟨_, rfl⟩
        rw [hhd] at hnext hl4
        obtain ⟨y1, hy1⟩ : ∃ a, body ++ hd = a := ⟨_, rfl⟩
        obtain ⟨y2, hy2⟩ : ∃ a, y1 ++ [13, 10] = a := ⟨_, rfl⟩
        obtain ⟨y3, hy3⟩ : ∃ a, y2 ++ ra = a := ⟨_, rfl⟩
        obtain ⟨y4, hy4⟩ : ∃ a, y3 ++ [13, 10] = a := ⟨_, rfl⟩
        have c1 : (⟨body.toArray⟩ : ByteArray) ++ ⟨hd.toArray⟩ = ⟨y1.toArray⟩ := by rw [← hy1]; exact cat_mk body hd
        have c2 : (⟨y1.toArray⟩ : ByteArray) ++ ⟨#[13, 10]⟩ = ⟨y2.toArray⟩ := by rw [← hy2]; exact cat_mk y1 [13, 10]
        have c3 : (⟨y2.toArray⟩ : ByteArray) ++ ⟨ra.toArray⟩ = ⟨y3.toArray⟩ := by rw [← hy3]; exact cat_mk y2 ra
        have c4 : (⟨y3.toArray⟩ : ByteArray) ++ ⟨#[13, 10]⟩ = ⟨y4.toArray⟩ := by rw [← hy4]; exact cat_mk y3 [13, 10]
        have l1 : y1.length ≤ 90000 := by rw [← hy1, List.length_append]; omega
        have l2 : y2.length ≤ 90002 := by rw [← hy2, List.length_append]; simp; omega
        have l3 : y3.length ≤ 98002 := by rw [← hy3, List.length_append]; omega
        have z1 : ¬ 9223372036854775807 < body.length + hd.length := by omega
        have z2 : ¬ 9223372036854775807 < y1.length + 2 := by omega
        have z3 : ¬ 9223372036854775807 < y2.length + ra.length := by omega
        have z4 : ¬ 9223372036854775807 < y3.length + 2 := by omega
        rw [hy1, hy2, hy3, hy4] at hnext
        have hdl' := Lib.hid hdl
        have hrb0 := Lib.hid (show n = rest.length → rb = [] from fun e => by rw [← hrb, e]; simp)
        have hT2 := Lib.hid (hT'.out.gr hg'.out)
        have hkI : (k : Int) ≤ 4096 := by omega
        have hhx2 := Lib.hid hhx
        have hhd2 := Lib.hid hhd
        clear hhd hra hrb hhx hy1 hy2 hy3 hy4 hsum hkf hbl htl hdl hl4 l1 l2 l3
        rcases hcase with ⟨gg, off, c, hkc, rfl, hcell, hc255, hmin⟩ | ⟨hkc, hnr⟩
        · have hkcI : (k : Int) < cs.length := by omega
          have hc255I : (c : Int) ≤ 255 := by omega
          have hminI : min (rest.length : Int) (1 + c) = n := by omega
          clear hmin hc'
          cases g with
          | false =>
            obtain rfl : hx = hd := hhx2.out.symm.trans hhd2.out
            go_wp2_with fail
            refine (hfmt.out _ hT2.out).mono ?_
            rintro e w2 ⟨rfl, hg⟩
            have hg2 := Lib.hid (hg'.out.trans hg)
            clear hg
            go_wp2
            go_round
            case rel => exact ⟨y4, _, rb, k + 1, rfl, rfl, by go_num, hg2.out, hnext.out⟩
            case measure => (show (⟨rb.toArray⟩ : ByteArray).size < (⟨rest.toArray⟩ : ByteArray).size); rw [size_mk, size_mk]; exact hdl'.out
          | true =>
            have hhd3 : 48 :: hx ++ tailL = hd := by rw [← hhx2.out]; exact hhd2.out
            obtain ⟨hx0, hhx0⟩ : ∃ a, 48 :: hx = a := ⟨_, rfl⟩
            have c5 : (⟨#[48]⟩ : ByteArray) ++ ⟨hx.toArray⟩ = ⟨hx0.toArray⟩ := by rw [← hhx0]; exact cat_mk [48] hx
            have c6 : (⟨hx0.toArray⟩ : ByteArray) ++ ⟨#[59, 110, 97, 109, 101, 61, 118, 97, 108, 117, 101]⟩ = ⟨hd.toArray⟩ := by rw [← hhd3, ← hhx0]; exact cat_mk (48 :: hx) tailL
            have l5 : hx0.length ≤ 17 := by rw [← hhx0]; simp; omega
            have z5 : ¬ 9223372036854775807 < 1 + hx.length := by omega
            have z6 : ¬ 9223372036854775807 < hx0.length + 11 := by omega
            clear hhd3 hhx0
            go_wp2_with fail
            refine (hfmt.out _ hT2.out).mono ?_
            rintro e w2 ⟨rfl, hg⟩
            have hg2 := Lib.hid (hg'.out.trans hg)
            clear hg
            go_wp2
            go_round
            case rel => exact ⟨y4, _, rb, k + 1, rfl, rfl, by go_num, hg2.out, hnext.out⟩
            case measure => (show (⟨rb.toArray⟩ : ByteArray).size < (⟨rest.toArray⟩ : ByteArray).size); rw [size_mk, size_mk]; exact hdl'.out
        · subst hnr
          have hkcI : ¬ (k : Int) < cs.length := by omega
          obtain rfl := hrb0.out rfl
          clear hc'
          cases g with
          | false =>
            obtain rfl : hx = hd := hhx2.out.symm.trans hhd2.out
            go_wp2_with fail
            refine (hfmt.out _ hT2.out).mono ?_
            rintro e w2 ⟨rfl, hg⟩
            have hg2 := Lib.hid (hg'.out.trans hg)
            clear hg
            go_wp2
            go_round
            case rel => exact ⟨y4, _, [], k + 1, rfl, rfl, by go_num, hg2.out, hnext.out⟩
            case measure => (show 0 < (⟨rest.toArray⟩ : ByteArray).size); rw [size_mk]; exact hr0
          | true =>
            have hhd3 : 48 :: hx ++ tailL = hd := by rw [← hhx2.out]; exact hhd2.out
            obtain ⟨hx0, hhx0⟩ : ∃ a, 48 :: hx = a := ⟨_, rfl⟩
            have c5 : (⟨#[48]⟩ : ByteArray) ++ ⟨hx.toArray⟩ = ⟨hx0.toArray⟩ := by rw [← hhx0]; exact cat_mk [48] hx
            have c6 : (⟨hx0.toArray⟩ : ByteArray) ++ ⟨#[59, 110, 97, 109, 101, 61, 118, 97, 108, 117, 101]⟩ = ⟨hd.toArray⟩ := by rw [← hhd3, ← hhx0]; exact cat_mk (48 :: hx) tailL
            have l5 : hx0.length ≤ 17 := by rw [← hhx0]; simp; omega
            have z5 : ¬ 9223372036854775807 < 1 + hx.length := by omega
            have z6 : ¬ 9223372036854775807 < hx0.length + 11 := by omega
            clear hhd3 hhx0
            go_wp2_with fail
            refine (hfmt.out _ hT2.out).mono ?_
            rintro e w2 ⟨rfl, hg⟩
            have hg2 := Lib.hid (hg'.out.trans hg)
            clear hg
            go_wp2
            go_round
            case rel => exact ⟨y4, _, [], k + 1, rfl, rfl, by go_num, hg2.out, hnext.out⟩
            case measure => (show 0 < (⟨rest.toArray⟩ : ByteArray).size); rw [size_mk]; exact hr0
      · have hr0I : ¬ (0 : Int) < rest.length := by omega
        obtain rfl : rest = [] := List.eq_nil_of_length_eq_zero (by omega)
        obtain rfl : s = fed := by have := hrl'.out.1; simpa using this
        obtain ⟨B2, hB2⟩ : ∃ a, body ++ [48, 13, 10] = a := ⟨_, rfl⟩
        have L2 : Leads ck0 B2 (atTail s 0 0) := by rw [← hB2]; exact hrl'.out.2.2.2.trans (leads_zero m1)
        have c2 : (⟨body.toArray⟩ : ByteArray) ++ ⟨#[48, 13, 10]⟩ = ⟨B2.toArray⟩ := by rw [← hB2]; exact cat_mk body [48, 13, 10]
        have z2 : ¬ 9223372036854775807 < body.length + 3 := by omega
        have b2 : B2.length ≤ 90000 := by rw [← hB2, List.length_append]; simp; omega
        obtain ⟨B3, hB3⟩ : ∃ a, (if g then B2 ++ (sumL ++ [13, 10]) else B2) = a := ⟨_, rfl⟩
        obtain ⟨nf, tl, htl, L3⟩ : ∃ nf tl, tl ≤ 2000 ∧ Leads ck0 B3 (atTail s nf tl) := by
          rw [← hB3]
          cases g
          · exact ⟨0, 0, by omega, L2⟩
          · exact ⟨1, 11, by omega, L2.trans leads_sum⟩
        have b3 : B3.length ≤ 90020 := by rw [← hB3]; cases g <;> simp [sumL] <;> omega
        have c3 : g = true → (⟨B2.toArray⟩ : ByteArray) ++ ⟨#[83, 117, 109, 58, 32, 110, 111, 110, 101, 13, 10]⟩ = ⟨B3.toArray⟩ := fun e => by rw [← hB3, e]; exact cat_mk B2 (sumL ++ [13, 10])
        have z3 : ¬ 9223372036854775807 < B2.length + 11 := by omega
        obtain ⟨B4, hB4⟩ : ∃ a, B3 ++ [13, 10] = a := ⟨_, rfl⟩
        obtain ⟨B5, hB5⟩ : ∃ a, B4 ++ t = a := ⟨_, rfl⟩
        have c4 : (⟨B3.toArray⟩ : ByteArray) ++ ⟨#[13, 10]⟩ = ⟨B4.toArray⟩ := by rw [← hB4]; exact cat_mk B3 [13, 10]
        have c5 : (⟨B4.toArray⟩ : ByteArray) ++ ⟨t.toArray⟩ = ⟨B5.toArray⟩ := by rw [← hB5]; exact cat_mk B4 t
        have b4 : B4.length ≤ 90022 := by rw [← hB4, List.length_append]; simp; omega
        have b5 : B5.length ≤ 90400 := by rw [← hB5, List.length_append]; omega
        have z4 : ¬ 9223372036854775807 < B3.length + 2 := by omega
        have z5 : ¬ 9223372036854775807 < B4.length + t.length := by omega
        obtain ⟨dn, hdn⟩ : ∃ r : Ck, { atTail s nf (tl + 2) with st := 4 } = r := ⟨_, rfl⟩
        obtain ⟨tn, htn⟩ : ∃ r : Ck, atTail s nf tl = r := ⟨_, rfl⟩
        obtain ⟨N, hN⟩ : ∃ n, B3.length + 2 = n := ⟨_, rfl⟩
        have hNI : (B3.length : Int) + 2 = N := by omega
        have f1 := Lib.hid (show feedC ck0 B5 = (N, dn) by rw [← hB5, ← hB4, ← hdn, ← hN]; exact feed_done L3 htl t)
        have f2 := Lib.hid (show feedC ck0 B3 = (B3.length, tn) by rw [← htn]; exact L3)
        have d1 := Lib.hid (show dn.data = s by rw [← hdn]; rfl)
        have d2 := Lib.hid (show decide (dn.st = 4 ∧ dn.bad = 0) = true by rw [← hdn]; rfl)
        have d3 := Lib.hid (show dn.bad = 0 by rw [← hdn]; rfl)
        have t1 := Lib.hid (show tn.data = s by rw [← htn]; rfl)
        have t2 := Lib.hid (show decide (tn.st = 4 ∧ tn.bad = 0) = false by rw [← htn]; rfl)
        have t3 := Lib.hid (show tn.bad = 0 by rw [← htn]; rfl)
        have b5' := Lib.hid (show B5.length ≤ 1000000 by omega)
        have b3' := Lib.hid (show B3.length ≤ 1000000 by omega)
        have e3 := Lib.hid (show g = false → B2 = B3 from fun e => by rw [← hB3, e]; rfl)
        have hb3I : (B3.length : Int) ≤ 90020 := by omega
        clear hB2 hB3 hB4 hB5 hN hdn htn htl L2 L3 hsum hbl hkf
        cases g with
        | false =>
          obtain rfl := e3.out rfl
          clear c3
          go_wp2_with fail
          refine (new_any _).mono ?_
          rintro e w2 ⟨rfl, hR, hg⟩
          have hR2 := Lib.hid hR
          have g2 := Lib.hid (hg'.out.trans hg)
          have hb2 := Lib.hid (show w.heap.size ≤ wr.heap.size from hg'.out.size)
          clear hR hg
          go_wp2_with fail
          refine (cfeed_is wr.heap.size ck0 dn B5 N f1.out _ _ w2 (hG'.out.gr g2.out) (by have := hG'.out.lt; have := hb2.out; omega) hR2.out ck0_ok b5'.out).mono ?_
          rintro e w3 ⟨rfl, hp⟩
          have g3 := Lib.hid (hp.made hR2.out hb2.out g2.out)
          obtain ⟨lv, dv, hR, _, _⟩ := hp
          have hR3 := Lib.hid hR
          clear hR
          go_wp2_with fail
          refine (data_is _ dn _ d1.out _ _ w3 hR3.out).mono ?_
          rintro e w4 ⟨rfl, rfl⟩
          go_wp2_with fail
          refine (done_is _ dn _ d2.out _ _ w3 hR3.out).mono ?_
          rintro e w4 ⟨rfl, rfl⟩
          go_wp2_with fail
          refine (bad_is _ dn _ d3.out _ _ w3 hR3.out).mono ?_
          rintro e w4 ⟨rfl, rfl⟩
          go_wp2_with fail
          refine (new_any _).mono ?_
          rintro e w5 ⟨rfl, hR, hg⟩
          have hR5 := Lib.hid hR
          have g5 := Lib.hid (g3.out.trans hg)
          have hb5 := Lib.hid (show w.heap.size ≤ w3.heap.size from g3.out.size)
          clear hR hg
          go_wp2_with fail
          refine (cfeed_is w3.heap.size ck0 tn B2 B2.length f2.out _ _ w5 (hG'.out.gr g5.out) (by have := hG'.out.lt; have := hb5.out; omega) hR5.out ck0_ok b3'.out).mono ?_
          rintro e w6 ⟨rfl, hp⟩
          have g6 := Lib.hid (hp.made hR5.out hb5.out g5.out)
          obtain ⟨lv6, dv6, hR, _, _⟩ := hp
          have hR6 := Lib.hid hR
          clear hR
          go_wp2_with fail
          refine (done_is _ tn _ t2.out _ _ w6 hR6.out).mono ?_
          rintro e w7 ⟨rfl, rfl⟩
          go_wp2_with fail
          refine (bad_is _ tn _ t3.out _ _ w6 hR6.out).mono ?_
          rintro e w7 ⟨rfl, rfl⟩
          go_wp2_with fail
          refine (data_is _ tn _ t1.out _ _ w6 hR6.out).mono ?_
          rintro e w7 ⟨rfl, rfl⟩
          go_wp2
          go_ret
          exact ⟨rfl, g6.out⟩
        | true =>
          have c3' := c3 rfl
          clear c3
          go_wp2_with fail
          refine (new_any _).mono ?_
          rintro e w2 ⟨rfl, hR, hg⟩
          have hR2 := Lib.hid hR
          have g2 := Lib.hid (hg'.out.trans hg)
          have hb2 := Lib.hid (show w.heap.size ≤ wr.heap.size from hg'.out.size)
          clear hR hg
          go_wp2_with fail
          refine (cfeed_is wr.heap.size ck0 dn B5 N f1.out _ _ w2 (hG'.out.gr g2.out) (by have := hG'.out.lt; have := hb2.out; omega) hR2.out ck0_ok b5'.out).mono ?_
          rintro e w3 ⟨rfl, hp⟩
          have g3 := Lib.hid (hp.made hR2.out hb2.out g2.out)
          obtain ⟨lv, dv, hR, _, _⟩ := hp
          have hR3 := Lib.hid hR
          clear hR
          go_wp2_with fail
          refine (data_is _ dn _ d1.out _ _ w3 hR3.out).mono ?_
          rintro e w4 ⟨rfl, rfl⟩
          go_wp2_with fail
          refine (done_is _ dn _ d2.out _ _ w3 hR3.out).mono ?_
          rintro e w4 ⟨rfl, rfl⟩
          go_wp2_with fail
          refine (bad_is _ dn _ d3.out _ _ w3 hR3.out).mono ?_
          rintro e w4 ⟨rfl, rfl⟩
          go_wp2_with fail
          refine (new_any _).mono ?_
          rintro e w5 ⟨rfl, hR, hg⟩
          have hR5 := Lib.hid hR
          have g5 := Lib.hid (g3.out.trans hg)
          have hb5 := Lib.hid (show w.heap.size ≤ w3.heap.size from g3.out.size)
          clear hR hg
          go_wp2_with fail
          refine (cfeed_is w3.heap.size ck0 tn B3 B3.length f2.out _ _ w5 (hG'.out.gr g5.out) (by have := hG'.out.lt; have := hb5.out; omega) hR5.out ck0_ok b3'.out).mono ?_
          rintro e w6 ⟨rfl, hp⟩
          have g6 := Lib.hid (hp.made hR5.out hb5.out g5.out)
          obtain ⟨lv6, dv6, hR, _, _⟩ := hp
          have hR6 := Lib.hid hR
          clear hR
          go_wp2_with fail
          refine (done_is _ tn _ t2.out _ _ w6 hR6.out).mono ?_
          rintro e w7 ⟨rfl, rfl⟩
          go_wp2_with fail
          refine (bad_is _ tn _ t3.out _ _ w6 hR6.out).mono ?_
          rintro e w7 ⟨rfl, rfl⟩
          go_wp2_with fail
          refine (data_is _ tn _ t1.out _ _ w6 hR6.out).mono ?_
          rintro e w7 ⟨rfl, rfl⟩
          go_wp2
          go_ret
          exact ⟨rfl, g6.out⟩
  · have hbig : 4096 < s.length ∨ (s.length ≤ 4096 ∧ 300 < cs.length) ∨ (s.length ≤ 4096 ∧ cs.length ≤ 300 ∧ 300 < t.length) := by omega
    rcases hbig with h1 | ⟨h1, h2⟩ | ⟨h1, h2, h3⟩
    · have i1 : (4096 : Int) < s.length := by omega
      go_enter Tryd.func7, Tryd.ntmps7
      go_wp2_with fail
      refine haw.out.mono ?_
      rintro e w1 ⟨rfl, hg⟩
      have g1 := Lib.hid hg
      clear hg
      go_wp2
      go_ret
      exact ⟨rfl, g1.out⟩
    · have i1 : ¬ (4096 : Int) < s.length := by omega
      have i2 : (300 : Int) < cs.length := by omega
      go_enter Tryd.func7, Tryd.ntmps7
      go_wp2_with fail
      refine haw.out.mono ?_
      rintro e w1 ⟨rfl, hg⟩
      have g1 := Lib.hid hg
      clear hg
      go_wp2
      go_ret
      exact ⟨rfl, g1.out⟩
    · have i1 : ¬ (4096 : Int) < s.length := by omega
      have i2 : ¬ (300 : Int) < cs.length := by omega
      have i3 : (300 : Int) < t.length := by omega
      go_enter Tryd.func7, Tryd.ntmps7
      go_wp2_with fail
      refine haw.out.mono ?_
      rintro e w1 ⟨rfl, hg⟩
      have g1 := Lib.hid hg
      clear hg
      go_wp2
      go_ret
      exact ⟨rfl, g1.out⟩
end Go.Proofs.YtnopfoagioodjaaDoor
