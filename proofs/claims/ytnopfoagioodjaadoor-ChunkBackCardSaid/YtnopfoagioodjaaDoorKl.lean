/-
  The walk over ChunkPieces.
-/
import Derived.Test.YtnopfoagioodjaaDoorKk
namespace Go.Proofs.YtnopfoagioodjaaDoor
open Go.RowKit
attribute [local go_sem] Oper.semAt_some

/-- A slice of bytes in memory. -/
def CutsAt (w : World) (v : Value) (l : List UInt8) : Prop := ∃ p cap, v = .slice p l.length cap ∧ ∀ i (hi : i < l.length), ∃ g off, p = some ⟨g, off, none⟩ ∧ w.cell? ⟨g, off + i, none⟩ = some (.int .u8 (l[i].toNat : Int))
theorem CutsAt.gr {w w' : World} {v : Value} {l : List UInt8} (h : CutsAt w v l) (hb : Gr w w') : CutsAt w' v l := by
  obtain ⟨p, cap, hv, hc⟩ := h
  exact ⟨p, cap, hv, fun i hi => let ⟨g, off, hp, hx⟩ := hc i hi; ⟨g, off, hp, hb.cell hx⟩⟩

/-- Pieces: i of them have been fed. -/
def PieceRel (b : Nat) (W : World) (s : List UInt8) (n i used : Nat) (rest : List UInt8) (wr : World) : Prop :=
  ∃ r lv dv, Rd b wr r lv dv ∧ CkOk r ∧ Ch (fun k => b ≤ k) W wr ∧ feedC ck0 s = (used + (feedC r rest).1, (feedC r rest).2) ∧ rest.length ≤ s.length ∧ (n < i → rest = [])
theorem PieceRel.next {b : Nat} {W wr w2 : World} {s rest : List UInt8} {n i used k : Nat} {r : Ck} {lv dv : Value} (hR : Rd b wr r lv dv) (hok : CkOk r) (hC : Ch (fun k => b ≤ k) W wr) (he : feedC ck0 s = (used + (feedC r rest).1, (feedC r rest).2))
    (hl : rest.length ≤ s.length) (hp : RdPost b lv dv wr (feedC r (rest.take k)).2 w2) (hn : n < i + 1 → rest.drop k = []) : PieceRel b W s n (i + 1) (used + (feedC r (rest.take k)).1) (rest.drop k) w2 := by
  obtain ⟨lv2, dv2, h1, h2, h3⟩ := hp
  refine ⟨_, lv2, dv2, h1, feed_ok _ hok, hC.trans (h2.mono fun j hj => (hR.fp_lt j hj).1), ?_, by rw [List.length_drop]; omega, hn⟩
  have := feed_app (rest.take k) (rest.drop k) r
  rw [List.take_append_drop] at this
  rw [he, this]; simp; omega

set_option maxHeartbeats 8000000 in
set_option maxRecDepth 20000 in
theorem pieces_any (s cs : List UInt8) (cv : Value) (w : World) (hG : G w) (hc : CutsAt w cv cs) (hs : s.length ≤ 9223372036854775807) (hcl : cs.length ≤ 9223372036854775807) :
    Calls Tryd.prog 5 #[.string ⟨s.toArray⟩, cv] w fun e w' => e = .returned (.bool true) ∧ Gr w w' := by
  have hG' := Lib.hid hG
  have hc' := Lib.hid hc
  obtain ⟨p, cap, hcv, hcc⟩ := hc
  subst hcv
  have haw := Lib.hid (awake_any w hG)
  by_cases hbig : 10000 < s.length
  · have hbI : (10000 : Int) < s.length := by omega
    clear hcc hG
    go_enter Tryd.func5, Tryd.ntmps5
    go_wp2_with fail
    refine haw.out.mono ?_
    rintro e w1 ⟨rfl, hg1⟩
    have g1 := Lib.hid hg1
    clear hg1
    go_wp2
    go_ret
    exact ⟨rfl, g1.out⟩
  by_cases hbig2 : 300 < cs.length
  · have hbI : ¬ (10000 : Int) < s.length := by omega
    have hbI2 : (300 : Int) < cs.length := by omega
    clear hcc hG
    go_enter Tryd.func5, Tryd.ntmps5
    go_wp2_with fail
    refine haw.out.mono ?_
    rintro e w1 ⟨rfl, hg1⟩
    have g1 := Lib.hid hg1
    clear hg1
    go_wp2
    go_ret
    exact ⟨rfl, g1.out⟩
  have hbI : ¬ (10000 : Int) < s.length := by omega
  have hbI2 : ¬ (300 : Int) < cs.length := by omega
  have hsl := Lib.hid (show s.length ≤ 10000 by omega)
  have hcsl := Lib.hid (show cs.length ≤ 300 by omega)
  obtain ⟨⟨n, c1⟩, hx⟩ : ∃ x, feedC ck0 s = x := ⟨_, rfl⟩
  have hx' := Lib.hid hx
  have hnl := feed_le s ck0
  rw [hx] at hnl
  dsimp only at hnl
  have hnl' := Lib.hid hnl
  have hshort := Lib.hid (feed_short s ck0)
  clear hG hx hcc hbig hbig2
  go_enter Tryd.func5, Tryd.ntmps5
  go_wp2_with fail
  refine haw.out.mono ?_
  rintro e w1 ⟨rfl, hg1⟩
  have g1 := Lib.hid hg1
  clear hg1
  go_wp2_with fail
  refine (new_any _).mono ?_
  rintro e w2 ⟨rfl, hR, hg⟩
  have hR1 := Lib.hid hR
  have g2 := Lib.hid (g1.out.trans hg)
  have hbb1 := Lib.hid (show w.heap.size ≤ w1.heap.size from g1.out.size)
  clear hR hg
  go_wp2_with fail
  refine (cfeed_is w1.heap.size ck0 c1 s n hx'.out _ _ w2 (hG'.out.gr g2.out) (by have := (hG'.out.gr g1.out).lt; omega) hR1.out ck0_ok (by have := hsl.out; omega)).mono ?_
  rintro e w3 ⟨rfl, hp⟩
  have g3 := Lib.hid (hp.made hR1.out hbb1.out g2.out)
  obtain ⟨lv1, dv1, hR, _, _⟩ := hp
  have hone := Lib.hid hR
  clear hR
  go_wp2_with fail
  refine (new_any _).mono ?_
  rintro e w4 ⟨rfl, hR, hg⟩
  have g4 := Lib.hid (g3.out.trans hg)
  have hst := Lib.hid (show PieceRel w3.heap.size w3 s cs.length 0 0 s w4 from ⟨ck0, _, _, hR, ck0_ok, hg.to_ch _, by simp, Nat.le_refl _, fun h => by omega⟩)
  clear hR hg
  have hb3 := Lib.hid (show w.heap.size ≤ w3.heap.size from g3.out.size)
  go_wp2
  go_loopw [8, 9, 10] (fun u t i wr => ∃ (used : Nat) (rest : List UInt8) (k : Nat), k ≤ cs.length + 1 ∧ used ≤ 10000 ∧ u = .int .i64 used ∧ t = .string ⟨rest.toArray⟩ ∧ i = .int .i64 k ∧ PieceRel w3.heap.size w3 s cs.length k used rest wr) (fun _ _ i _ => cs.length + 1 - (intOf i).toNat)
  case atStart => exact ⟨0, s, 0, by omega, by omega, rfl, rfl, rfl, hst.out⟩
  case round =>
    obtain ⟨used, rest, i, hi, hu, rfl, rfl, rfl, r, lv, dv, hR, hok, hC, he, hrl, hlast⟩ := hrel
    have hR' := Lib.hid hR
    have hok' := Lib.hid hok
    have hC' := Lib.hid hC
    have he' := Lib.hid he
    have hgr := Lib.hid (show Gr w wr from g3.out.ch hC (fun k hk => Nat.le_trans hb3.out hk))
    have hon2 := Lib.hid (hone.out.ch hC (fun k hk hf => by have := (hone.out.fp_lt k hf).2; omega))
    clear hR hok hC he
    by_cases hin : i ≤ cs.length
    · have hiI : (i : Int) ≤ cs.length := by omega
      obtain ⟨k, hk, hcase⟩ : ∃ k, k ≤ rest.length ∧ ((∃ g off c, i < cs.length ∧ p = some ⟨g, off, none⟩ ∧ wr.cell? ⟨g, off + i, none⟩ = some (.int .u8 (c : Nat)) ∧ c ≤ 255 ∧ c % (rest.length + 1) = k) ∨ (i = cs.length ∧ k = rest.length)) := by
        by_cases h : i < cs.length
        · obtain ⟨p2, cap2, e, hcell⟩ := hc'.out.gr hgr.out
          obtain ⟨g, off, hp, hx⟩ := hcell i h
          injection e with e1 e2 e3
          have := Nat.mod_lt cs[i].toNat (show 0 < rest.length + 1 by omega)
          exact ⟨cs[i].toNat % (rest.length + 1), by omega, .inl ⟨g, off, _, h, e1.trans hp, hx, by have := UInt8.toNat_lt cs[i]; omega, rfl⟩⟩
        · exact ⟨rest.length, Nat.le_refl _, .inr ⟨by omega, rfl⟩⟩
      obtain ⟨⟨m, r2⟩, hm⟩ : ∃ x, feedC r (rest.take k) = x := ⟨_, rfl⟩
      have hmk : m ≤ k := by have := feed_le (rest.take k) r; rw [hm, List.length_take] at this; dsimp only at this; omega
      have hmI : (m : Int) ≤ k := by omega
      have hnext := Lib.hid (fun w2 (hp : RdPost w3.heap.size lv dv wr (feedC r (rest.take k)).2 w2) h => PieceRel.next (n := cs.length) (i := i) hR'.out hok'.out hC'.out he'.out hrl hp h)
      have hm4 := Lib.hid (feed_short (rest.take k) r)
      have hok2 := Lib.hid (feed_ok (rest.take k) hok'.out)
      have hum : used + m ≤ n := by
        have h1 := he'.out
        have := feed_app (rest.take k) (rest.drop k) r
        rw [List.take_append_drop] at this
        rw [hx'.out, this, hm] at h1
        injection h1 with h2 _
        dsimp only at h2; omega
      have hu1 : used + m ≤ 10000 := by have := hnl'.out; have := hsl.out; omega
      obtain ⟨um, hum2⟩ : ∃ um, used + m = um := ⟨_, rfl⟩
      have humI : (used : Int) + m = um := by omega
      have hrest : rest.length ≤ 10000 := by have := hsl.out; omega
      have hx1 : (⟨rest.toArray⟩ : ByteArray).extract 0 k = ⟨(rest.take k).toArray⟩ := by rw [extract_mk]; simp
      have hx2 : (⟨rest.toArray⟩ : ByteArray).extract k rest.length = ⟨(rest.drop k).toArray⟩ := by rw [extract_mk]; simp
      obtain ⟨ra, hra⟩ : ∃ a, rest.take k = a := ⟨_, rfl⟩
      obtain ⟨rb, hrb⟩ : ∃ a, rest.drop k = a := ⟨_, rfl⟩
      have hral : ra.length = k := by rw [← hra, List.length_take]; omega
      have hrbl : k = rest.length → rb = [] := fun e => by rw [← hrb, e]; simp
      rw [hra] at hx1 hm hnext hm4 hok2
      rw [hrb] at hx2 hnext
      rw [hm] at hnext hm4 hok2
      dsimp only at hnext hm4 hok2
      rw [hum2] at hnext hu1
      have hm' := Lib.hid hm
      have hkr : (k : Int) ≤ rest.length := by omega
      have hral' := Lib.hid hral
      have hhere : m = k ∨ (m < k ∧ r2.st = 4 ∧ r2.bad = 0) ∨ (m < k ∧ r2.st = 4 ∧ r2.bad ≠ 0) := by
        by_cases h : m = k
        · exact .inl h
        · have h4 := hm4.out (by omega)
          by_cases hb : r2.bad = 0
          · exact .inr (.inl ⟨by omega, h4, hb⟩)
          · exact .inr (.inr ⟨by omega, h4, hb⟩)
      have hfeed := Lib.hid (cfeed_is w3.heap.size r r2 ra m hm _ _ wr (hG'.out.gr hgr.out) (by have := hG'.out.lt; have := hb3.out; omega) hR'.out hok'.out (by omega))
      clear hm hum hum2 hra hrb hlast
      rcases hcase with ⟨g, off, c, hic, rfl, hcell, hc255, hmod⟩ | ⟨hic, hkk⟩
      · have hnx2 := Lib.hid (fun w2 hp => hnext.out w2 hp (by omega))
        have hicI : (i : Int) < cs.length := by omega
        have hrem1 : Int.tmod (c : Int) ((rest.length : Int) + 1) = k := by rw [← hmod]; exact (Int.ofNat_tmod c (rest.length + 1)).symm
        have hrem2 : (c : Int) % ((rest.length : Int) + 1) = k := by exact_mod_cast hmod
        have hcI : (c : Int) ≤ 255 := by omega
        clear hnext hmod hral hrbl hc'
        rcases hhere with rfl | ⟨h1, h2, h3⟩ | ⟨h1, h2, h3⟩
        · go_wp2_with fail
          refine hfeed.out.mono ?_
          rintro e w5 ⟨rfl, hp⟩
          have hrel2 := Lib.hid (hnx2.out w5 hp)
          clear hp
          go_wp2
          go_round
          case rel => exact ⟨um, rb, i + 1, by omega, hu1, rfl, rfl, by go_num, hrel2.out⟩
          case measure => simp [intOf]; omega
        · have h1I : (m : Int) < k := by omega
          have hdn := Lib.hid (show decide (r2.st = 4 ∧ r2.bad = 0) = true by simp [h2, h3])
          clear h2 h3
          go_wp2_with fail
          refine hfeed.out.mono ?_
          rintro e w5 ⟨rfl, hp⟩
          have hrel2 := Lib.hid (hnx2.out w5 hp)
          obtain ⟨lv5, dv5, hR5, _, _⟩ := hp
          have hR5' := Lib.hid hR5
          clear hR5
          go_wp2_with fail
          refine (done_is w3.heap.size r2 _ hdn.out _ _ w5 hR5'.out).mono ?_
          rintro e w6 ⟨rfl, rfl⟩
          go_wp2
          go_round
          case rel => exact ⟨um, rb, i + 1, by omega, hu1, rfl, rfl, by go_num, hrel2.out⟩
          case measure => simp [intOf]; omega
        · have h1I : (m : Int) < k := by omega
          have hdn := Lib.hid (show decide (r2.st = 4 ∧ r2.bad = 0) = false by simp [h3])
          have hbd : ((r2.bad : Int) == 0) = false := beq_eq_false_iff_ne.2 (by omega)
          clear h2 h3
          go_wp2_with fail
          refine hfeed.out.mono ?_
          rintro e w5 ⟨rfl, hp⟩
          have hrel2 := Lib.hid (hnx2.out w5 hp)
          obtain ⟨lv5, dv5, hR5, _, _⟩ := hp
          have hR5' := Lib.hid hR5
          clear hR5
          go_wp2_with fail
          refine (done_is w3.heap.size r2 _ hdn.out _ _ w5 hR5'.out).mono ?_
          rintro e w6 ⟨rfl, rfl⟩
          go_wp2_with fail
          refine (bad_is w3.heap.size r2 r2.bad rfl _ _ w5 hR5'.out).mono ?_
          rintro e w6 ⟨rfl, rfl⟩
          go_wp2
          go_round
          case rel => exact ⟨um, rb, i + 1, by omega, hu1, rfl, rfl, by go_num, hrel2.out⟩
          case measure => simp [intOf]; omega
      · have hnx2 := Lib.hid (fun w2 hp => hnext.out w2 hp (fun _ => hrbl hkk))
        have hicI : ¬ (i : Int) < cs.length := by omega
        obtain rfl : rb = [] := hrbl hkk
        subst hkk
        clear hnext hral hrbl hc'
        rcases hhere with rfl | ⟨h1, h2, h3⟩ | ⟨h1, h2, h3⟩
        · go_wp2_with fail
          refine hfeed.out.mono ?_
          rintro e w5 ⟨rfl, hp⟩
          have hrel2 := Lib.hid (hnx2.out w5 hp)
          clear hp
          go_wp2
          go_round
          case rel => exact ⟨um, [], i + 1, by omega, hu1, rfl, rfl, by go_num, hrel2.out⟩
          case measure => simp [intOf]; omega
        · have h1I : (m : Int) < rest.length := by omega
          have hdn := Lib.hid (show decide (r2.st = 4 ∧ r2.bad = 0) = true by simp [h2, h3])
          clear h2 h3
          go_wp2_with fail
          refine hfeed.out.mono ?_
          rintro e w5 ⟨rfl, hp⟩
          have hrel2 := Lib.hid (hnx2.out w5 hp)
          obtain ⟨lv5, dv5, hR5, _, _⟩ := hp
          have hR5' := Lib.hid hR5
          clear hR5
          go_wp2_with fail
          refine (done_is w3.heap.size r2 _ hdn.out _ _ w5 hR5'.out).mono ?_
          rintro e w6 ⟨rfl, rfl⟩
          go_wp2
          go_round
          case rel => exact ⟨um, [], i + 1, by omega, hu1, rfl, rfl, by go_num, hrel2.out⟩
          case measure => simp [intOf]; omega
        · have h1I : (m : Int) < rest.length := by omega
          have hdn := Lib.hid (show decide (r2.st = 4 ∧ r2.bad = 0) = false by simp [h3])
          have hbd : ((r2.bad : Int) == 0) = false := beq_eq_false_iff_ne.2 (by omega)
          clear h2 h3
          go_wp2_with fail
          refine hfeed.out.mono ?_
          rintro e w5 ⟨rfl, hp⟩
          have hrel2 := Lib.hid (hnx2.out w5 hp)
          obtain ⟨lv5, dv5, hR5, _, _⟩ := hp
          have hR5' := Lib.hid hR5
          clear hR5
          go_wp2_with fail
          refine (done_is w3.heap.size r2 _ hdn.out _ _ w5 hR5'.out).mono ?_
          rintro e w6 ⟨rfl, rfl⟩
          go_wp2_with fail
          refine (bad_is w3.heap.size r2 r2.bad rfl _ _ w5 hR5'.out).mono ?_
          rintro e w6 ⟨rfl, rfl⟩
          go_wp2
          go_round
          case rel => exact ⟨um, [], i + 1, by omega, hu1, rfl, rfl, by go_num, hrel2.out⟩
          case measure => simp [intOf]; omega
    · have hrn := hlast (by omega)
      subst hrn
      have hin2 : (cs.length : Int) < i := by omega
      have hxx : (n, c1) = (used, r) := by rw [← hx'.out, he'.out]; rfl
      obtain ⟨rfl, rfl⟩ := Prod.mk.inj hxx
      clear hxx hi hlast hrl hin
      obtain ⟨dn, hdn⟩ : ∃ f, decide (c1.st = 4 ∧ c1.bad = 0) = f := ⟨_, rfl⟩
      obtain ⟨dl, hdl⟩ : ∃ l, c1.data = l := ⟨_, rfl⟩
      have hdn' := Lib.hid hdn
      have hdl' := Lib.hid hdl
      have hnI : (n : Int) ≤ s.length := by have := hnl'.out; omega
      have hcase : (dn = true ∧ c1.bad = 0) ∨ (dn = false ∧ (n = s.length ∨ n ≠ s.length ∧ c1.bad ≠ 0)) := by
        cases dn
        · refine .inr ⟨rfl, ?_⟩
          by_cases h : n = s.length
          · exact .inl h
          · refine .inr ⟨h, fun e => ?_⟩
            have h4 := hshort.out (by rw [hx'.out]; have := hnl'.out; show n < s.length; omega)
            rw [hx'.out] at h4
            have := of_decide_eq_false hdn
            exact this ⟨h4, e⟩
        · exact .inl ⟨rfl, (of_decide_eq_true hdn).2⟩
      have hbad : (dn = true ∧ ((c1.bad : Int) == 0) = true ∧ ((n : Int) == s.length) = true) ∨ (dn = true ∧ ((c1.bad : Int) == 0) = true ∧ ((n : Int) == s.length) = false) ∨ (dn = false ∧ ((n : Int) == s.length) = true) ∨ (dn = false ∧ ((n : Int) == s.length) = false ∧ ((c1.bad : Int) != 0) = true) := by
        by_cases h : n = s.length
        · have h1 : ((n : Int) == s.length) = true := by rw [beq_iff_eq]; omega
          rcases hcase with ⟨rfl, hb⟩ | ⟨rfl, _⟩
          · exact .inl ⟨rfl, by rw [beq_iff_eq]; omega, h1⟩
          · exact .inr (.inr (.inl ⟨rfl, h1⟩))
        · have h1 : ((n : Int) == s.length) = false := beq_eq_false_iff_ne.2 (by omega)
          rcases hcase with ⟨rfl, hb⟩ | ⟨rfl, hb | ⟨_, hb⟩⟩
          · exact .inr (.inl ⟨rfl, by rw [beq_iff_eq]; omega, h1⟩)
          · exact absurd hb h
          · exact .inr (.inr (.inr ⟨rfl, h1, by rw [bne_iff_ne]; omega⟩))
      clear hcase hdn hdl
      rcases hbad with ⟨rfl, b1, b2⟩ | ⟨rfl, b1, b2⟩ | ⟨rfl, b2⟩ | ⟨rfl, b2, b1⟩
      · go_wp2_with fail
        refine (data_is w1.heap.size c1 dl hdl'.out _ _ wr hon2.out).mono ?_
        rintro e w5 ⟨rfl, rfl⟩
        go_wp2_with fail
        refine (data_is w3.heap.size c1 dl hdl'.out _ _ wr hR'.out).mono ?_
        rintro e w5 ⟨rfl, rfl⟩
        go_wp2_with fail
        refine (done_is w1.heap.size c1 _ hdn'.out _ _ wr hon2.out).mono ?_
        rintro e w5 ⟨rfl, rfl⟩
        go_wp2_with fail
        refine (done_is w3.heap.size c1 _ hdn'.out _ _ wr hR'.out).mono ?_
        rintro e w5 ⟨rfl, rfl⟩
        go_wp2_with fail
        refine (bad_is w1.heap.size c1 c1.bad rfl _ _ wr hon2.out).mono ?_
        rintro e w5 ⟨rfl, rfl⟩
        go_wp2_with fail
        refine (bad_is w3.heap.size c1 c1.bad rfl _ _ wr hR'.out).mono ?_
        rintro e w5 ⟨rfl, rfl⟩
        go_wp2_with fail
        refine (done_is w1.heap.size c1 _ hdn'.out _ _ wr hon2.out).mono ?_
        rintro e w5 ⟨rfl, rfl⟩
        go_wp2_with fail
        refine (bad_is w1.heap.size c1 c1.bad rfl _ _ wr hon2.out).mono ?_
        rintro e w5 ⟨rfl, rfl⟩
        go_wp2
        go_ret
        exact ⟨rfl, hgr.out⟩
      · go_wp2_with fail
        refine (data_is w1.heap.size c1 dl hdl'.out _ _ wr hon2.out).mono ?_
        rintro e w5 ⟨rfl, rfl⟩
        go_wp2_with fail
        refine (data_is w3.heap.size c1 dl hdl'.out _ _ wr hR'.out).mono ?_
        rintro e w5 ⟨rfl, rfl⟩
        go_wp2_with fail
        refine (done_is w1.heap.size c1 _ hdn'.out _ _ wr hon2.out).mono ?_
        rintro e w5 ⟨rfl, rfl⟩
        go_wp2_with fail
        refine (done_is w3.heap.size c1 _ hdn'.out _ _ wr hR'.out).mono ?_
        rintro e w5 ⟨rfl, rfl⟩
        go_wp2_with fail
        refine (bad_is w1.heap.size c1 c1.bad rfl _ _ wr hon2.out).mono ?_
        rintro e w5 ⟨rfl, rfl⟩
        go_wp2_with fail
        refine (bad_is w3.heap.size c1 c1.bad rfl _ _ wr hR'.out).mono ?_
        rintro e w5 ⟨rfl, rfl⟩
        go_wp2_with fail
        refine (done_is w1.heap.size c1 _ hdn'.out _ _ wr hon2.out).mono ?_
        rintro e w5 ⟨rfl, rfl⟩
        go_wp2_with fail
        refine (done_is w1.heap.size c1 _ hdn'.out _ _ wr hon2.out).mono ?_
        rintro e w5 ⟨rfl, rfl⟩
        go_wp2_with fail
        refine (bad_is w1.heap.size c1 c1.bad rfl _ _ wr hon2.out).mono ?_
        rintro e w5 ⟨rfl, rfl⟩
        go_wp2
        go_ret
        exact ⟨rfl, hgr.out⟩
      · go_wp2_with fail
        refine (data_is w1.heap.size c1 dl hdl'.out _ _ wr hon2.out).mono ?_
        rintro e w5 ⟨rfl, rfl⟩
        go_wp2_with fail
        refine (data_is w3.heap.size c1 dl hdl'.out _ _ wr hR'.out).mono ?_
        rintro e w5 ⟨rfl, rfl⟩
        go_wp2_with fail
        refine (done_is w1.heap.size c1 _ hdn'.out _ _ wr hon2.out).mono ?_
        rintro e w5 ⟨rfl, rfl⟩
        go_wp2_with fail
        refine (done_is w3.heap.size c1 _ hdn'.out _ _ wr hR'.out).mono ?_
        rintro e w5 ⟨rfl, rfl⟩
        go_wp2_with fail
        refine (bad_is w1.heap.size c1 c1.bad rfl _ _ wr hon2.out).mono ?_
        rintro e w5 ⟨rfl, rfl⟩
        go_wp2_with fail
        refine (bad_is w3.heap.size c1 c1.bad rfl _ _ wr hR'.out).mono ?_
        rintro e w5 ⟨rfl, rfl⟩
        go_wp2_with fail
        refine (done_is w1.heap.size c1 _ hdn'.out _ _ wr hon2.out).mono ?_
        rintro e w5 ⟨rfl, rfl⟩
        go_wp2
        go_ret
        exact ⟨rfl, hgr.out⟩
      · go_wp2_with fail
        refine (data_is w1.heap.size c1 dl hdl'.out _ _ wr hon2.out).mono ?_
        rintro e w5 ⟨rfl, rfl⟩
        go_wp2_with fail
        refine (data_is w3.heap.size c1 dl hdl'.out _ _ wr hR'.out).mono ?_
        rintro e w5 ⟨rfl, rfl⟩
        go_wp2_with fail
        refine (done_is w1.heap.size c1 _ hdn'.out _ _ wr hon2.out).mono ?_
        rintro e w5 ⟨rfl, rfl⟩
        go_wp2_with fail
        refine (done_is w3.heap.size c1 _ hdn'.out _ _ wr hR'.out).mono ?_
        rintro e w5 ⟨rfl, rfl⟩
        go_wp2_with fail
        refine (bad_is w1.heap.size c1 c1.bad rfl _ _ wr hon2.out).mono ?_
        rintro e w5 ⟨rfl, rfl⟩
        go_wp2_with fail
        refine (bad_is w3.heap.size c1 c1.bad rfl _ _ wr hR'.out).mono ?_
        rintro e w5 ⟨rfl, rfl⟩
        go_wp2_with fail
        refine (done_is w1.heap.size c1 _ hdn'.out _ _ wr hon2.out).mono ?_
        rintro e w5 ⟨rfl, rfl⟩
        go_wp2_with fail
        refine (bad_is w1.heap.size c1 c1.bad rfl _ _ wr hon2.out).mono ?_
        rintro e w5 ⟨rfl, rfl⟩
        go_wp2_with fail
        refine (done_is w1.heap.size c1 _ hdn'.out _ _ wr hon2.out).mono ?_
        rintro e w5 ⟨rfl, rfl⟩
        go_wp2
        go_ret
        exact ⟨rfl, hgr.out⟩
end Go.Proofs.YtnopfoagioodjaaDoor
