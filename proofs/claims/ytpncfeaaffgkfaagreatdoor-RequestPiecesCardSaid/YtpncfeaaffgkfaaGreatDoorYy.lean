/-
  Requests: the walk over RequestPieces. (Printed by mk_yy.py.)
-/
import Derived.Test.YtpncfeaaffgkfaaGreatDoorYw
import Derived.Deep.LoopGhost
namespace Go.Proofs.YtpncfeaaffgkfaaGreatDoor
open Go.RowKit
attribute [local go_sem] Oper.semAt_some

/-- Where the first loop stands. -/
def P1Rel (w : World) (B R : Nat) (L : List Rq) (c : Nat) (t : List UInt8) (k : Nat) (lv ov : Value) (W : World) : Prop :=
  ∃ (o : Option Rq) (T : Nat → Prop) (p : Ps) (xs : List (Rq × Value)) (fv : Value), ov = .bool o.isSome ∧ One1 w B R T p xs lv W ∧ Pend R T (rqO o) fv lv W ∧ Left L c t k (xs.map (·.1)) p o
/-- Where the second loop stands: i pieces were fed. -/
def P2Rel (w5 : World) (B2 : Nat) (L : List Rq) (c : Nat) (t : List UInt8) (n : Nat) (av rv iv : Value) (W : World) : Prop :=
  ∃ (k i : Nat) (rest : List UInt8) (T : Nat → Prop) (p : Ps), av = .int .i64 k ∧ rv = .string ⟨rest.toArray⟩ ∧ iv = .int .i64 i ∧ i ≤ n + 1 ∧ PsL w5 B2 T p W ∧ MState L c t k rest p ∧ RowHi B2 w5 W ∧ (0 < i → Drained p) ∧ (n < i → rest = [])
/-- Where the third loop stands. -/
def P3Rel (w5 : World) (B2 : Nat) (L : List Rq) (c : Nat) (t : List UInt8) (rest : List UInt8) (g : Nat) (av : Value) (W : World) : Prop :=
  ∃ (k : Nat) (T : Nat → Prop) (p : Ps), av = .int .i64 k ∧ PsL w5 B2 T p W ∧ MState L c t k rest p ∧ RowHi B2 w5 W ∧ L.length - k < g
set_option maxHeartbeats 32000000 in
set_option maxRecDepth 100000 in
theorem qpieces_any (s cs : List UInt8) (cv : Value) (w : World) (hG : G w) (hcut : CutsAt w cv cs) :
    Calls Tryz.prog 4 #[.string ⟨s.toArray⟩, cv] w fun e w' => e = .returned (.bool true) ∧ Gr w w' := by
  have hG' := Lib.hid hG
  have hcut' := Lib.hid hcut
  obtain ⟨pc, capc, rfl, hjc⟩ := hcut
  clear hG hjc
  go_enter Tryz.func4, Tryz.ntmps4
  go_wp2_with fail
  refine (awake9_any w hG'.out).mono ?_
  rintro e w1 ⟨rfl, hb⟩
  have g1 := Lib.hid hb
  clear hb
  by_cases hls : s.length ≤ 20000
  case neg =>
    have hlsI : (20000 : Int) < s.length := by omega
    go_wp2
    go_ret
    exact ⟨rfl, g1.out⟩
  by_cases hlc : cs.length ≤ 300
  case neg =>
    have hlsI : ¬ (20000 : Int) < s.length := by omega
    have hlcI : (300 : Int) < cs.length := by omega
    go_wp2
    go_ret
    exact ⟨rfl, g1.out⟩
  have hlsI : ¬ (20000 : Int) < s.length := by omega
  have hlcI : ¬ (300 : Int) < cs.length := by omega
  have hsl := Lib.hid hls
  have hcl := Lib.hid hlc
  obtain ⟨L, c, t, hA⟩ := alls_total s.length s (Nat.le_refl _)
  have hA' := Lib.hid hA
  have hLl := Lib.hid (show L.length ≤ 20000 from Nat.le_trans (alls_len hA) hls)
  obtain ⟨p1, o1, hn1, hleft⟩ := left_first hA (by omega)
  have hn1' := Lib.hid hn1
  have hleft' := Lib.hid hleft
  clear hA hn1 hleft hls hlc
  go_wp2_with fail
  refine (PsL.new (w := w) (hG'.out.gr g1.out) g1.out).mono ?_
  rintro e w2 ⟨rfl, h2, hg2⟩
  have h2' := Lib.hid h2
  clear h2 hg2 g1
  obtain ⟨B, hB⟩ : ∃ x, w1.heap.size = x := ⟨_, rfl⟩
  rw [hB] at h2' ⊢
  clear hB
  go_wp2_with fail
  refine (h2'.out.feed s (by have := hsl.out; show 0 + s.length ≤ _; omega)).mono ?_
  rintro e w3 ⟨rfl, T3, h3, _, _⟩
  rw [feed0] at h3
  have h3' := Lib.hid h3
  clear h3 h2'
  go_wp2_with fail
  refine (h3'.out.next2 (h3'.out.G hG'.out) _ _ hn1'.out (by have := hsl.out; show s.length + 0 ≤ _; omega)).mono ?_
  rintro e w4 ⟨rv, T4, rfl, hF, hO, hlt, h4, hC, hT, hrow, h7⟩
  have hF' := Lib.hid hF
  obtain ⟨pf, capf, rfl, _⟩ := hF
  obtain ⟨q, hq⟩ : ∃ q, rqO o1 = q := ⟨_, rfl⟩
  rw [hq] at hF' hO hlt ⊢
  have hq' := Lib.hid hq
  clear hq
  obtain ⟨ob, hob⟩ : ∃ b, o1.isSome = b := ⟨_, rfl⟩
  rw [hob]
  have hob' := Lib.hid hob
  clear hob
  have hst := Lib.hid (show P1Rel w B w4.heap.size L c t L.length (.slice none 0 0) (.bool ob) (w4.alloc (.cells #[.string ⟨q.m.toArray⟩, .string ⟨q.p.toArray⟩, .string ⟨q.q.toArray⟩, .int .i64 q.v, .slice pf q.fs.length capf, .string ⟨q.b.toArray⟩, .bool q.c] 27)) from by
    have hgA := Gr.alloc w4 (.cells #[.string ⟨q.m.toArray⟩, .string ⟨q.p.toArray⟩, .string ⟨q.q.toArray⟩, .int .i64 q.v, .slice pf q.fs.length capf, .string ⟨q.b.toArray⟩, .bool q.c] 27)
    have hrlo := Below.size h4.g
    refine ⟨o1, T4, p1, [], .slice pf q.fs.length capf, by rw [hob'.out], ⟨h4.gr hgA, fun e => by have := h4.lt _ e; omega, by simp, hrlo, RsW.nil _ _, FsS.nil _, fun k e => (by cases e), ?_, fun o => by simp [go_sem]⟩, ⟨?_, ?_, ?_⟩, hleft'.out⟩
    · intro a n c e
      have e0 := (Below.cell hgA (p := ⟨B, 7, none⟩) (h4.lt B h4.tb)).symm.trans e
      exact ⟨by have := (h4.row a n c e0).2; omega, fun e => (by cases e)⟩
    · rw [hq'.out]; exact RqAt.new w4 q _
    · rw [hq'.out]; exact hF'.out.gr hgA
    · exact fun a n c e => ⟨by have := hlt a n c e; omega, fun e => (by cases e), hO a n c e, Nat.lt_of_lt_of_le (hlt a n c e) (Below.size hgA)⟩)
  obtain ⟨m, pa, qu, v, rfs, rb, rc⟩ := q
  unfold Rq.V
  dsimp only at hst ⊢
  clear hF' hO hlt h4 hC hT hrow h7 h3' hn1' hleft' hq' hob'
  obtain ⟨R, hRe⟩ : ∃ x, w4.heap.size = x := ⟨_, rfl⟩
  go_upto_region 9 with (fail)
  rw [hRe] at hst
  generalize (w4.alloc (.cells #[.string ⟨m.toArray⟩, .string ⟨pa.toArray⟩, .string ⟨qu.toArray⟩, .int .i64 v, .slice pf rfs.length capf, .string ⟨rb.toArray⟩, .bool rc] 27)) = w5 at hst ⊢
  clear hRe
  go_wp2_with fail
  go_loopg [6, 8] L.length (fun k lv ov wr => P1Rel w B R L c t k lv ov wr)
  case atStart => exact hst.out
  case round =>
    obtain ⟨o, T, p, xs, fv, rfl, h1, hp, hleft⟩ := hrel
    obtain ⟨pl, capl, hlv⟩ := ownsRow_slice h1.rows.own
    subst hlv
    have h1' := Lib.hid h1
    have hp' := Lib.hid hp
    have hleft' := Lib.hid hleft
    clear hst h1 hp hleft
    cases o with
    | some r =>
      rw [show (some r).isSome = true from rfl]
      rw [show rqO (some r) = r from rfl] at hp'
      obtain ⟨m, pa, qu, v, rfs, rb, rc⟩ := r
      have y0 := hp'.out.at'.c0
      have y1 := hp'.out.at'.c1
      have y2 := hp'.out.at'.c2
      have y3 := hp'.out.at'.c3
      have y4 := hp'.out.at'.c4
      have y5 := hp'.out.at'.c5
      have y6 := hp'.out.at'.c6
      dsimp only at y0 y1 y2 y3 y4 y5 y6
      obtain ⟨p2, o2, k2, hn2, hk2, hleft2⟩ := left_next hleft'.out
      have hn2' := Lib.hid hn2
      have hk2' := Lib.hid hk2
      have hleft2' := Lib.hid hleft2
      have hsum := Lib.hid hleft'.out.1
      have hxl := Lib.hid (show xs.length + 1 ≤ 20000 from by
        obtain ⟨_, s', l', _, _, _, h, _⟩ := hleft'.out
        have h2 := congrArg List.length h
        rw [List.length_append, List.length_map, List.length_cons] at h2
        have := hLl.out
        omega)
      obtain ⟨pf, capf, hfv, _⟩ := hp'.out.f
      dsimp only at hfv
      subst hfv
      have oA : ∀ O, (wr.alloc O).ownsRow w.heap.size 27 7 (.slice pl xs.length capl) xs.length (rcells rqc xs) := fun O => World.ownsRow.alloc h1'.out.rows.own O
      obtain ⟨i0, hi, hi0, hi1, hib⟩ := info_parts infoReq9
      have z2 : ∀ j u, ([.string ⟨m.toArray⟩, .string ⟨pa.toArray⟩, .string ⟨qu.toArray⟩, .int .i64 v, .slice pf rfs.length capf, .string ⟨rb.toArray⟩, .bool rc] : List Value)[j]? = some u → (wr.alloc (.cells #[.string ⟨m.toArray⟩, .string ⟨pa.toArray⟩, .string ⟨qu.toArray⟩, .int .i64 v, .slice pf rfs.length capf, .string ⟨rb.toArray⟩, .bool rc] 27)).cell? ((⟨wr.heap.size, 0, none⟩ : Addr).add j) = some u := fun j u h => by rw [Addr.add_lit, Nat.zero_add]; exact cell_new7 wr _ _ j u h
      have z3 : ∀ u ∈ ([.string ⟨m.toArray⟩, .string ⟨pa.toArray⟩, .string ⟨qu.toArray⟩, .int .i64 v, .slice pf rfs.length capf, .string ⟨rb.toArray⟩, .bool rc] : List Value), u.oneCell' = true := by simp [Value.oneCell']
      have z4 : xs.length + 1 ≤ maxLen := by have := hxl.out; unfold maxLen; omega
      have z5 : (xs.length + 1) * 104 ≤ 140737488355328 := by have := hxl.out; omega
      have z6 : w.heap.size ≤ (wr.alloc (.cells #[.string ⟨m.toArray⟩, .string ⟨pa.toArray⟩, .string ⟨qu.toArray⟩, .int .i64 v, .slice pf rfs.length capf, .string ⟨rb.toArray⟩, .bool rc] 27)).heap.size := by have := Below.size h1'.out.ps.g; simp; omega
      clear hn2 hk2 hleft2 hleft'
      go_wp2_with (at_builtin; refine wpList_append_own_at _ rfl _ _ 35 rfl w.heap.size 27 i0 (.agg #[.string ⟨#[]⟩, .string ⟨#[]⟩, .string ⟨#[]⟩, .int .i64 0, .slice none 0 0, .string ⟨#[]⟩, .bool false]) 7 104 Tryz.underlying35 hi hi0 hi1 hib rfl (by decide) _ _ _ rfl (oA _) ⟨wr.heap.size, 0, none⟩ 1 1 [.string ⟨m.toArray⟩, .string ⟨pa.toArray⟩, .string ⟨qu.toArray⟩, .int .i64 v, .slice pf rfs.length capf, .string ⟨rb.toArray⟩, .bool rc] rfl rfl z2 z3 z4 z5 z6 ?_)
      intro v' w9 hown hgrow _ hat
      obtain ⟨h9, hc9⟩ := h1'.out.push hp'.out hown hgrow (hat.imp id (fun e => e.trans (by simp)))
      have h9' := Lib.hid h9
      have hr9 := Lib.hid (hp'.out.at'.ch hc9 (fun e => (h1'.out.own R e).1 rfl))
      obtain ⟨p9, c9, rfl⟩ := ownsRow_slice hown
      clear oA hi hi0 hi1 hib z2 z3 z4 z5 z6 hown hgrow hat h9 hc9 y0 y1 y2 y3 y4 y5 y6 hp' h1'
      go_wp2_with fail
      refine (h9'.out.ps.next2 (h9'.out.ps.G hG'.out) _ _ hn2'.out hsum.out).mono ?_
      rintro e w10 ⟨rv, T10, rfl, hF, hO, hlt, h4, hC, hT, hrow, h7⟩
      obtain ⟨h10, hr10, hput⟩ := h9'.out.next hr9.out hF hO hlt h4 hC hT hrow h7
      obtain ⟨pf2, capf2, rfl, _⟩ := hF
      obtain ⟨q, hq⟩ : ∃ q, rqO o2 = q := ⟨_, rfl⟩
      rw [hq] at hput ⊢
      obtain ⟨ob, hob⟩ : ∃ b, o2.isSome = b := ⟨_, rfl⟩
      rw [hob]
      have hpq := hr10.put q (.slice pf2 q.fs.length capf2)
      have hcR := chR7 (T := fun k => k = R) (R := R) rfl w10 (.string ⟨q.m.toArray⟩) (.string ⟨q.p.toArray⟩) (.string ⟨q.q.toArray⟩) (.int .i64 q.v) (.slice pf2 q.fs.length capf2) (.string ⟨q.b.toArray⟩) (.bool q.c)
      have hput2 := hput _ hcR (fun o => by simp [go_sem]) hpq
      have hrel2 := Lib.hid (show P1Rel w B R L c t k2 (.slice p9 (xs.length + 1) c9) (.bool ob) _ from ⟨o2, T10, p2, xs ++ [(⟨m, pa, qu, v, rfs, rb, rc⟩, .slice pf rfs.length capf)], _, by rw [hob], hput2.1, by rw [hq]; exact hput2.2, by simpa using hleft2'.out⟩)
      have y0 := hr10.c0
      have y1 := hr10.c1
      have y2 := hr10.c2
      have y3 := hr10.c3
      have y4 := hr10.c4
      have y5 := hr10.c5
      have y6 := hr10.c6
      have yz := h10.fz
      obtain ⟨m2, pa2, qu2, v2, rfs2, rb2, rc2⟩ := q
      unfold Rq.V
      dsimp only at hrel2 y0 y1 y2 y3 y4 y5 y6 ⊢
      clear hq hob hput hpq hcR hput2 h10 hr10 hlt h4 hC hT hrow h7 hO h9' hr9 hleft2' hn2'
      go_wp2_with fail
      go_roundg k2
      case measure => exact hk2'.out
      case rel => exact hrel2.out
    | none =>
      rw [show (none : Option Rq).isSome = false from rfl]
      obtain ⟨hsum1, hbad1, ht1, hxs⟩ := hleft'.out
      have hone := Lib.hid h1'.out.ps
      have hLs : xs.length = L.length := by rw [← hxs, List.length_map]
      have hR5a : ReqsIn (fun _ => True) wr (.slice pl xs.length capl) L := by
        rw [← hxs]
        exact h1'.out.rows.at (S := fun _ => True) (fun _ _ _ _ _ _ => trivial) (fun _ _ => trivial)
      have hi1 := Lib.hid (fin_idle hbad1 ht1)
      have hr1 := Lib.hid (fin_rest hbad1 ht1)
      have hb1 := Lib.hid hbad1
      have hs1 := Lib.hid hsum1
      rw [hLs] at hR5a ⊢
      have hR5 := Lib.hid hR5a
      clear hLs hxs hbad1 ht1 hsum1 hleft' hp' h1' hR5a
      obtain ⟨wq, rfl⟩ : ∃ x, x = wr := ⟨_, rfl⟩
      go_wp2_with fail
      refine (PsL.new2 (w := wq) (hone.out.G hG'.out) (Gr.refl wq)).mono ?_
      rintro e w12 ⟨rfl, h12, hg12, hrow12⟩
      have hst2 := Lib.hid (show P2Rel wq wq.heap.size L c t cs.length (.int .i64 0) (.string ⟨s.toArray⟩) (.int .i64 0) w12 from ⟨0, 0, s, _, ps0, rfl, rfl, rfl, Nat.zero_le _, h12, m_start hA'.out (by have := hsl.out; omega), hrow12, fun e => absurd e (Nat.lt_irrefl _), fun e => absurd e (Nat.not_lt_zero _)⟩)
      obtain ⟨B2, hB2⟩ : ∃ x, wq.heap.size = x := ⟨_, rfl⟩
      have hBq := Lib.hid hB2
      rw [hB2] at hst2 ⊢
      clear h12 hg12 hrow12 hB2
      go_wp2_with fail
      go_loopw [10, 11, 12] (fun av rv iv W => P2Rel wq B2 L c t cs.length av rv iv W) (fun _ _ iv _ => cs.length + 1 - (intOf iv).toNat)
      case atStart => exact hst2.out
      case round =>
        obtain ⟨k, i, rest, T2, p2, rfl, rfl, rfl, hi, h2, hM, hrow2, hD, hE⟩ := hrel
        have h2' := Lib.hid h2
        have hM' := Lib.hid hM
        have hrow2' := Lib.hid hrow2
        have hMl := hM.1
        have hMk := hM.2.1
        have hgw := Lib.hid (hone.out.g.trans h2.g)
        clear h2 hM hrow2 hst2
        by_cases hin : i ≤ cs.length
        · have hiI : (i : Int) ≤ cs.length := by omega
          obtain ⟨n, hn, hcase⟩ : ∃ n, n ≤ rest.length ∧ ((∃ g off c', i < cs.length ∧ pc = some ⟨g, off, none⟩ ∧ wr.cell? ⟨g, off + i, none⟩ = some (.int .u8 (c' : Nat)) ∧ c' ≤ 255 ∧ c' % (rest.length + 1) = n) ∨ (i = cs.length ∧ n = rest.length)) := by
            by_cases h : i < cs.length
            · obtain ⟨p2, cap2, e, hcell⟩ := hcut'.out.gr hgw.out
              obtain ⟨g, off, hp, hx⟩ := hcell i h
              injection e with e1 e2 e3
              have := Nat.mod_lt cs[i].toNat (show 0 < rest.length + 1 by omega)
              exact ⟨cs[i].toNat % (rest.length + 1), by omega, .inl ⟨g, off, _, h, e1.trans hp, hx, by have := UInt8.toNat_lt cs[i]; omega, rfl⟩⟩
            · exact ⟨rest.length, Nat.le_refl _, .inr ⟨by omega, rfl⟩⟩
          have hx1 : (⟨rest.toArray⟩ : ByteArray).extract 0 n = ⟨(rest.take n).toArray⟩ := by rw [extract_mk]; simp
          have hx2 : (⟨rest.toArray⟩ : ByteArray).extract n rest.length = ⟨(rest.drop n).toArray⟩ := by rw [extract_mk]; simp
          obtain ⟨ra, hra⟩ : ∃ a, rest.take n = a := ⟨_, rfl⟩
          obtain ⟨rb, hrb⟩ : ∃ a, rest.drop n = a := ⟨_, rfl⟩
          have hM2 := Lib.hid (m_feed hM'.out n hn)
          have hfl := Lib.hid (show p2.inp.length + ra.length ≤ 4611686018427387904 by rw [← hra, List.length_take]; omega)
          have hlast := Lib.hid (show n = rest.length → rb = [] from fun e => by rw [← hrb, e]; simp)
          rw [hra] at hx1 hM2
          rw [hrb] at hx2 hM2
          have hnr : (n : Int) ≤ rest.length := by omega
          have hrl : rest.length ≤ 90000 := by omega
          clear hra hrb hD hE
          rcases hcase with ⟨g, off, c', hic, rfl, hcell, hc255, hmod⟩ | ⟨hic, hnn⟩
          · have hicI : (i : Int) < cs.length := by omega
            have hrem1 : Int.tmod (c' : Int) ((rest.length : Int) + 1) = n := by rw [← hmod]; exact (Int.ofNat_tmod c' (rest.length + 1)).symm
            have hcI : (c' : Int) ≤ 255 := by omega
            have hlast2 := Lib.hid (show cs.length < i + 1 → rb = [] from fun e => by omega)
            clear hlast hmod
            go_wp2_with fail
            refine (h2'.out.feed2 ra hfl.out).mono ?_
            rintro e w13 ⟨rfl, ⟨T13, h13, _, _⟩, hrow13⟩
            have h13' := Lib.hid h13
            have hrow13' := Lib.hid (hrow2'.out.step (Below.size h2'.out.g) hrow13)
            clear h13 hrow13 h2' hrow2' hM' hx1 hcut' hgw
            go_wp2_with fail
            go_loopg [10] (L.length + 1) (fun gk av W => P3Rel wq B2 L c t rb gk av W)
            case atStart => exact ⟨k, T13, feedQ p2 ra, rfl, h13'.out, hM2.out, hrow13'.out, by omega⟩
            case round =>
              obtain ⟨k3, T3, p3, rfl, h3, hM3, hrow3, hk3⟩ := hrel
              obtain ⟨p4, o4, hn4, hnx⟩ := m_next hM3
              have hn4' := Lib.hid hn4
              have hnx' := Lib.hid hnx
              have h3' := Lib.hid h3
              have hrow3' := Lib.hid hrow3
              have hsum3 := Lib.hid (show p3.inp.length + p3.und.length ≤ 90000 by have := hM3.1; omega)
              have hk3' := Lib.hid hk3
              clear hn4 hnx h3 hrow3 hk3 hM3 h13' hrow13' hM2
              cases o4 with
              | some r =>
                obtain ⟨⟨hkl, hLk⟩, hM4, hfs33⟩ := hnx'.out
                have hM4' := Lib.hid hM4
                obtain ⟨m, pa, qu, v, rfs, rb9, rc⟩ := r
                go_wp2_with fail
                refine (h3'.out.next2 ((h3'.out.rebase hone.out.g).G hG'.out) _ _ hn4'.out hsum3.out).mono ?_
                rintro e w14 ⟨rv, T4, rfl, hF3, hO3, hlt3, h4, hC3, hT3, _, hrow4⟩
                have hrow4' := hrow3'.out.step (Below.size h3'.out.g) hrow4
                have hF3' := Lib.hid hF3
                obtain ⟨pf, capf, rfl, _⟩ := hF3
                rw [show (rqO (some ⟨m, pa, qu, v, rfs, rb9, rc⟩)).V (.slice pf (rqO (some ⟨m, pa, qu, v, rfs, rb9, rc⟩)).fs.length capf) = .agg #[.string ⟨m.toArray⟩, .string ⟨pa.toArray⟩, .string ⟨qu.toArray⟩, .int .i64 v, .slice pf rfs.length capf, .string ⟨rb9.toArray⟩, .bool rc] from rfl, show (some (⟨m, pa, qu, v, rfs, rb9, rc⟩ : Rq)).isSome = true from rfl]
                have gA := Gr.alloc w14 (.cells #[.string ⟨m.toArray⟩, .string ⟨pa.toArray⟩, .string ⟨qu.toArray⟩, .int .i64 v, .slice pf rfs.length capf, .string ⟨rb9.toArray⟩, .bool rc] 27)
                have y0 := cell_new7 w14 [.string ⟨m.toArray⟩, .string ⟨pa.toArray⟩, .string ⟨qu.toArray⟩, .int .i64 v, .slice pf rfs.length capf, .string ⟨rb9.toArray⟩, .bool rc] 27 0 _ rfl
                have y1 := cell_new7 w14 [.string ⟨m.toArray⟩, .string ⟨pa.toArray⟩, .string ⟨qu.toArray⟩, .int .i64 v, .slice pf rfs.length capf, .string ⟨rb9.toArray⟩, .bool rc] 27 1 _ rfl
                have y2 := cell_new7 w14 [.string ⟨m.toArray⟩, .string ⟨pa.toArray⟩, .string ⟨qu.toArray⟩, .int .i64 v, .slice pf rfs.length capf, .string ⟨rb9.toArray⟩, .bool rc] 27 2 _ rfl
                have y3 := cell_new7 w14 [.string ⟨m.toArray⟩, .string ⟨pa.toArray⟩, .string ⟨qu.toArray⟩, .int .i64 v, .slice pf rfs.length capf, .string ⟨rb9.toArray⟩, .bool rc] 27 3 _ rfl
                have y4 := cell_new7 w14 [.string ⟨m.toArray⟩, .string ⟨pa.toArray⟩, .string ⟨qu.toArray⟩, .int .i64 v, .slice pf rfs.length capf, .string ⟨rb9.toArray⟩, .bool rc] 27 4 _ rfl
                have y5 := cell_new7 w14 [.string ⟨m.toArray⟩, .string ⟨pa.toArray⟩, .string ⟨qu.toArray⟩, .int .i64 v, .slice pf rfs.length capf, .string ⟨rb9.toArray⟩, .bool rc] 27 5 _ rfl
                have y6 := cell_new7 w14 [.string ⟨m.toArray⟩, .string ⟨pa.toArray⟩, .string ⟨qu.toArray⟩, .int .i64 v, .slice pf rfs.length capf, .string ⟨rb9.toArray⟩, .bool rc] 27 6 _ rfl
                obtain ⟨pl', capl', e', hcs⟩ := hR5.out.gr (h4.g.trans gA)
                injection e' with e1 _ e3
                subst e1 e3
                obtain ⟨bl, offl, fl, rfl, _, hF, _, x0, x1, x2, x3, x4, x5, x6⟩ := hcs k3 hkl
                have hFl4 := Lib.hid hF
                obtain ⟨pfl, capfl, rfl, _⟩ := hF
                rw [hLk] at x0 x1 x2 x3 x4 x5 x6 hFl4
                dsimp only at x0 x1 x2 x3 x4 x5 x6 hFl4
                have hfs : rfs.length ≤ 1000000 := Nat.le_trans hfs33 (by decide)
                have hF4 := Lib.hid (hF3'.out.gr gA)
                have hP4 := Lib.hid (h4.gr gA)
                have hrow5 := Lib.hid (hrow4'.gr (h4.lt B2 h4.tb) gA)
                have hkI : (0 : Int) ≤ k3 := by omega
                have hkA : (k3 : Int) < L.length := by omega
                have hge : decide ((L.length : Int) ≤ (k3 : Int)) = false := decide_eq_false (by omega)
                have hgeN : decide (L.length ≤ k3) = false := decide_eq_false (by omega)
                have hge2 : ¬ L.length ≤ k3 := by omega
                have hLl2 : L.length ≤ 20000 := hLl.out
                clear hF3' hO3 hlt3 h4 hC3 hT3 hcs hrow4 hrow4' hLk hM4 hnx' hn4' h3' hrow3' hfs33
                go_upto_region 25 with (fail)
                obtain ⟨R2, hRe⟩ : ∃ x, w14.heap.size = x := ⟨_, rfl⟩
                rw [hRe] at y0 y1 y2 y3 y4 y5 y6 ⊢
                generalize (w14.alloc (.cells #[.string ⟨m.toArray⟩, .string ⟨pa.toArray⟩, .string ⟨qu.toArray⟩, .int .i64 v, .slice pf rfs.length capf, .string ⟨rb9.toArray⟩, .bool rc] 27)) = w15 at x0 x1 x2 x3 x4 x5 x6 y0 y1 y2 y3 y4 y5 y6 hFl4 hF4 hP4 hrow5 ⊢
                clear gA hRe
                haveI : Nonempty (Later (Gr w15)) := ⟨⟨w15, Gr.refl w15⟩⟩
                replace x0 := fun (x : Later (Gr w15)) => x.ok.cell x0
                replace y0 := fun (x : Later (Gr w15)) => x.ok.cell y0
                replace x1 := fun (x : Later (Gr w15)) => x.ok.cell x1
                replace y1 := fun (x : Later (Gr w15)) => x.ok.cell y1
                replace x2 := fun (x : Later (Gr w15)) => x.ok.cell x2
                replace y2 := fun (x : Later (Gr w15)) => x.ok.cell y2
                replace x3 := fun (x : Later (Gr w15)) => x.ok.cell x3
                replace y3 := fun (x : Later (Gr w15)) => x.ok.cell y3
                replace x4 := fun (x : Later (Gr w15)) => x.ok.cell x4
                replace y4 := fun (x : Later (Gr w15)) => x.ok.cell y4
                replace x5 := fun (x : Later (Gr w15)) => x.ok.cell x5
                replace y5 := fun (x : Later (Gr w15)) => x.ok.cell y5
                replace x6 := fun (x : Later (Gr w15)) => x.ok.cell x6
                replace y6 := fun (x : Later (Gr w15)) => x.ok.cell y6
                have hsame : ∀ x : Later (Gr w15), Calls Tryz.prog 18 #[.agg #[.string ⟨m.toArray⟩, .string ⟨pa.toArray⟩, .string ⟨qu.toArray⟩, .int .i64 v, .slice pf rfs.length capf, .string ⟨rb9.toArray⟩, .bool rc], .agg #[.string ⟨m.toArray⟩, .string ⟨pa.toArray⟩, .string ⟨qu.toArray⟩, .int .i64 v, .slice pfl rfs.length capfl, .string ⟨rb9.toArray⟩, .bool rc]] x.w fun e w'' => e = .returned (.bool true) ∧ ∃ y : Later (Gr w15), w'' = y.w := fun x =>
                  Calls.later ((same9_any ⟨m, pa, qu, v, rfs, rb9, rc⟩ _ _ x.w (hF4.out.gr x.ok) (hFl4.out.gr x.ok) hfs).mono fun _ _ ⟨he, hb⟩ => ⟨he, x.ok.trans hb⟩)
                refine wp_region_later (C := Gr w15) (by kernel_rfl) (by kernel_rfl) (Gr.drew' _) ?_
                repeat (go_big_quiet_step (first | with_reducible exact hsame _))
                refine wpQuiet_nil ?_
                intro w16 hg16
                have hrel9 := Lib.hid (show P3Rel wq B2 L c t rb (L.length - (k3 + 1) + 1) (.int .i64 ((k3 : Int) + 1)) w16 from ⟨k3 + 1, T4, p4, by simp, hP4.out.gr hg16, hM4'.out, hrow5.out.gr (hP4.out.lt B2 hP4.out.tb) hg16, Nat.lt_succ_self _⟩)
                clear x0 x1 x2 x3 x4 x5 x6 y0 y1 y2 y3 y4 y5 y6 hsame
                go_wp2
                go_roundg (L.length - (k3 + 1) + 1)
                case measure => have := hk3'.out; omega
                case rel => exact hrel9.out
              | none =>
                obtain ⟨hM4, hD4⟩ := hnx'.out
                have hM4' := Lib.hid hM4
                have hD4' := Lib.hid hD4
                go_wp2_with fail
                refine (h3'.out.next2 ((h3'.out.rebase hone.out.g).G hG'.out) _ _ hn4'.out hsum3.out).mono ?_
                rintro e w14 ⟨rv, T4, rfl, hF3, _, _, h4, hC3, hT3, _, hrow4⟩
                have hrow4' := hrow3'.out.step (Below.size h3'.out.g) hrow4
                obtain ⟨p0, c0, rfl, _⟩ := hF3
                rw [show (rqO none).V (.slice p0 (rqO none).fs.length c0) = .agg #[.string ⟨#[]⟩, .string ⟨#[]⟩, .string ⟨#[]⟩, .int .i64 0, .slice p0 0 c0, .string ⟨#[]⟩, .bool false] from rfl, show (none : Option Rq).isSome = false from rfl]
                have gA := Gr.alloc w14 (.cells #[.string ⟨#[]⟩, .string ⟨#[]⟩, .string ⟨#[]⟩, .int .i64 0, .slice p0 0 c0, .string ⟨#[]⟩, .bool false] 27)
                have hrel9 := Lib.hid (show P2Rel wq B2 L c t cs.length (.int .i64 k3) (.string ⟨rb.toArray⟩) (.int .i64 ((i : Int) + 1)) (w14.alloc (.cells #[.string ⟨#[]⟩, .string ⟨#[]⟩, .string ⟨#[]⟩, .int .i64 0, .slice p0 0 c0, .string ⟨#[]⟩, .bool false] 27)) from ⟨k3, i + 1, rb, T4, p4, rfl, rfl, by simp, by omega, h4.gr gA, hM4'.out, hrow4'.gr (h4.lt B2 h4.tb) gA, fun _ => hD4'.out, hlast2.out⟩)
                clear h4 hC3 hT3 hrow4 hrow4' hM4 hD4 hnx' hn4' h3' hrow3' gA
                go_wp2_with fail
                go_roundw
                case rel => exact hrel9.out
                case measure => simp [intOf]; omega
          · have hicI : ¬ (i : Int) < cs.length := by omega
            subst hnn
            subst hic
            obtain rfl : rb = [] := hlast.out rfl
            have hlast2 := Lib.hid (show cs.length < cs.length + 1 → ([] : List UInt8) = [] from fun _ => rfl)
            clear hlast
            go_wp2_with fail
            refine (h2'.out.feed2 ra hfl.out).mono ?_
            rintro e w13 ⟨rfl, ⟨T13, h13, _, _⟩, hrow13⟩
            have h13' := Lib.hid h13
            have hrow13' := Lib.hid (hrow2'.out.step (Below.size h2'.out.g) hrow13)
            clear h13 hrow13 h2' hrow2' hM' hx1 hcut' hgw
            go_wp2_with fail
            go_loopg [10] (L.length + 1) (fun gk av W => P3Rel wq B2 L c t [] gk av W)
            case atStart => exact ⟨k, T13, feedQ p2 ra, rfl, h13'.out, hM2.out, hrow13'.out, by omega⟩
            case round =>
              obtain ⟨k3, T3, p3, rfl, h3, hM3, hrow3, hk3⟩ := hrel
              obtain ⟨p4, o4, hn4, hnx⟩ := m_next hM3
              have hn4' := Lib.hid hn4
              have hnx' := Lib.hid hnx
              have h3' := Lib.hid h3
              have hrow3' := Lib.hid hrow3
              have hsum3 := Lib.hid (show p3.inp.length + p3.und.length ≤ 90000 by have := hM3.1; omega)
              have hk3' := Lib.hid hk3
              clear hn4 hnx h3 hrow3 hk3 hM3 h13' hrow13' hM2
              cases o4 with
              | some r =>
                obtain ⟨⟨hkl, hLk⟩, hM4, hfs33⟩ := hnx'.out
                have hM4' := Lib.hid hM4
                obtain ⟨m, pa, qu, v, rfs, rb9, rc⟩ := r
                go_wp2_with fail
                refine (h3'.out.next2 ((h3'.out.rebase hone.out.g).G hG'.out) _ _ hn4'.out hsum3.out).mono ?_
                rintro e w14 ⟨rv, T4, rfl, hF3, hO3, hlt3, h4, hC3, hT3, _, hrow4⟩
                have hrow4' := hrow3'.out.step (Below.size h3'.out.g) hrow4
                have hF3' := Lib.hid hF3
                obtain ⟨pf, capf, rfl, _⟩ := hF3
                rw [show (rqO (some ⟨m, pa, qu, v, rfs, rb9, rc⟩)).V (.slice pf (rqO (some ⟨m, pa, qu, v, rfs, rb9, rc⟩)).fs.length capf) = .agg #[.string ⟨m.toArray⟩, .string ⟨pa.toArray⟩, .string ⟨qu.toArray⟩, .int .i64 v, .slice pf rfs.length capf, .string ⟨rb9.toArray⟩, .bool rc] from rfl, show (some (⟨m, pa, qu, v, rfs, rb9, rc⟩ : Rq)).isSome = true from rfl]
                have gA := Gr.alloc w14 (.cells #[.string ⟨m.toArray⟩, .string ⟨pa.toArray⟩, .string ⟨qu.toArray⟩, .int .i64 v, .slice pf rfs.length capf, .string ⟨rb9.toArray⟩, .bool rc] 27)
                have y0 := cell_new7 w14 [.string ⟨m.toArray⟩, .string ⟨pa.toArray⟩, .string ⟨qu.toArray⟩, .int .i64 v, .slice pf rfs.length capf, .string ⟨rb9.toArray⟩, .bool rc] 27 0 _ rfl
                have y1 := cell_new7 w14 [.string ⟨m.toArray⟩, .string ⟨pa.toArray⟩, .string ⟨qu.toArray⟩, .int .i64 v, .slice pf rfs.length capf, .string ⟨rb9.toArray⟩, .bool rc] 27 1 _ rfl
                have y2 := cell_new7 w14 [.string ⟨m.toArray⟩, .string ⟨pa.toArray⟩, .string ⟨qu.toArray⟩, .int .i64 v, .slice pf rfs.length capf, .string ⟨rb9.toArray⟩, .bool rc] 27 2 _ rfl
                have y3 := cell_new7 w14 [.string ⟨m.toArray⟩, .string ⟨pa.toArray⟩, .string ⟨qu.toArray⟩, .int .i64 v, .slice pf rfs.length capf, .string ⟨rb9.toArray⟩, .bool rc] 27 3 _ rfl
                have y4 := cell_new7 w14 [.string ⟨m.toArray⟩, .string ⟨pa.toArray⟩, .string ⟨qu.toArray⟩, .int .i64 v, .slice pf rfs.length capf, .string ⟨rb9.toArray⟩, .bool rc] 27 4 _ rfl
                have y5 := cell_new7 w14 [.string ⟨m.toArray⟩, .string ⟨pa.toArray⟩, .string ⟨qu.toArray⟩, .int .i64 v, .slice pf rfs.length capf, .string ⟨rb9.toArray⟩, .bool rc] 27 5 _ rfl
                have y6 := cell_new7 w14 [.string ⟨m.toArray⟩, .string ⟨pa.toArray⟩, .string ⟨qu.toArray⟩, .int .i64 v, .slice pf rfs.length capf, .string ⟨rb9.toArray⟩, .bool rc] 27 6 _ rfl
                obtain ⟨pl', capl', e', hcs⟩ := hR5.out.gr (h4.g.trans gA)
                injection e' with e1 _ e3
                subst e1 e3
                obtain ⟨bl, offl, fl, rfl, _, hF, _, x0, x1, x2, x3, x4, x5, x6⟩ := hcs k3 hkl
                have hFl4 := Lib.hid hF
                obtain ⟨pfl, capfl, rfl, _⟩ := hF
                rw [hLk] at x0 x1 x2 x3 x4 x5 x6 hFl4
                dsimp only at x0 x1 x2 x3 x4 x5 x6 hFl4
                have hfs : rfs.length ≤ 1000000 := Nat.le_trans hfs33 (by decide)
                have hF4 := Lib.hid (hF3'.out.gr gA)
                have hP4 := Lib.hid (h4.gr gA)
                have hrow5 := Lib.hid (hrow4'.gr (h4.lt B2 h4.tb) gA)
                have hkI : (0 : Int) ≤ k3 := by omega
                have hkA : (k3 : Int) < L.length := by omega
                have hge : decide ((L.length : Int) ≤ (k3 : Int)) = false := decide_eq_false (by omega)
                have hgeN : decide (L.length ≤ k3) = false := decide_eq_false (by omega)
                have hge2 : ¬ L.length ≤ k3 := by omega
                have hLl2 : L.length ≤ 20000 := hLl.out
                clear hF3' hO3 hlt3 h4 hC3 hT3 hcs hrow4 hrow4' hLk hM4 hnx' hn4' h3' hrow3' hfs33
                go_upto_region 25 with (fail)
                obtain ⟨R2, hRe⟩ : ∃ x, w14.heap.size = x := ⟨_, rfl⟩
                rw [hRe] at y0 y1 y2 y3 y4 y5 y6 ⊢
                generalize (w14.alloc (.cells #[.string ⟨m.toArray⟩, .string ⟨pa.toArray⟩, .string ⟨qu.toArray⟩, .int .i64 v, .slice pf rfs.length capf, .string ⟨rb9.toArray⟩, .bool rc] 27)) = w15 at x0 x1 x2 x3 x4 x5 x6 y0 y1 y2 y3 y4 y5 y6 hFl4 hF4 hP4 hrow5 ⊢
                clear gA hRe
                haveI : Nonempty (Later (Gr w15)) := ⟨⟨w15, Gr.refl w15⟩⟩
                replace x0 := fun (x : Later (Gr w15)) => x.ok.cell x0
                replace y0 := fun (x : Later (Gr w15)) => x.ok.cell y0
                replace x1 := fun (x : Later (Gr w15)) => x.ok.cell x1
                replace y1 := fun (x : Later (Gr w15)) => x.ok.cell y1
                replace x2 := fun (x : Later (Gr w15)) => x.ok.cell x2
                replace y2 := fun (x : Later (Gr w15)) => x.ok.cell y2
                replace x3 := fun (x : Later (Gr w15)) => x.ok.cell x3
                replace y3 := fun (x : Later (Gr w15)) => x.ok.cell y3
                replace x4 := fun (x : Later (Gr w15)) => x.ok.cell x4
                replace y4 := fun (x : Later (Gr w15)) => x.ok.cell y4
                replace x5 := fun (x : Later (Gr w15)) => x.ok.cell x5
                replace y5 := fun (x : Later (Gr w15)) => x.ok.cell y5
                replace x6 := fun (x : Later (Gr w15)) => x.ok.cell x6
                replace y6 := fun (x : Later (Gr w15)) => x.ok.cell y6
                have hsame : ∀ x : Later (Gr w15), Calls Tryz.prog 18 #[.agg #[.string ⟨m.toArray⟩, .string ⟨pa.toArray⟩, .string ⟨qu.toArray⟩, .int .i64 v, .slice pf rfs.length capf, .string ⟨rb9.toArray⟩, .bool rc], .agg #[.string ⟨m.toArray⟩, .string ⟨pa.toArray⟩, .string ⟨qu.toArray⟩, .int .i64 v, .slice pfl rfs.length capfl, .string ⟨rb9.toArray⟩, .bool rc]] x.w fun e w'' => e = .returned (.bool true) ∧ ∃ y : Later (Gr w15), w'' = y.w := fun x =>
                  Calls.later ((same9_any ⟨m, pa, qu, v, rfs, rb9, rc⟩ _ _ x.w (hF4.out.gr x.ok) (hFl4.out.gr x.ok) hfs).mono fun _ _ ⟨he, hb⟩ => ⟨he, x.ok.trans hb⟩)
                refine wp_region_later (C := Gr w15) (by kernel_rfl) (by kernel_rfl) (Gr.drew' _) ?_
                repeat (go_big_quiet_step (first | with_reducible exact hsame _))
                refine wpQuiet_nil ?_
                intro w16 hg16
                have hrel9 := Lib.hid (show P3Rel wq B2 L c t [] (L.length - (k3 + 1) + 1) (.int .i64 ((k3 : Int) + 1)) w16 from ⟨k3 + 1, T4, p4, by simp, hP4.out.gr hg16, hM4'.out, hrow5.out.gr (hP4.out.lt B2 hP4.out.tb) hg16, Nat.lt_succ_self _⟩)
                clear x0 x1 x2 x3 x4 x5 x6 y0 y1 y2 y3 y4 y5 y6 hsame
                go_wp2
                go_roundg (L.length - (k3 + 1) + 1)
                case measure => have := hk3'.out; omega
                case rel => exact hrel9.out
              | none =>
                obtain ⟨hM4, hD4⟩ := hnx'.out
                have hM4' := Lib.hid hM4
                have hD4' := Lib.hid hD4
                go_wp2_with fail
                refine (h3'.out.next2 ((h3'.out.rebase hone.out.g).G hG'.out) _ _ hn4'.out hsum3.out).mono ?_
                rintro e w14 ⟨rv, T4, rfl, hF3, _, _, h4, hC3, hT3, _, hrow4⟩
                have hrow4' := hrow3'.out.step (Below.size h3'.out.g) hrow4
                obtain ⟨p0, c0, rfl, _⟩ := hF3
                rw [show (rqO none).V (.slice p0 (rqO none).fs.length c0) = .agg #[.string ⟨#[]⟩, .string ⟨#[]⟩, .string ⟨#[]⟩, .int .i64 0, .slice p0 0 c0, .string ⟨#[]⟩, .bool false] from rfl, show (none : Option Rq).isSome = false from rfl]
                have gA := Gr.alloc w14 (.cells #[.string ⟨#[]⟩, .string ⟨#[]⟩, .string ⟨#[]⟩, .int .i64 0, .slice p0 0 c0, .string ⟨#[]⟩, .bool false] 27)
                have hrel9 := Lib.hid (show P2Rel wq B2 L c t cs.length (.int .i64 k3) (.string ⟨([] : List UInt8).toArray⟩) (.int .i64 ((cs.length : Int) + 1)) (w14.alloc (.cells #[.string ⟨#[]⟩, .string ⟨#[]⟩, .string ⟨#[]⟩, .int .i64 0, .slice p0 0 c0, .string ⟨#[]⟩, .bool false] 27)) from ⟨k3, cs.length + 1, [], T4, p4, rfl, rfl, by simp, by omega, h4.gr gA, hM4'.out, hrow4'.gr (h4.lt B2 h4.tb) gA, fun _ => hD4'.out, fun _ => rfl⟩)
                clear h4 hC3 hT3 hrow4 hrow4' hM4 hD4 hnx' hn4' h3' hrow3' gA
                go_wp2_with fail
                go_roundw
                case rel => exact hrel9.out
                case measure => simp [intOf]
        · have hin2 : ¬ (i : Int) ≤ cs.length := by omega
          obtain rfl := hE (by omega)
          obtain ⟨hk, hb2, ht2⟩ := m_end hM'.out (hD (by omega))
          subst hk
          have hi2 := Lib.hid (fin_idle hb2 ht2)
          have hr2 := Lib.hid (fin_rest hb2 ht2)
          have hb2' := Lib.hid hb2
          have hone2 := Lib.hid (hone.out.gr h2'.out.g)
          have hmany := Lib.hid (h2'.out.rebase hone.out.g)
          obtain ⟨bI, hbI⟩ : ∃ x, (decide (c = 0) && t.isEmpty) = x := ⟨_, rfl⟩
          obtain ⟨tR, htR⟩ : ∃ x, (if c = 0 then t else []) = x := ⟨_, rfl⟩
          rw [hbI] at hi1 hi2
          rw [htR] at hr1 hr2
          have hsum2 : p2.inp.length + p2.und.length ≤ 90000 := by omega
          have hsum2' := Lib.hid hsum2
          clear hb2 ht2 hbI htR hD hE hMl hsum2 hin
          go_wp2_with fail
          refine (hone2.out.bad c hb1.out).mono ?_
          rintro e w20 ⟨rfl, rfl⟩
          go_wp2_with fail
          refine (hmany.out.bad c hb2'.out).mono ?_
          rintro e w20 ⟨rfl, rfl⟩
          go_wp2_with fail
          refine (hone2.out.idle bI hi1.out).mono ?_
          rintro e w20 ⟨rfl, rfl⟩
          go_wp2_with fail
          refine (hmany.out.idle bI hi2.out).mono ?_
          rintro e w20 ⟨rfl, rfl⟩
          go_wp2_with fail
          refine (hone2.out.rest tR _ hr1.out hs1.out).mono ?_
          rintro e w21 ⟨rfl, T21, h21, hC21, _⟩
          have hmany2 := Lib.hid (hmany.out.ch_out hC21 (fun k hk => ⟨fun e => by have := h2'.out.lo k e; have := hone.out.lt k hk; omega, hone.out.lo k hk⟩) (fun a n c e hk => by have := hrow2'.out a n c e; have := hone.out.lt _ hk; omega))
          clear h21 hC21 hone2 hmany
          go_wp2_with fail
          refine (hmany2.out.rest tR _ hr2.out hsum2'.out).mono ?_
          rintro e w22 ⟨rfl, T22, h22, _, _⟩
          have hgf := Lib.hid h22.g
          clear h22 hmany2
          go_wp2
          go_ret
          exact ⟨rfl, hgf.out⟩
end Go.Proofs.YtpncfeaaffgkfaaGreatDoor
