/-
  Requests by the document: the walk over All.
-/
import Derived.Test.YtpncfeaaffgkfaaGreatDoorYl
import Derived.Test.YtpncfeaaffgkfaaGreatDoorYm
import Derived.Test.YtpncfeaaffgkfaaGreatDoorKs
namespace Go.Proofs.YtpncfeaaffgkfaaGreatDoor
open Go.RowKit
attribute [local go_sem] Oper.semAt_some

/-- What All answers. -/
def AllPost (s : List UInt8) (w : World) (e : Ending) (w' : World) : Prop :=
  ∃ (l : List Rq) (c : Nat) (t : List UInt8) (v : Value), Alls s l c t ∧ e = .returned (.tuple #[v, .int .i64 c, .string ⟨t.toArray⟩]) ∧ ReqsIn (fun k => w.heap.size ≤ k) w' v l ∧ l.length ≤ s.length ∧ Gr w w'
/-- Where All stands: what is left, what was found. -/
def AllRel (w : World) (s : List UInt8) (sv lv : Value) (W : World) : Prop :=
  ∃ (xs : List (Rq × Value)) (s' : List UInt8), sv = .string ⟨s'.toArray⟩ ∧ RsW w.heap.size xs lv W ∧ FsS (fun k => w.heap.size ≤ k) xs ∧ xs.length + s'.length ≤ s.length ∧ (∀ l c t, Alls s' l c t → Alls s (xs.map (·.1) ++ l) c t) ∧ Gr w W
theorem AllRel.end {w W : World} {s s' : List UInt8} {xs : List (Rq × Value)} {lv : Value} {c : Nat} {t : List UInt8} (h : RsW w.heap.size xs lv W) (hS : FsS (fun k => w.heap.size ≤ k) xs) (hl : xs.length + s'.length ≤ s.length) (hA : ∀ l c t, Alls s' l c t → Alls s (xs.map (·.1) ++ l) c t) (hg : Gr w W) (hend : Alls s' [] c t) (z : Int) (hz : z = c) (W' : World) (hg' : Gr W W') :
    AllPost s w (.returned (.tuple #[lv, .int .i64 z, .string ⟨t.toArray⟩])) W' := by
  subst hz
  have := hA _ _ _ hend
  rw [List.append_nil] at this
  exact ⟨_, c, t, lv, this, rfl, (h.at hS (fun k e => (World.ownsRow.lt h.own k e).1)).gr hg', by rw [List.length_map]; omega, hg.trans hg'⟩
theorem AllRel.next {w W9 : World} {s s' : List UInt8} {xs : List (Rq × Value)} {r : Rq} {fv v' : Value} {n : Nat} (h : RsW w.heap.size (xs ++ [(r, fv)]) v' W9) (hS : FsS (fun k => w.heap.size ≤ k) (xs ++ [(r, fv)])) (hl : xs.length + s'.length ≤ s.length) (hA : ∀ l c t, Alls s' l c t → Alls s (xs.map (·.1) ++ l) c t) (hg : Gr w W9) (h1 : oneQ s' = .got r n) :
    AllRel w s (.string ⟨(s'.drop n).toArray⟩) v' W9 := by
  have hn := one_got h1
  refine ⟨xs ++ [(r, fv)], s'.drop n, rfl, h, hS, by rw [List.length_append, List.length_drop]; simp; omega, fun l c t k => ?_, hg⟩
  have := hA _ _ _ (.got h1 k)
  simpa using this
set_option maxHeartbeats 16000000 in
set_option maxRecDepth 100000 in
theorem rall_any (s : List UInt8) (w : World) (hl : s.length ≤ 600000) :
    Calls Tryz.prog 15 #[.string ⟨s.toArray⟩] w (AllPost s w) := by
  have hst := Lib.hid (show AllRel w s (.string ⟨s.toArray⟩) (.slice none 0 0) w from ⟨[], s, rfl, RsW.nil _ _, FsS.nil _, by simp, fun l c t h => by simpa using h, Gr.refl _⟩)
  go_enter Tryz.func15, Tryz.ntmps15
  go_wp2
  go_loopw [0, 5] (fun sv lv W => AllRel w s sv lv W) (fun sv _ _ => lenOf sv)
  case atStart => exact hst.out
  case round =>
    obtain ⟨xs, s', rfl, hR, hS, hl', hA, hg0⟩ := hrel
    have hS' := Lib.hid hS
    have hR' := Lib.hid hR
    have hA' := Lib.hid hA
    have hg'0 := Lib.hid hg0
    have hsl : s'.length ≤ 600000 := by omega
    obtain ⟨pl, capl, hlv⟩ := ownsRow_slice hR.own
    subst hlv
    clear hR hS hA hg0 hst
    have hend := Lib.hid (rend_any s' wr (by omega))
    by_cases h0 : 0 ≤ Lib.index s' eol2
    · have hroom := index_le h0
      obtain ⟨k, hk⟩ : ∃ k : Nat, Lib.index s' eol2 = k := ⟨_, (Int.toNat_of_nonneg h0).symm⟩
      rw [hk, Int.toNat_natCast] at hroom
      have hee : endQ s' = (k : Int) + 4 := by unfold endQ; rw [hk, if_pos (by omega)]
      rw [hee] at hend
      by_cases h4 : k + 4 ≤ 2048
      · have hH : (decide (0 ≤ Lib.index s' eol2) && decide (Lib.index s' eol2 + 4 ≤ 2048)) = true := by rw [hk]; simp; omega
        obtain ⟨y, hy⟩ : ∃ y, s'.take k = y := ⟨_, rfl⟩
        have hyl : y.length ≤ 600000 := by rw [← hy, List.length_take]; omega
        have hex : (⟨s'.toArray⟩ : ByteArray).extract 0 k = ⟨y.toArray⟩ := by rw [extract_mk, hy]; rfl
        have hO := Lib.hid (show oneQ s' = match headQ (splitE y) with
            | .bad c => .bad c
            | .good r n ch =>
              if ch then
                if (feedC ck0 (s'.drop (k + 4))).2.bad ≠ 0 then .bad (feedC ck0 (s'.drop (k + 4))).2.bad
                else if (feedC ck0 (s'.drop (k + 4))).2.st = 4 then .got { r with b := (feedC ck0 (s'.drop (k + 4))).2.data } (k + 4 + (feedC ck0 (s'.drop (k + 4))).1)
                else .more
              else if s'.length < k + 4 + n then .more
              else .got { r with b := (s'.drop (k + 4)).take n } (k + 4 + n) by
          unfold oneQ
          rw [hH, if_pos rfl, hk, Int.toNat_natCast, hy]
          rfl)
        have hhead := Lib.hid (fun W => rhead_any y W (by omega))
        obtain ⟨X, hX⟩ : ∃ X, headQ (splitE y) = X := ⟨_, rfl⟩
        have hXb := Lib.hid (fun r n ch (e : X = .good r n ch) => headQ_body (hX.trans e))
        rw [hX] at hhead hO
        have h4I : (k : Int) + 4 ≤ 2048 := by omega
        have h4J : ¬ (k : Int) + 4 < 0 := by omega
        have hkI : (k : Int) ≤ s'.length := by omega
        clear hk hee h0 hH hy hX
        go_wp2_with fail
        refine hend.out.mono ?_
        rintro e w3 ⟨rfl, rfl⟩
        clear hend
        go_wp2_with fail
        refine (hhead.out _).mono ?_
        clear hhead
        cases X with
        | bad c =>
          rintro e w5 ⟨rfl, hb⟩
          rw [show rq0.V (.slice none 0 0) = .agg #[.string ⟨#[]⟩, .string ⟨#[]⟩, .string ⟨#[]⟩, .int .i64 0, .slice none 0 0, .string ⟨#[]⟩, .bool false] from rfl]
          have hc := Lib.hid (oneQ_codes (show oneQ s' = .bad c from hO.out))
          have hcI : ((c : Int) != 0) = true := by rw [bne_iff_ne]; have := hc.out; omega
          have hfin := Lib.hid (AllRel.end (c := c) (t := []) hR'.out hS'.out hl' hA'.out hg'0.out (.bad hO.out) c rfl _ (hb.trans (Gr.alloc w5 (.cells #[.string ⟨#[]⟩, .string ⟨#[]⟩, .string ⟨#[]⟩, .int .i64 0, .slice none 0 0, .string ⟨#[]⟩, .bool false] 27))))
          clear hb hc
          go_wp2
          refine bodyPost_ret (v := .tuple #[.slice pl xs.length capl, .int .i64 c, .string ⟨#[]⟩]) ?_ rfl hfin.out
          simp [results, Tryz.results15, go_sem]
        | good r n ch =>
          rintro e w5 ⟨fv, rfl, hF, hloc0, hb⟩
          obtain ⟨hrb, hn4⟩ := hXb.out r n ch rfl
          have hF' := Lib.hid hF
          obtain ⟨pf, capf, rfl, hjunk⟩ := hF
          obtain ⟨m, pa, qu, v, rfs, rb, rc⟩ := r
          dsimp only at hrb hF' hloc0
          subst hrb
          have hloc := Lib.hid hloc0
          have g5 := Lib.hid hb
          clear hjunk hloc0 hb hXb
          unfold Rq.V
          dsimp only
          have gA := Gr.alloc w5 (.cells #[.string ⟨m.toArray⟩, .string ⟨pa.toArray⟩, .string ⟨qu.toArray⟩, .int .i64 v, .slice pf rfs.length capf, .string ⟨#[]⟩, .bool rc] 27)
          have y0 := cell_new7 w5 [.string ⟨m.toArray⟩, .string ⟨pa.toArray⟩, .string ⟨qu.toArray⟩, .int .i64 v, .slice pf rfs.length capf, .string ⟨#[]⟩, .bool rc] 27 0 _ rfl
          have y1 := cell_new7 w5 [.string ⟨m.toArray⟩, .string ⟨pa.toArray⟩, .string ⟨qu.toArray⟩, .int .i64 v, .slice pf rfs.length capf, .string ⟨#[]⟩, .bool rc] 27 1 _ rfl
          have y2 := cell_new7 w5 [.string ⟨m.toArray⟩, .string ⟨pa.toArray⟩, .string ⟨qu.toArray⟩, .int .i64 v, .slice pf rfs.length capf, .string ⟨#[]⟩, .bool rc] 27 2 _ rfl
          have y3 := cell_new7 w5 [.string ⟨m.toArray⟩, .string ⟨pa.toArray⟩, .string ⟨qu.toArray⟩, .int .i64 v, .slice pf rfs.length capf, .string ⟨#[]⟩, .bool rc] 27 3 _ rfl
          have y4 := cell_new7 w5 [.string ⟨m.toArray⟩, .string ⟨pa.toArray⟩, .string ⟨qu.toArray⟩, .int .i64 v, .slice pf rfs.length capf, .string ⟨#[]⟩, .bool rc] 27 4 _ rfl
          have y5 := cell_new7 w5 [.string ⟨m.toArray⟩, .string ⟨pa.toArray⟩, .string ⟨qu.toArray⟩, .int .i64 v, .slice pf rfs.length capf, .string ⟨#[]⟩, .bool rc] 27 5 _ rfl
          have y6 := cell_new7 w5 [.string ⟨m.toArray⟩, .string ⟨pa.toArray⟩, .string ⟨qu.toArray⟩, .int .i64 v, .slice pf rfs.length capf, .string ⟨#[]⟩, .bool rc] 27 6 _ rfl
          have yz : ∀ o, (w5.alloc (.cells #[.string ⟨m.toArray⟩, .string ⟨pa.toArray⟩, .string ⟨qu.toArray⟩, .int .i64 v, .slice pf rfs.length capf, .string ⟨#[]⟩, .bool rc] 27)).frozen? ⟨w5.heap.size, o, none⟩ = false := fun o => by simp [go_sem]
          have hF6 := Lib.hid (hF'.out.gr gA)
          have hg6 := Lib.hid (g5.out.trans gA)
          have hR5 := Lib.hid (show wr.heap.size ≤ w5.heap.size from Below.size g5.out)
          cases ch with
          | true =>
            rw [show (if true = true then (-1 : Int) else n) = -1 from rfl]
            go_upto_region 8 with (fail)
            obtain ⟨R, hRe⟩ : ∃ x, w5.heap.size = x := ⟨_, rfl⟩
            rw [hRe] at y0 y1 y2 y3 y4 y5 y6 yz hR5 hloc ⊢
            generalize (w5.alloc (.cells #[.string ⟨m.toArray⟩, .string ⟨pa.toArray⟩, .string ⟨qu.toArray⟩, .int .i64 v, .slice pf rfs.length capf, .string ⟨#[]⟩, .bool rc] 27)) = w6 at y0 y1 y2 y3 y4 y5 y6 yz hF6 hg6 ⊢
            clear gA hF' g5 hRe
            have hRw6 := Lib.hid (show R < w6.heap.size from cell_lt y0)
            obtain ⟨x, hx⟩ : ∃ x, s'.drop (k + 4) = x := ⟨_, rfl⟩
            have hexx : (⟨s'.toArray⟩ : ByteArray).extract (k + 4) s'.length = ⟨x.toArray⟩ := by rw [extract_mk, List.take_of_length_le (Nat.le_refl _), hx]
            have hxl : x.length + (k + 4) = s'.length := by rw [← hx, List.length_drop]; omega
            have hul := feed_le x ck0
            have hok := ck0_feed x
            have hrd := Lib.hid (fun W => rreads_any x (by omega) W)
            unfold resC at hrd
            have hO2 := hO.out
            rw [hx] at hO2
            obtain ⟨⟨u9, c9'⟩, hfd⟩ : ∃ y, feedC ck0 x = y := ⟨_, rfl⟩
            rw [hfd] at hO2 hul hok hrd
            dsimp only at hO2 hul hok hrd
            rw [if_pos rfl] at hO2
            have hO3 := Lib.hid hO2
            have hok' := Lib.hid hok
            obtain ⟨bd, hbd⟩ : ∃ y, c9'.data = y := ⟨_, rfl⟩
            obtain ⟨bad9, hbad⟩ : ∃ y, c9'.bad = y := ⟨_, rfl⟩
            obtain ⟨dn, hdn⟩ : ∃ y, decide (c9'.st = 4 ∧ c9'.bad = 0) = y := ⟨_, rfl⟩
            have hdn' := Lib.hid hdn
            rw [hdn] at hrd
            rw [hbd, hbad] at hrd hO3
            unfold rsV at hrd
            dsimp only at hrd
            have hbad' := Lib.hid hbad
            have hu4 : (u9 : Int) ≤ x.length := by omega
            clear hx hO2 hfd hok hbd hbad hdn
            go_wp2_with fail
            refine (hrd.out _).mono ?_
            rintro e w7 ⟨rfl, hb⟩
            have hg7 := Lib.hid (hg6.out.trans hb)
            have hF7 := Lib.hid (hF6.out.gr hb)
            replace y0 := hb.cell y0
            replace y1 := hb.cell y1
            replace y2 := hb.cell y2
            replace y3 := hb.cell y3
            replace y4 := hb.cell y4
            replace y5 := hb.cell y5
            replace y6 := hb.cell y6
            replace yz := fun o => (Below.frozen hb (show (⟨R, o, none⟩ : Addr).block < w6.heap.size from hRw6.out)).trans (yz o)
            clear hb hrd hg6 hF6
            by_cases hb0 : bad9 = 0
            · subst hb0
              cases dn with
              | false =>
                have hmore := Lib.hid (show oneQ s' = .more by
                  rw [hO3.out, if_neg (by simp), if_neg]
                  intro e
                  have := of_decide_eq_false hdn'.out
                  exact this ⟨e, hbad'.out⟩)
                have hfin := Lib.hid (AllRel.end (c := 0) (t := s') hR'.out hS'.out hl' hA'.out hg'0.out (.more hmore.out) 0 rfl _ hg7.out)
                go_wp2
                refine bodyPost_ret (v := .tuple #[.slice pl xs.length capl, .int .i64 0, .string ⟨s'.toArray⟩]) ?_ rfl hfin.out
                simp [results, Tryz.results15, go_sem]
              | true =>
                have hst4 := (of_decide_eq_true hdn'.out).1
                have hO2 := Lib.hid (show oneQ s' = .got ⟨m, pa, qu, v, rfs, bd, rc⟩ (k + 4 + u9) by rw [hO3.out, if_neg (by simp), if_pos hst4])
                have hexr : (⟨s'.toArray⟩ : ByteArray).extract (k + 4 + u9) s'.length = ⟨(s'.drop (k + 4 + u9)).toArray⟩ := by rw [extract_mk, List.take_of_length_le (Nat.le_refl _)]
                have hnx := Lib.hid (fun W9 v' (h : RsW w.heap.size (xs ++ [(⟨m, pa, qu, v, rfs, bd, rc⟩, .slice pf rfs.length capf)]) v' W9) hg => AllRel.next h (hS'.out.push (fun a n' c e => by have := (hloc.out a n' c e).1; have := Below.size hg'0.out; omega)) hl' hA'.out hg hO2.out)
                have hlt9 := Lib.hid (show (s'.drop (k + 4 + u9)).length < s'.length by rw [List.length_drop]; omega)
                obtain ⟨rest, hrest⟩ : ∃ x, s'.drop (k + 4 + u9) = x := ⟨_, rfl⟩
                rw [hrest] at hexr hnx hlt9
                have huI : (k : Int) + 4 + u9 ≤ s'.length := by omega
                clear hrest hst4
                go_upto_region 17 with (fail)
                have hg8 := Lib.hid (hg7.out.setCell (p := ⟨R, 5, none⟩) hR5 (.string ⟨bd.toArray⟩))
                have z0 : (w7.setCell ⟨R, 5, none⟩ (.string ⟨bd.toArray⟩)).cell? ⟨R, 0, none⟩ = some (.string ⟨m.toArray⟩) := by simp [go_sem, y0]
                have z1 : (w7.setCell ⟨R, 5, none⟩ (.string ⟨bd.toArray⟩)).cell? ⟨R, 1, none⟩ = some (.string ⟨pa.toArray⟩) := by simp [go_sem, y1]
                have z2 : (w7.setCell ⟨R, 5, none⟩ (.string ⟨bd.toArray⟩)).cell? ⟨R, 2, none⟩ = some (.string ⟨qu.toArray⟩) := by simp [go_sem, y2]
                have z3 : (w7.setCell ⟨R, 5, none⟩ (.string ⟨bd.toArray⟩)).cell? ⟨R, 3, none⟩ = some (.int .i64 v) := by simp [go_sem, y3]
                have z4 : (w7.setCell ⟨R, 5, none⟩ (.string ⟨bd.toArray⟩)).cell? ⟨R, 4, none⟩ = some (.slice pf rfs.length capf) := by simp [go_sem, y4]
                have z5 : (w7.setCell ⟨R, 5, none⟩ (.string ⟨bd.toArray⟩)).cell? ⟨R, 5, none⟩ = some (.string ⟨bd.toArray⟩) := by simp [go_sem, y5]
                have z6 : (w7.setCell ⟨R, 5, none⟩ (.string ⟨bd.toArray⟩)).cell? ⟨R, 6, none⟩ = some (.bool rc) := by simp [go_sem, y6]
                have hF8 := Lib.hid (hF7.out.ch (Ch.setCell (T := fun k => k = R) w7 (a := ⟨R, 5, none⟩) rfl (.string ⟨bd.toArray⟩)) (fun a n' c e hk => by have := (hloc.out a n' c e).2; omega))
                have hz8 := Lib.hid (show R < (w7.setCell ⟨R, 5, none⟩ (.string ⟨bd.toArray⟩)).heap.size from cell_lt z0)
                generalize (w7.setCell ⟨R, 5, none⟩ (.string ⟨bd.toArray⟩)) = w8 at hg8 z0 z1 z2 z3 z4 z5 z6 hF8 hz8 ⊢
                have hRs8 := Lib.hid (hR'.out.gr hg8.out)
                have hsep := Lib.hid (show ∀ a n' c, Value.slice pf rfs.length capf = .slice (some a) n' c → (Value.slice pl xs.length capl).ownBlock ≠ some a.block ∧ a.block < w8.heap.size from fun a n' c e => ⟨fun e2 => by
                  have h1 := (World.ownsRow.lt hR'.out.own _ e2).2
                  have h2 := (hloc.out a n' c e).1
                  omega, by have := (hloc.out a n' c e).2; have := hz8.out; omega⟩)
                have oA : ∀ O, (w8.alloc O).ownsRow w.heap.size 27 7 (.slice pl xs.length capl) xs.length (rcells rqc xs) := fun O => World.ownsRow.alloc hRs8.out.own O
                obtain ⟨i0, hi, hi0, hi1, hib⟩ := info_parts infoReq9
                have k2 : ∀ j u, ([.string ⟨m.toArray⟩, .string ⟨pa.toArray⟩, .string ⟨qu.toArray⟩, .int .i64 v, .slice pf rfs.length capf, .string ⟨bd.toArray⟩, .bool rc] : List Value)[j]? = some u → (w8.alloc (.cells #[.string ⟨m.toArray⟩, .string ⟨pa.toArray⟩, .string ⟨qu.toArray⟩, .int .i64 v, .slice pf rfs.length capf, .string ⟨bd.toArray⟩, .bool rc] 27)).cell? ((⟨w8.heap.size, 0, none⟩ : Addr).add j) = some u := fun j u h => by rw [Addr.add_lit, Nat.zero_add]; exact cell_new7 w8 _ _ j u h
                have k3 : ∀ u ∈ ([.string ⟨m.toArray⟩, .string ⟨pa.toArray⟩, .string ⟨qu.toArray⟩, .int .i64 v, .slice pf rfs.length capf, .string ⟨bd.toArray⟩, .bool rc] : List Value), u.oneCell' = true := by simp [Value.oneCell']
                have k4 : xs.length + 1 ≤ maxLen := by unfold maxLen; omega
                have k5 : (xs.length + 1) * 104 ≤ 140737488355328 := by omega
                have k6 : w.heap.size ≤ (w8.alloc (.cells #[.string ⟨m.toArray⟩, .string ⟨pa.toArray⟩, .string ⟨qu.toArray⟩, .int .i64 v, .slice pf rfs.length capf, .string ⟨bd.toArray⟩, .bool rc] 27)).heap.size := by have := Below.size hg'0.out; have := Below.size hg8.out; simp; omega
                clear y0 y1 y2 y3 y4 y5 y6 yz
                go_wp2_with (at_builtin; refine wpList_append_own_at _ rfl _ _ 35 rfl w.heap.size 27 i0 (.agg #[.string ⟨#[]⟩, .string ⟨#[]⟩, .string ⟨#[]⟩, .int .i64 0, .slice none 0 0, .string ⟨#[]⟩, .bool false]) 7 104 Tryz.underlying35 hi hi0 hi1 hib rfl (by decide) _ _ _ rfl (oA _) ⟨w8.heap.size, 0, none⟩ 1 1 [.string ⟨m.toArray⟩, .string ⟨pa.toArray⟩, .string ⟨qu.toArray⟩, .int .i64 v, .slice pf rfs.length capf, .string ⟨bd.toArray⟩, .bool rc] rfl rfl k2 k3 k4 k5 k6 ?_)
                intro v' w9 hown hgrow _ hat
                have hRW9 := RsW.push hRs8.out (r := ⟨m, pa, qu, v, rfs, bd, rc⟩) (fv := .slice pf rfs.length capf) hF8.out hsep.out hown hgrow (hat.imp id (fun e => e.trans (by simp)))
                have hGr9 : Gr w w9 := ((hg'0.out.trans hg8.out).trans (Gr.alloc w8 _)).ch (Ch.of_grown hgrow) (fun k e => (World.ownsRow.lt hR'.out.own k e).1)
                have hrel9 := Lib.hid (hnx.out w9 v' hRW9 hGr9)
                obtain ⟨p9, c9, rfl⟩ := ownsRow_slice hown
                clear oA hi hi0 hi1 hib k2 k3 k4 k5 k6 hown hgrow hat hRW9 hGr9 z0 z1 z2 z3 z4 z5 z6
                go_wp2
                go_roundw
                case rel => exact hrel9.out
                case measure => simp only [lenOf, size_mk]; exact hlt9.out
            · have hbI : ((bad9 : Int) != 0) = true := by rw [bne_iff_ne]; omega
              have hfin := Lib.hid (AllRel.end (c := bad9) (t := []) hR'.out hS'.out hl' hA'.out hg'0.out (.bad (by rw [hO3.out, if_pos hb0])) bad9 rfl _ hg7.out)
              clear hb0
              go_wp2
              refine bodyPost_ret (v := .tuple #[.slice pl xs.length capl, .int .i64 bad9, .string ⟨#[]⟩]) ?_ rfl hfin.out
              simp [results, Tryz.results15, go_sem]
          | false =>
            rw [show (if false = true then (-1 : Int) else n) = n from rfl]
            go_upto_region 8 with (fail)
            obtain ⟨R, hRe⟩ : ∃ x, w5.heap.size = x := ⟨_, rfl⟩
            rw [hRe] at y0 y1 y2 y3 y4 y5 y6 yz hR5 hloc ⊢
            generalize (w5.alloc (.cells #[.string ⟨m.toArray⟩, .string ⟨pa.toArray⟩, .string ⟨qu.toArray⟩, .int .i64 v, .slice pf rfs.length capf, .string ⟨#[]⟩, .bool rc] 27)) = w6 at y0 y1 y2 y3 y4 y5 y6 yz hF6 hg6 ⊢
            have hn0 : ¬ (n : Int) < 0 := by omega
            clear gA hF' g5 hRe
            by_cases hs : s'.length < k + 4 + n
            · have hsI : (s'.length : Int) < (k : Int) + 4 + n := by omega
              have hfin := Lib.hid (AllRel.end (c := 0) (t := s') hR'.out hS'.out hl' hA'.out hg'0.out (.more (by rw [hO.out]; exact if_pos hs)) 0 rfl _ hg6.out)
              clear hs
              go_wp2
              refine bodyPost_ret (v := .tuple #[.slice pl xs.length capl, .int .i64 0, .string ⟨s'.toArray⟩]) ?_ rfl hfin.out
              simp [results, Tryz.results15, go_sem]
            · have hsI : ¬ (s'.length : Int) < (k : Int) + 4 + n := by omega
              have hO2 := Lib.hid (show oneQ s' = .got ⟨m, pa, qu, v, rfs, (s'.drop (k + 4)).take n, rc⟩ (k + 4 + n) by rw [hO.out]; exact if_neg hs)
              have hexb : (⟨s'.toArray⟩ : ByteArray).extract (k + 4) (k + 4 + n) = ⟨((s'.drop (k + 4)).take n).toArray⟩ := by rw [extract_mk, List.drop_take, show k + 4 + n - (k + 4) = n by omega]
              have hexr : (⟨s'.toArray⟩ : ByteArray).extract (k + 4 + n) s'.length = ⟨(s'.drop (k + 4 + n)).toArray⟩ := by rw [extract_mk, List.take_of_length_le (Nat.le_refl _)]
              obtain ⟨bd, hbd⟩ : ∃ x, (s'.drop (k + 4)).take n = x := ⟨_, rfl⟩
              rw [hbd] at hexb hO2
              have hnx := Lib.hid (fun W9 v' (h : RsW w.heap.size (xs ++ [(⟨m, pa, qu, v, rfs, bd, rc⟩, .slice pf rfs.length capf)]) v' W9) hg => AllRel.next h (hS'.out.push (fun a n' c e => by have := (hloc.out a n' c e).1; have := Below.size hg'0.out; omega)) hl' hA'.out hg hO2.out)
              have hlt9 := Lib.hid (show (s'.drop (k + 4 + n)).length < s'.length by rw [List.length_drop]; omega)
              obtain ⟨rest, hrest⟩ : ∃ x, s'.drop (k + 4 + n) = x := ⟨_, rfl⟩
              rw [hrest] at hexr hnx hlt9
              clear hbd hrest hs
              go_upto_region 21 with (fail)
              have hg8 := Lib.hid (hg6.out.setCell (p := ⟨R, 5, none⟩) hR5 (.string ⟨bd.toArray⟩))
              have z0 : (w6.setCell ⟨R, 5, none⟩ (.string ⟨bd.toArray⟩)).cell? ⟨R, 0, none⟩ = some (.string ⟨m.toArray⟩) := by simp [go_sem, y0]
              have z1 : (w6.setCell ⟨R, 5, none⟩ (.string ⟨bd.toArray⟩)).cell? ⟨R, 1, none⟩ = some (.string ⟨pa.toArray⟩) := by simp [go_sem, y1]
              have z2 : (w6.setCell ⟨R, 5, none⟩ (.string ⟨bd.toArray⟩)).cell? ⟨R, 2, none⟩ = some (.string ⟨qu.toArray⟩) := by simp [go_sem, y2]
              have z3 : (w6.setCell ⟨R, 5, none⟩ (.string ⟨bd.toArray⟩)).cell? ⟨R, 3, none⟩ = some (.int .i64 v) := by simp [go_sem, y3]
              have z4 : (w6.setCell ⟨R, 5, none⟩ (.string ⟨bd.toArray⟩)).cell? ⟨R, 4, none⟩ = some (.slice pf rfs.length capf) := by simp [go_sem, y4]
              have z5 : (w6.setCell ⟨R, 5, none⟩ (.string ⟨bd.toArray⟩)).cell? ⟨R, 5, none⟩ = some (.string ⟨bd.toArray⟩) := by simp [go_sem, y5]
              have z6 : (w6.setCell ⟨R, 5, none⟩ (.string ⟨bd.toArray⟩)).cell? ⟨R, 6, none⟩ = some (.bool rc) := by simp [go_sem, y6]
              have hF8 := Lib.hid (hF6.out.ch (Ch.setCell (T := fun k => k = R) w6 (a := ⟨R, 5, none⟩) rfl (.string ⟨bd.toArray⟩)) (fun a n' c e hk => by have := (hloc.out a n' c e).2; omega))
              have hz8 := Lib.hid (show R < (w6.setCell ⟨R, 5, none⟩ (.string ⟨bd.toArray⟩)).heap.size from cell_lt z0)
              generalize (w6.setCell ⟨R, 5, none⟩ (.string ⟨bd.toArray⟩)) = w8 at hg8 z0 z1 z2 z3 z4 z5 z6 hF8 hz8 ⊢
              have hRs8 := Lib.hid (hR'.out.gr hg8.out)
              have hsep := Lib.hid (show ∀ a n' c, Value.slice pf rfs.length capf = .slice (some a) n' c → (Value.slice pl xs.length capl).ownBlock ≠ some a.block ∧ a.block < w8.heap.size from fun a n' c e => ⟨fun e2 => by
                have h1 := (World.ownsRow.lt hR'.out.own _ e2).2
                have h2 := (hloc.out a n' c e).1
                omega, by have := (hloc.out a n' c e).2; have := hz8.out; omega⟩)
              have oA : ∀ O, (w8.alloc O).ownsRow w.heap.size 27 7 (.slice pl xs.length capl) xs.length (rcells rqc xs) := fun O => World.ownsRow.alloc hRs8.out.own O
              obtain ⟨i0, hi, hi0, hi1, hib⟩ := info_parts infoReq9
              have k2 : ∀ j u, ([.string ⟨m.toArray⟩, .string ⟨pa.toArray⟩, .string ⟨qu.toArray⟩, .int .i64 v, .slice pf rfs.length capf, .string ⟨bd.toArray⟩, .bool rc] : List Value)[j]? = some u → (w8.alloc (.cells #[.string ⟨m.toArray⟩, .string ⟨pa.toArray⟩, .string ⟨qu.toArray⟩, .int .i64 v, .slice pf rfs.length capf, .string ⟨bd.toArray⟩, .bool rc] 27)).cell? ((⟨w8.heap.size, 0, none⟩ : Addr).add j) = some u := fun j u h => by rw [Addr.add_lit, Nat.zero_add]; exact cell_new7 w8 _ _ j u h
              have k3 : ∀ u ∈ ([.string ⟨m.toArray⟩, .string ⟨pa.toArray⟩, .string ⟨qu.toArray⟩, .int .i64 v, .slice pf rfs.length capf, .string ⟨bd.toArray⟩, .bool rc] : List Value), u.oneCell' = true := by simp [Value.oneCell']
              have k4 : xs.length + 1 ≤ maxLen := by unfold maxLen; omega
              have k5 : (xs.length + 1) * 104 ≤ 140737488355328 := by omega
              have k6 : w.heap.size ≤ (w8.alloc (.cells #[.string ⟨m.toArray⟩, .string ⟨pa.toArray⟩, .string ⟨qu.toArray⟩, .int .i64 v, .slice pf rfs.length capf, .string ⟨bd.toArray⟩, .bool rc] 27)).heap.size := by have := Below.size hg'0.out; have := Below.size hg8.out; simp; omega
              clear y0 y1 y2 y3 y4 y5 y6 yz
              go_wp2_with (at_builtin; refine wpList_append_own_at _ rfl _ _ 35 rfl w.heap.size 27 i0 (.agg #[.string ⟨#[]⟩, .string ⟨#[]⟩, .string ⟨#[]⟩, .int .i64 0, .slice none 0 0, .string ⟨#[]⟩, .bool false]) 7 104 Tryz.underlying35 hi hi0 hi1 hib rfl (by decide) _ _ _ rfl (oA _) ⟨w8.heap.size, 0, none⟩ 1 1 [.string ⟨m.toArray⟩, .string ⟨pa.toArray⟩, .string ⟨qu.toArray⟩, .int .i64 v, .slice pf rfs.length capf, .string ⟨bd.toArray⟩, .bool rc] rfl rfl k2 k3 k4 k5 k6 ?_)
              intro v' w9 hown hgrow _ hat
              have hRW9 := RsW.push hRs8.out (r := ⟨m, pa, qu, v, rfs, bd, rc⟩) (fv := .slice pf rfs.length capf) hF8.out hsep.out hown hgrow (hat.imp id (fun e => e.trans (by simp)))
              have hGr9 : Gr w w9 := ((hg'0.out.trans hg8.out).trans (Gr.alloc w8 _)).ch (Ch.of_grown hgrow) (fun k e => (World.ownsRow.lt hR'.out.own k e).1)
              have hrel9 := Lib.hid (hnx.out w9 v' hRW9 hGr9)
              obtain ⟨p9, c9, rfl⟩ := ownsRow_slice hown
              clear oA hi hi0 hi1 hib k2 k3 k4 k5 k6 hown hgrow hat hRW9 hGr9 z0 z1 z2 z3 z4 z5 z6
              go_wp2
              go_roundw
              case rel => exact hrel9.out
              case measure => simp only [lenOf, size_mk]; exact hlt9.out
      · have h4I : ¬ (k : Int) + 4 ≤ 2048 := by omega
        have h4K : (2048 : Int) < (k : Int) + 4 := by omega
        have h4J : ¬ (k : Int) + 4 < 0 := by omega
        have hO := Lib.hid (show oneQ s' = if 2048 ≤ s'.length then .bad 431 else .more by unfold oneQ; rw [hk, if_neg (by simp; omega)])
        have hlong : 2048 ≤ s'.length := by omega
        have hlI : (2048 : Int) ≤ s'.length := by omega
        have hfin := Lib.hid (AllRel.end (c := 431) (t := []) hR'.out hS'.out hl' hA'.out hg'0.out (.bad (by rw [hO.out, if_pos hlong])) 431 rfl _ (Gr.refl _))
        clear hk hee h0 hlong h4
        go_wp2_with fail
        refine hend.out.mono ?_
        rintro e w3 ⟨rfl, rfl⟩
        clear hend
        go_wp2
        refine bodyPost_ret (v := .tuple #[.slice pl xs.length capl, .int .i64 431, .string ⟨#[]⟩]) ?_ rfl hfin.out
        simp [results, Tryz.results15, go_sem]
    · have hee : endQ s' = -1 := by unfold endQ; rw [if_neg h0]
      have hO := Lib.hid (show oneQ s' = if 2048 ≤ s'.length then .bad 431 else .more by unfold oneQ; rw [if_neg (by simp; omega)])
      rw [hee] at hend
      by_cases hlong : 2048 ≤ s'.length
      · have hlI : (2048 : Int) ≤ s'.length := by omega
        have hfin := Lib.hid (AllRel.end (c := 431) (t := []) hR'.out hS'.out hl' hA'.out hg'0.out (.bad (by rw [hO.out, if_pos hlong])) 431 rfl _ (Gr.refl _))
        clear hee h0 hlong
        go_wp2_with fail
        refine hend.out.mono ?_
        rintro e w3 ⟨rfl, rfl⟩
        clear hend
        go_wp2
        refine bodyPost_ret (v := .tuple #[.slice pl xs.length capl, .int .i64 431, .string ⟨#[]⟩]) ?_ rfl hfin.out
        simp [results, Tryz.results15, go_sem]
      · have hlI : ¬ (2048 : Int) ≤ s'.length := by omega
        have hfin := Lib.hid (AllRel.end (c := 0) (t := s') hR'.out hS'.out hl' hA'.out hg'0.out (.more (by rw [hO.out, if_neg hlong])) 0 rfl _ (Gr.refl _))
        clear hee h0 hlong
        go_wp2_with fail
        refine hend.out.mono ?_
        rintro e w3 ⟨rfl, rfl⟩
        clear hend
        go_wp2
        refine bodyPost_ret (v := .tuple #[.slice pl xs.length capl, .int .i64 0, .string ⟨s'.toArray⟩]) ?_ rfl hfin.out
        simp [results, Tryz.results15, go_sem]
end Go.Proofs.YtpncfeaaffgkfaaGreatDoor
