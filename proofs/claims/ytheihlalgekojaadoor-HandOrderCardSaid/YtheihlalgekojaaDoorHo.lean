/-
  The walk over HandOrder.
-/
import Derived.Test.YtheihlalgekojaaDoorHh
import Derived.Test.YtheihlalgekojaaDoorP21
import Derived.Test.YtheihlalgekojaaDoorP23
import Derived.Test.YtheihlalgekojaaDoorHm
import Derived.IntWalk
import Derived.Deep.RegionLaw
namespace Go.Proofs.YtheihlalgekojaaDoor
open Go.RowKit
attribute [local go_sem] Oper.semAt_some
theorem OwnF.gr {B : Nat} {w w' : World} {v : Value} {fs : List Fl} (h : OwnF B w v fs) (g : Gr w w') : OwnF B w' v fs := h.ch (g.to_ch (fun _ => False)) (fun _ h => h.elim)
theorem FTab.some_all {b : Nat} {W : World} {fs : List Fl} (h : FTab b W fs) : ∀ i, (hi : i < fs.length) → W.cell? ⟨b, 0 + i * 2, none⟩ = some (.string ⟨fs[i].1.toArray⟩) ∧ W.cell? ⟨b, 0 + i * 2 + 1, none⟩ = some (.string ⟨fs[i].2.toArray⟩) := fun i hi => by
  rw [Nat.zero_add]
  exact h i hi
theorem ReqAt.sets {b : Nat} {W : World} {m p q : List UInt8} {v : Int} {s : Value} {bd : List UInt8} {c : Bool} (h : ReqAt b W m p q v s bd c) (u : Value) : ReqAt b (W.setCell ⟨b, 4, none⟩ u) m p q v u bd c :=
  ⟨cell_off h.c0 (by decide), cell_off h.c1 (by decide), cell_off h.c2 (by decide), cell_off h.c3 (by decide), cell_set_same h.c4, cell_off h.c5 (by decide), cell_off h.c6 (by decide), fun o => frozen_set.trans (h.fz o)⟩
theorem ReqAt.below {b B : Nat} {W W' : World} {m p q : List UInt8} {v : Int} {s : Value} {bd : List UInt8} {c : Bool} (h : ReqAt b W m p q v s bd c) (g : Below B W W') (hb : b < B) : ReqAt b W' m p q v s bd c :=
  ⟨(g.cell (p := ⟨b, 0, none⟩) hb).trans h.c0, (g.cell (p := ⟨b, 1, none⟩) hb).trans h.c1, (g.cell (p := ⟨b, 2, none⟩) hb).trans h.c2, (g.cell (p := ⟨b, 3, none⟩) hb).trans h.c3, (g.cell (p := ⟨b, 4, none⟩) hb).trans h.c4, (g.cell (p := ⟨b, 5, none⟩) hb).trans h.c5, (g.cell (p := ⟨b, 6, none⟩) hb).trans h.c6, fun o => (g.frozen (p := ⟨b, o, none⟩) hb).trans (h.fz o)⟩
theorem ord_len (fs : List Fl) (k : Nat) : ∀ m, (ordL fs k m).length = m * 2
  | 0 => rfl
  | m + 1 => by rw [ordL, List.length_append, ord_len fs k m]; simp; omega
theorem ord_short {fs : List Fl} (h1 : fs.length ≤ 40) (h2 : ∀ f ∈ fs, f.1.length ≤ 200 ∧ f.2.length ≤ 200) (k : Nat) : Short (ordL fs k fs.length) := by
  refine ⟨by rw [ord_len]; omega, ?_⟩
  have : ∀ m, ∀ f ∈ ordL fs k m, f.1.length ≤ 200 ∧ f.2.length ≤ 200 := by
    intro m
    induction m with
    | zero => intro f hf; cases hf
    | succ m ih =>
      intro f hf
      rw [ordL, List.mem_append] at hf
      rcases hf with hf | hf
      · exact ih f hf
      · simp only [List.mem_cons, List.mem_nil_iff, or_false] at hf
        rcases hf with rfl | rfl
        · exact ⟨by decide, by decide⟩
        · rw [List.getD_eq_getElem?_getD]
          cases e : fs[(m + k) % fs.length]? with
          | none => exact ⟨by decide, by decide⟩
          | some g => exact h2 g (List.mem_of_getElem? e)
  intro f hf
  have := this _ f hf
  omega
set_option maxHeartbeats 8000000 in
set_option maxRecDepth 20000 in
theorem order_any (r : Rq) (t : Value) (turn : Int) (p q b : List UInt8) (w : World) (hG : G w) (hf : FieldsAt w t r.fs) (hlf : r.fs.length ≤ 9223372036854775807)
    (ht1 : -9223372036854775808 ≤ turn) (ht2 : turn ≤ 9223372036854775807) :
    Calls Tryd.prog 4 #[r.V t, .int .i64 turn, .string ⟨p.toArray⟩, .string ⟨q.toArray⟩, .string ⟨b.toArray⟩] w fun e w' => e = .returned (.bool true) ∧ Gr w w' := by
  have hG' := Lib.hid hG
  have hf' := Lib.hid hf
  obtain ⟨pp, cap, rfl, hc⟩ := hf
  have hcH := Lib.hid hc
  clear hc
  have hgr := Lib.hid (fun W (hg : Gr w W) => great_any (.slice pp r.fs.length cap) r W (hf'.out.gr hg) hlf)
  obtain ⟨m, pa, qq, ver, fs, bd, cl⟩ := r
  unfold Rq.V at hgr ⊢
  dsimp only at hgr hf' hlf hcH ⊢
  clear hG
  go_enter Tryd.func4, Tryd.ntmps4
  go_wp2_with fail
  have rb := Lib.hid (reqAt_new w m pa qq ver (.slice pp fs.length cap) bd cl 27)
  have g0 := Lib.hid (Gr.alloc w (.cells #[.string ⟨m.toArray⟩, .string ⟨pa.toArray⟩, .string ⟨qq.toArray⟩, .int .i64 ver, .slice pp fs.length cap, .string ⟨bd.toArray⟩, .bool cl] 27))
  generalize w.alloc (.cells #[.string ⟨m.toArray⟩, .string ⟨pa.toArray⟩, .string ⟨qq.toArray⟩, .int .i64 ver, .slice pp fs.length cap, .string ⟨bd.toArray⟩, .bool cl] 27) = w0 at rb g0 ⊢
  refine (hgr.out _ g0.out).mono ?_
  rintro e w1 ⟨gr, rfl, hsm, g1⟩
  have g1' := Lib.hid (g0.out.trans g1)
  cases gr with
  | true =>
    go_wp2_with fail
    refine (wakes_any _ (hG'.out.gr g1'.out)).mono ?_
    rintro e w2 ⟨rfl, g2⟩
    go_wp2
    go_ret
    exact ⟨rfl, g1'.out.trans g2⟩
  | false =>
    have hsm' := Lib.hid (hsm rfl)
    have hn40 : fs.length ≤ 40 := hsm'.out.1
    have r1 := Lib.hid (rb.out.gr g1)
    have c0 := r1.out.c0
    have c1 := r1.out.c1
    have c2 := r1.out.c2
    have c3 := r1.out.c3
    have c4 := r1.out.c4
    have c5 := r1.out.c5
    have c6 := r1.out.c6
    have hrl : w.heap.size < w1.heap.size := cell_lt c0
    clear hsm g1 rb hgr
    go_wp2_with fail
    have qb := Lib.hid (reqAt_new w1 m p q ver (.slice none 0 0) b cl 27)
    have g2 := Lib.hid (Gr.alloc w1 (.cells #[.string ⟨m.toArray⟩, .string ⟨p.toArray⟩, .string ⟨q.toArray⟩, .int .i64 ver, .slice none 0 0, .string ⟨b.toArray⟩, .bool cl] 27))
    have hz2 : ((w1.alloc (.cells #[.string ⟨m.toArray⟩, .string ⟨p.toArray⟩, .string ⟨q.toArray⟩, .int .i64 ver, .slice none 0 0, .string ⟨b.toArray⟩, .bool cl] 27))).heap.size = w1.heap.size + 1 := by simp
    generalize (w1.alloc (.cells #[.string ⟨m.toArray⟩, .string ⟨p.toArray⟩, .string ⟨q.toArray⟩, .int .i64 ver, .slice none 0 0, .string ⟨b.toArray⟩, .bool cl] 27)) = w2 at qb g2 hz2 ⊢
    have hz2' := Lib.hid hz2
    obtain ⟨K, hK⟩ : ∃ K : Nat, (turn % (fs.length : Int)).toNat = K := ⟨_, rfl⟩
    have hK' := Lib.hid hK
    have hfs := Lib.hid (hf'.out.gr g1'.out)
    clear hz2 hK c0 c1 c2 c3 c4 c5 c6
    go_loopw [13] (fun i wr => ∃ k : Nat, k ≤ fs.length ∧ i = .int .i64 k ∧ ∃ sv, ReqAt w1.heap.size wr m p q ver sv b cl ∧ OwnF (w1.heap.size + 1) wr sv (ordL fs K k) ∧ Gr w1 wr) (fun i _ => fs.length - (intOf i).toNat)
    case atStart => exact ⟨0, Nat.zero_le _, rfl, _, qb.out, World.ownsRow_nil _ _ _ _, g2.out⟩
    case round =>
      obtain ⟨k, hk, rfl, sv, hq, ho, hg⟩ := hrel
      have hq' := Lib.hid hq
      have ho' := Lib.hid ho
      have hg' := Lib.hid hg
      by_cases hlt : k < fs.length
      · have hn0 : ((fs.length : Int) == 0) = false := beq_eq_false_iff_ne.2 (by omega)
        have hn1 : (fs.length : Int) ≠ 0 := by omega
        have hfn : ¬ fs = [] := fun e => by rw [e] at hlt; simp at hlt
        obtain ⟨T, hT⟩ : ∃ T, turn.tmod fs.length = T := ⟨_, rfl⟩
        have hTb : -(fs.length : Int) < T ∧ T < fs.length := by
          rw [← hT]
          exact ⟨by have := Int.lt_tmod_of_pos turn (show (0 : Int) < fs.length by omega); omega, Int.tmod_lt_of_pos turn (by omega)⟩
        have hTb1 : -41 < T := by omega
        have hTb2 : T < 41 := by omega
        have hTb3 := hTb.1
        have hTb4 := hTb.2
        obtain ⟨pv, cv, rfl, _⟩ := ho.at
        have d4 := hq.c4
        have e4 : wr.cell? ⟨w.heap.size, 4, none⟩ = some (.slice pp fs.length cap) := hg.cell r1.out.c4
        clear hq ho hg hTb
        have hKb : K < fs.length := by have := Int.emod_lt_of_pos turn (show (0 : Int) < fs.length by omega); have := Int.emod_nonneg turn hn1; have := hK'.out; omega
        obtain ⟨j, hj⟩ : ∃ j, (k + K) % fs.length = j := ⟨_, rfl⟩
        have hjl : j < fs.length := hj ▸ Nat.mod_lt _ (by omega)
        obtain ⟨bf, off, rfl, f1, f2⟩ := hcH.out j hjl
        have hww : Gr w wr := g1'.out.trans hg'.out
        replace f1 := hww.cell f1
        replace f2 := hww.cell f2
        obtain ⟨⟨xn, xv⟩, hx⟩ : ∃ x, fs[j] = x := ⟨_, rfl⟩
        rw [hx] at f1 f2
        dsimp only at f1 f2
        have hx' := Lib.hid hx
        have hj' := Lib.hid hj
        have hw2 : (k : Int) + K = ((k + K : Nat) : Int) := by omega
        have hw1 : IntKind.i64.wrap ((k : Int) + K) = (k : Int) + K := IntWalk.i64_in _ (by omega)
        have hjm : ((k : Int) + K).tmod fs.length = (j : Int) := by
          rw [hw2, ← hj]; rfl
        have hjI : (j : Int) < fs.length := by omega
        have hj0 : (0 : Int) ≤ j := by omega
        obtain ⟨l, hl⟩ : ∃ l, (ordL fs K k).length = l := ⟨_, rfl⟩
        have hll := Lib.hid hl
        have hl2 := Lib.hid (show l + 2 ≤ 1000000 by rw [← hl, ord_len]; omega)
        have hqB := Lib.hid (show w1.heap.size + 1 ≤ wr.heap.size from cell_lt d4)
        have ho2 := Lib.hid (show OwnF (w1.heap.size + 1) wr (.slice pv l cv) (ordL fs K k) from hl ▸ ho'.out)
        rw [hl] at d4
        have hlq : w1.heap.size < wr.heap.size := cell_lt d4
        have hlw : w.heap.size < wr.heap.size := cell_lt e4
        have hlf : bf < wr.heap.size := cell_lt f1
        have hTK : (T < 0 ∧ T + fs.length = K) ∨ (¬ T < 0 ∧ T = K) := by
          rw [← hT]
          refine tmod_turn turn fs.length K (by omega) ?_
          have := hK'.out
          have := Int.emod_nonneg turn hn1
          omega
        have hnext := Lib.hid (show ∀ (w9 : World) (p9 : Option Addr) (cap9 : Nat), OwnF (w1.heap.size + 1) w9 (.slice p9 (l + 2) cap9) (ordL fs K k ++ [othF, (xn, xv)]) → Below (w1.heap.size + 1) wr w9 →
            ReqAt w1.heap.size (w9.setCell ⟨w1.heap.size, 4, none⟩ (.slice p9 (l + 2) cap9)) m p q ver (.slice p9 (l + 2) cap9) b cl ∧ OwnF (w1.heap.size + 1) (w9.setCell ⟨w1.heap.size, 4, none⟩ (.slice p9 (l + 2) cap9)) (.slice p9 (l + 2) cap9) (ordL fs K (k + 1)) ∧ Gr w1 (w9.setCell ⟨w1.heap.size, 4, none⟩ (.slice p9 (l + 2) cap9)) from fun w9 p9 cap9 ho9 hb9 => by
          refine ⟨(hq'.out.below hb9 (Nat.lt_succ_self _)).sets _, ?_, ?_⟩
          · have e : ordL fs K (k + 1) = ordL fs K k ++ [othF, (xn, xv)] := by
              rw [ordL, hj'.out, ← hx'.out]; simp [List.getD, hjl]
            rw [e]
            exact ho9.put (fun e => by have := (World.ownsRow.lt ho9 _ e).1; dsimp only at this; omega) _
          · exact Gr.setCell (Below.trans hg'.out (Below.mono hb9 (Nat.le_succ _))) (Nat.le_refl _) _)
        clear hx hj hl hfs hww hw2
        rcases hTK with ⟨hneg, hTe⟩ | ⟨hneg, hTe⟩
        · go_upto_region 16 with (fail)
          go_region_law (refine step_fields (by rfl) (.tmp 53) (.tmp 64) (by rfl) (w1.heap.size + 1) (.slice pv l cv) (ordL fs K k) (by rfl) (World.ownsRow.drew (World.ownsRow.alloc ho2.out _)) wr.heap.size 0 2 2 [othF, (xn, xv)] (by rfl) (by rfl) ((ftab_new wr [othF, (xn, xv)] 30).some_all) (l + 2) (by rw [hll.out]) hl2.out (Nat.le_trans hqB.out (by simp)) ?_; intro p9 cap9 w9 hown9 hb9; have hb8 := Below.trans (Below.drew ((Below.refl _ wr).alloc hqB.out _)) hb9; have c9 := (hq'.out.below hb8 (Nat.lt_succ_self _)).c4; have z9 := (hq'.out.below hb8 (Nat.lt_succ_self _)).fz 4)
          all_goals go_wp2
          all_goals go_roundw
          all_goals first
            | exact ⟨k + 1, by omega, by go_num, _, hnext.out _ _ _ hown9 hb8⟩
            | (simp [intOf]; omega)
        · subst hTe
          go_upto_region 16 with (fail)
          go_region_law (refine step_fields (by rfl) (.tmp 53) (.tmp 64) (by rfl) (w1.heap.size + 1) (.slice pv l cv) (ordL fs K k) (by rfl) (World.ownsRow.drew (World.ownsRow.alloc ho2.out _)) wr.heap.size 0 2 2 [othF, (xn, xv)] (by rfl) (by rfl) ((ftab_new wr [othF, (xn, xv)] 30).some_all) (l + 2) (by rw [hll.out]) hl2.out (Nat.le_trans hqB.out (by simp)) ?_; intro p9 cap9 w9 hown9 hb9; have hb8 := Below.trans (Below.drew ((Below.refl _ wr).alloc hqB.out _)) hb9; have c9 := (hq'.out.below hb8 (Nat.lt_succ_self _)).c4; have z9 := (hq'.out.below hb8 (Nat.lt_succ_self _)).fz 4)
          all_goals go_wp2
          all_goals go_roundw
          all_goals first
            | exact ⟨k + 1, by omega, by go_num, _, hnext.out _ _ _ hown9 hb8⟩
            | (simp [intOf]; omega)
      · obtain rfl : k = fs.length := by omega
        obtain ⟨pv, cv, rfl, _⟩ := ho.at
        have hrw := Lib.hid (r1.out.gr hg)
        have hww := Lib.hid (g1'.out.trans hg)
        have hmm := @run_makeMap Tryd.prog
        have hlq : w1.heap.size < wr.heap.size := cell_lt hq.c4
        clear hq ho hg
        obtain ⟨L, hL⟩ : ∃ L, ordL fs K fs.length = L := ⟨_, rfl⟩
        rw [hL] at hq' ho'
        have hL' := Lib.hid hL
        have hsL := Lib.hid (show Short L from hL ▸ ord_short hsm'.out.1 hsm'.out.2 K)
        have hsF := Lib.hid (show Short fs from ⟨by omega, fun f hf => by have := hsm'.out.2 f hf; omega⟩)
        clear hL
        obtain ⟨wx, rfl⟩ : ∃ x, x = wr := ⟨wr, rfl⟩
        go_wp2
        have hseen := Lib.hid (seen_new wx fs)
        have hgm := Lib.hid (Gr.alloc wx (.map #[] 0))
        have hmb' : ∃ mb, wx.heap.size = mb := ⟨_, rfl⟩
        obtain ⟨mb, hmb⟩ := hmb'
        rw [hmb] at hseen ⊢
        have hmb2 := Lib.hid hmb
        clear hmb
        generalize wx.alloc (.map #[] 0) = wm at hseen hgm ⊢
        go_loopw [16] (fun i W => ∃ j : Nat, j ≤ fs.length ∧ i = .int .i64 j ∧ Seen mb W fs j ∧ Gr wx W) (fun i _ => fs.length - (intOf i).toNat)
        case atStart => exact ⟨0, Nat.zero_le _, rfl, hseen.out, hgm.out⟩
        case round =>
          obtain ⟨j, hj, rfl, hs, hg9⟩ := hrel
          have hs' := Lib.hid hs
          have hg9' := Lib.hid hg9
          by_cases hlt : j < fs.length
          · obtain ⟨bf, off, rfl, f1, f2⟩ := hcH.out j hlt
            have hxl : (fs[j].1).length ≤ 200 := (hsm'.out.2 _ (List.getElem_mem hlt)).1
            have hst := Lib.hid (fun (W : World) (h : Seen mb W fs j) => h.step hlt hn40 (show (fs[j].1.map lower).length ≤ 1000000 by rw [List.length_map]; omega))
            have hlk := Lib.hid (fun (W : World) (h : Seen mb W fs j) => h.look (fs[j].1.map lower) (show (fs[j].1.map lower).length ≤ 1000000 by rw [List.length_map]; omega))
            obtain ⟨xn, hx⟩ : ∃ x, fs[j].1 = x := ⟨_, rfl⟩
            rw [hx] at f1 hst hlk hxl
            obtain ⟨kk, hkk⟩ : ∃ kk, xn.map lower = kk := ⟨_, rfl⟩
            rw [hkk] at hst hlk
            obtain ⟨c, hc⟩ : ∃ c, cntTo fs j kk = c := ⟨_, rfl⟩
            have hcb : c ≤ 40 := by
              rw [← hc]; unfold cntTo
              exact Nat.le_trans (List.length_filter_le _ _) (by rw [List.length_take]; omega)
            rw [hc] at hst hlk
            have hkk' := Lib.hid hkk
            have hcw : IntKind.i64.wrap ((c : Int) + 1) = (c : Int) + 1 := IntWalk.i64_in _ (by omega)
            have d4 : wr.cell? ⟨w.heap.size, 4, none⟩ = some (.slice (some ⟨bf, off, none⟩) fs.length cap) := hg9.cell hrw.out.c4
            have e1 := (hww.out.trans hg9).cell f1
            have hgW := Lib.hid (show Gr w wr from hww.out.trans hg9)
            have hjI : (j : Int) < fs.length := by omega
            clear hs hg9 hx f1 f2 hc hkk
            go_wp2_with fail
            refine (low_any xn _ (by omega)).mono ?_
            rintro e w3 ⟨rfl, g3⟩
            rw [hkk'.out]
            have q1 := hlk.out _ (hs'.out.gr g3)
            obtain ⟨w4, q2, hs4, g4⟩ := hst.out _ (hs'.out.gr g3)
            have hs4' := Lib.hid hs4
            have hg4 := Lib.hid (show Gr wx w4 from Below.grown (hg9'.out.trans g3) g4 (Below.size (hg9'.out.trans g3)) (fun k e => by injection e with e; rw [← e, ← hmb2.out]; exact Nat.le_refl _))
            clear hs4 g4 g3
            go_wp2
            go_roundw
            case rel => exact ⟨j + 1, by omega, by go_num, hs4'.out, hg4.out⟩
            case measure => simp [intOf]; omega
          · obtain rfl : j = fs.length := by omega
            have n1 : kHost.map lower = [104, 111, 115, 116] := by decide +kernel
            have n2 : kKey.map lower = [115, 101, 99, 45, 119, 101, 98, 115, 111, 99, 107, 101, 116, 45, 107, 101, 121] := by decide +kernel
            have n3 : kVer.map lower = [115, 101, 99, 45, 119, 101, 98, 115, 111, 99, 107, 101, 116, 45, 118, 101, 114, 115, 105, 111, 110] := by decide +kernel
            have l1 := hs.look [104, 111, 115, 116] (by decide)
            have l2 := hs.look [115, 101, 99, 45, 119, 101, 98, 115, 111, 99, 107, 101, 116, 45, 107, 101, 121] (by decide)
            have l3 := hs.look [115, 101, 99, 45, 119, 101, 98, 115, 111, 99, 107, 101, 116, 45, 118, 101, 114, 115, 105, 111, 110] (by decide)
            rw [← n1, seen_cnt, n1] at l1
            rw [← n2, seen_cnt, n2] at l2
            rw [← n3, seen_cnt, n3] at l3
            obtain ⟨cH, hcH2⟩ : ∃ c, cntB fs kHost = c := ⟨_, rfl⟩
            obtain ⟨cK, hcK2⟩ : ∃ c, cntB fs kKey = c := ⟨_, rfl⟩
            obtain ⟨cV, hcV2⟩ : ∃ c, cntB fs kVer = c := ⟨_, rfl⟩
            rw [hcH2] at l1
            rw [hcK2] at l2
            rw [hcV2] at l3
            have hcH' := Lib.hid hcH2
            have hcK' := Lib.hid hcK2
            have hcV' := Lib.hid hcV2
            have qn := Lib.hid (hq'.out.gr hg9)
            have rn := Lib.hid (hrw.out.gr hg9)
            have fn := Lib.hid ((ho'.out.gr hg9).at)
            have rf := Lib.hid (hf'.out.gr (hww.out.trans hg9))
            have hgW := Lib.hid (show Gr w wr from hww.out.trans hg9)
            clear hs hg9 hcH2 hcK2 hcV2 n1 n2 n3
            have hKb := Lib.hid (show 0 < fs.length → K < fs.length from fun h0 => by
              have hn1 : (fs.length : Int) ≠ 0 := by omega
              have := Int.emod_lt_of_pos turn (show (0 : Int) < fs.length by omega); have := Int.emod_nonneg turn hn1; have := hK'.out; omega)
            have hx : (1 < cH ∨ 1 < cK ∨ 1 < cV) ∨ ¬ (1 < cH ∨ 1 < cK ∨ 1 < cV) := Classical.em _
            rcases hx with hx | hx
            · have hbad := Lib.hid (show 1 < cntB fs kHost ∨ 1 < cntB fs kKey ∨ 1 < cntB fs kVer by rw [hcH'.out, hcK'.out, hcV'.out]; exact hx)
              have h0 : 0 < fs.length := by
                have h3 : ∀ n, cntB fs n ≤ fs.length := fun n => List.length_filter_le _ _
                have := h3 kHost; have := h3 kKey; have := h3 kVer
                rcases hbad.out with h | h | h <;> omega
              have hck1 := Lib.hid (show checkB ⟨m, p, q, ver, L, b, cl⟩ = ([], 400) from hL'.out ▸ ord_bad ⟨m, pa, qq, ver, fs, bd, cl⟩ p q b K (hKb.out h0) hbad.out)
              have hck2 := Lib.hid (many_bad (r := ⟨m, pa, qq, ver, fs, bd, cl⟩) hbad.out)
              have h3 : (1 < (cH : Int)) ∨ (¬ 1 < (cH : Int) ∧ 1 < (cK : Int)) ∨ (¬ 1 < (cH : Int) ∧ ¬ 1 < (cK : Int) ∧ 1 < (cV : Int)) := by omega
              have b0 := qn.out.c0
              have b1 := qn.out.c1
              have b2 := qn.out.c2
              have b3 := qn.out.c3
              have b4 := qn.out.c4
              have b5 := qn.out.c5
              have b6 := qn.out.c6
              clear hx h0
              rcases h3 with t1 | ⟨t1, t2⟩ | ⟨t1, t2, t3⟩
              all_goals
                go_wp2_with fail
                refine (check_is (r := ⟨m, p, q, ver, L, b, cl⟩) hck1.out _ _ (hG'.out.gr hgW.out) fn.out hsL.out).mono ?_
                rintro e wy ⟨rfl, gy⟩
                have ry := rn.out.gr gy
                have d0 := ry.c0
                have d1 := ry.c1
                have d2 := ry.c2
                have d3 := ry.c3
                have d4 := ry.c4
                have d5 := ry.c5
                have d6 := ry.c6
                have gy' := Lib.hid (hgW.out.trans gy)
                have rf' := Lib.hid (rf.out.gr gy)
                clear ry gy
                unfold ckV
                go_wp2_with fail
                refine (check_is (r := ⟨m, pa, qq, ver, fs, bd, cl⟩) hck2.out _ _ (hG'.out.gr gy'.out) rf'.out hsF.out).mono ?_
                rintro e wz ⟨rfl, gz⟩
                have gz' := Lib.hid (gy'.out.trans gz)
                clear gz
                unfold ckV
                go_wp2_with fail
                refine (wakes_any _ (hG'.out.gr gz'.out)).mono ?_
                rintro e wu ⟨rfl, gu⟩
                have gu' := Lib.hid (gz'.out.trans gu)
                clear gu
                go_wp2
                go_ret
                exact ⟨rfl, gu'.out⟩
            · have t1 : ¬ 1 < (cH : Int) := by omega
              have t2 : ¬ 1 < (cK : Int) := by omega
              have t3 : ¬ 1 < (cV : Int) := by omega
              obtain ⟨⟨xa, xc⟩, hxx⟩ : ∃ x, checkB ⟨m, pa, qq, ver, fs, bd, cl⟩ = x := ⟨_, rfl⟩
              have hck2 := Lib.hid hxx
              have hck1 := Lib.hid (show checkB ⟨m, p, q, ver, L, b, cl⟩ = (xa, xc) from by
                rw [← hL'.out, ← hxx]
                by_cases h0 : 0 < fs.length
                · exact ord_check ⟨m, pa, qq, ver, fs, bd, cl⟩ p q b K (hKb.out h0) (by rw [hcH'.out]; omega) (by rw [hcK'.out]; omega) (by rw [hcV'.out]; omega)
                · have hfe : fs = [] := List.eq_nil_of_length_eq_zero (by omega)
                  have := ord_none ⟨m, pa, qq, ver, fs, bd, cl⟩ p q b hfe
                  rw [← this, hfe]; rfl)
              have d0 := rn.out.c0
              have d1 := rn.out.c1
              have d2 := rn.out.c2
              have d3 := rn.out.c3
              have d4 := rn.out.c4
              have d5 := rn.out.c5
              have d6 := rn.out.c6
              clear hx hxx
              go_wp2_with fail
              refine (check_is (r := ⟨m, pa, qq, ver, fs, bd, cl⟩) hck2.out _ _ (hG'.out.gr hgW.out) rf.out hsF.out).mono ?_
              rintro e wy ⟨rfl, gy⟩
              have ry := qn.out.gr gy
              have b0 := ry.c0
              have b1 := ry.c1
              have b2 := ry.c2
              have b3 := ry.c3
              have b4 := ry.c4
              have b5 := ry.c5
              have b6 := ry.c6
              have gy' := Lib.hid (hgW.out.trans gy)
              have fn' := Lib.hid (fn.out.gr gy)
              clear ry gy
              unfold ckV
              go_wp2_with fail
              refine (check_is (r := ⟨m, p, q, ver, L, b, cl⟩) hck1.out _ _ (hG'.out.gr gy'.out) fn'.out hsL.out).mono ?_
              rintro e wz ⟨rfl, gz⟩
              have gz' := Lib.hid (gy'.out.trans gz)
              clear gz
              unfold ckV
              go_wp2_with fail
              refine (wakes_any _ (hG'.out.gr gz'.out)).mono ?_
              rintro e wu ⟨rfl, gu⟩
              have gu' := Lib.hid (gz'.out.trans gu)
              clear gu
              go_wp2
              go_ret
              exact ⟨rfl, gu'.out⟩
end Go.Proofs.YtheihlalgekojaaDoor
