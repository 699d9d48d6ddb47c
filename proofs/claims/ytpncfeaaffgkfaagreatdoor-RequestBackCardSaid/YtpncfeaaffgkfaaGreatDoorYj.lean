/-
  Requests: the walks over New, Rest, and a parser that is not there.
  Requests by the document: a head's end, its lines, a number.
  Walks over the reference of package field: blanks, lines, alike words.
-/
import Derived.Test.YtpncfeaaffgkfaaGreatDoorYi
import Derived.Test.YtpncfeaaffgkfaaGreatDoorP41
import Derived.Test.YtpncfeaaffgkfaaGreatDoorSw
import Derived.Test.YtpncfeaaffgkfaaGreatDoorOw
import Derived.Test.YtpncfeaaffgkfaaGreatDoorD
import Derived.Test.YtpncfeaaffgkfaaGreatDoorC
import Derived.Test.YtpncfeaaffgkfaaGreatDoorB
import Derived.Test.YtpncfeaaffgkfaaGreatDoorP1
namespace Go.Proofs.YtpncfeaaffgkfaaGreatDoor
open Go.RowKit
attribute [local go_sem] Oper.semAt_some

set_option maxHeartbeats 4000000 in
set_option maxRecDepth 100000 in
theorem qnew_any (w : World) (hG : G w) :
    Calls Tryz.prog 17 #[] w fun e w' => e = .returned (.pointer (some ⟨w.heap.size, 0, none⟩)) ∧ PsAt w.heap.size (fun k => k = w.heap.size) w' ps0 (.slice none 0 0) (.pointer none) ∧ Gr w w' := by
  have hlt := hG.lt
  go_enter Tryz.func17, Tryz.ntmps17
  go_wp2
  refine bodyPost_ret (v := .pointer (some ⟨w.heap.size, 0, none⟩)) (by simp [results, Tryz.results17, go_sem]) rfl ⟨rfl, ?_, Gr.alloc _ _⟩
  exact ⟨cell_new7 _ _ _ 0 _ rfl, cell_new7 _ _ _ 1 _ rfl, cell_new7 _ _ _ 2 _ rfl, cell_new7 _ _ _ 3 _ rfl, cell_new7 _ _ _ 4 _ rfl, cell_new7 _ _ _ 5 _ rfl, cell_new7 _ _ _ 6 _ rfl, cell_new7 _ _ _ 7 _ rfl, cell_new7 _ _ _ 8 _ rfl, cell_new7 _ _ _ 9 _ rfl, cell_new7 _ _ _ 10 _ rfl, cell_new7 _ _ _ 11 _ rfl, cell_new7 _ _ _ 12 _ rfl,
    fun o => World.frozen?_alloc_at _ _ _ _ rfl, ⟨none, 0, rfl, fun i hi => absurd hi (Nat.not_lt_zero _)⟩, fun a n c e => (by cases e), rfl, rfl, fun k hk => (by subst hk; exact ⟨Nat.le_refl _, by simp⟩), hlt, fun a n c e => (by cases e)⟩
set_option maxHeartbeats 8000000 in
set_option maxRecDepth 100000 in
theorem qrest_any (B : Nat) (T : Nat → Prop) (p : Ps) (fv cv : Value) (w : World) (h : PsAt B T w p fv cv) (hl : p.inp.length + p.und.length ≤ 90000) :
    Calls Tryz.prog 14 #[.pointer (some ⟨B, 0, none⟩)] w fun e w' => e = .returned (.string ⟨(restQ p).2.toArray⟩) ∧ PsPost B T w (restQ p).1 w' := by
  have h' := Lib.hid h
  have c12 := h.c12
  by_cases hb : p.bad = 0
  · rw [hb] at c12
    obtain ⟨x, hx⟩ : ∃ x, p.und ++ p.inp = x := ⟨_, rfl⟩
    have hq := Lib.hid (show restQ p = (ps0, x) by unfold restQ; rw [if_neg (by simpa using hb), hx])
    have hcat : (⟨p.und.toArray⟩ : ByteArray) ++ ⟨p.inp.toArray⟩ = ⟨x.toArray⟩ := by rw [cat_mk, hx]
    have hcl : ¬ 9223372036854775807 < p.und.length + p.inp.length := by omega
    haveI : Nonempty (Later (Gr w)) := ⟨⟨w, Gr.refl w⟩⟩
    have t0 : ∀ x : Later (Gr w), x.w.cell? ⟨B, 0, none⟩ = some (.string ⟨p.inp.toArray⟩) := fun x => x.ok.cell h.c0
    have t1 : ∀ x : Later (Gr w), x.w.cell? ⟨B, 1, none⟩ = some (.string ⟨p.und.toArray⟩) := fun x => x.ok.cell h.c1
    clear hb hx h
    go_enter Tryz.func14, Tryz.ntmps14
    go_upto_region 3 with (fail)
    refine wp_region_later (C := Gr w) (by kernel_rfl) (by kernel_rfl) (Gr.drew' _) ?_
    repeat (go_big_quiet_step (fail))
    refine wpQuiet_nil ?_
    intro w9 hg9
    have hg := Lib.hid hg9
    have hP := h'.out.gr hg9
    have hP' := Lib.hid hP
    have d0 := hP.c0
    have d1 := hP.c1
    have d2 := hP.c2
    have d3 := hP.c3
    have d4 := hP.c4
    have d5 := hP.c5
    have d6 := hP.c6
    have d7 := hP.c7
    have d8 := hP.c8
    have d9 := hP.c9
    have d10 := hP.c10
    have d11 := hP.c11
    have d12 := hP.c12
    have dz := hP.fz
    have hfin := Lib.hid (show PsPost B T w ps0 _ from PsPost.ahead h'.out.lt hg9 ⟨T, _, _, hP.reset [], chB13 hP.tb _ _ _ _ _ _ _ _ _ _ _ _ _ _, fun _ hk => .inl hk, fun a n c e => (by cases e)⟩)
    clear t0 t1 hg9 hP hcat hcl
    go_wp2
    go_ret
    exact ⟨by rw [hq.out]; rfl, by rw [hq.out]; exact hfin.out⟩
  · have hbI : ((p.bad : Int) != 0) = true := by rw [bne_iff_ne]; omega
    have hq := Lib.hid (show restQ p = (p, []) by unfold restQ; rw [if_pos hb])
    clear hb h
    go_enter Tryz.func14, Tryz.ntmps14
    go_wp2
    go_ret
    exact ⟨by rw [hq.out]; rfl, by rw [hq.out]; exact PsPost.of_gr h'.out (Gr.refl _)⟩
set_option maxHeartbeats 4000000 in
set_option maxRecDepth 100000 in
theorem nfeedq_any (s : List UInt8) (w : World) : Calls Tryz.prog 10 #[.pointer none, .string ⟨s.toArray⟩] w fun e w' => e = .returned (.tuple #[]) ∧ w = w' := by
  go_enter Tryz.func10, Tryz.ntmps10
  go_wp2
  go_end0
  exact ⟨rfl, rfl⟩
set_option maxHeartbeats 4000000 in
set_option maxRecDepth 100000 in
theorem nbadq_any (w : World) : Calls Tryz.prog 13 #[.pointer none] w fun e w' => e = .returned (.int .i64 400) ∧ w = w' := by
  go_enter Tryz.func13, Tryz.ntmps13
  go_wp2
  go_ret
  exact ⟨rfl, rfl⟩
set_option maxHeartbeats 4000000 in
set_option maxRecDepth 100000 in
theorem nidleq_any (w : World) : Calls Tryz.prog 12 #[.pointer none] w fun e w' => e = .returned (.bool false) ∧ w = w' := by
  go_enter Tryz.func12, Tryz.ntmps12
  go_wp2
  go_ret
  exact ⟨rfl, rfl⟩
set_option maxHeartbeats 4000000 in
set_option maxRecDepth 100000 in
theorem nrestq_any (w : World) : Calls Tryz.prog 14 #[.pointer none] w fun e w' => e = .returned (.string ⟨#[]⟩) ∧ w = w' := by
  go_enter Tryz.func14, Tryz.ntmps14
  go_wp2
  go_ret
  exact ⟨rfl, rfl⟩
set_option maxHeartbeats 4000000 in
set_option maxRecDepth 100000 in
theorem nnextq_any (w : World) : Calls Tryz.prog 11 #[.pointer none] w fun e w' => e = .returned (.tuple #[rq0.V (.slice none 0 0), .bool false]) ∧ Gr w w' := by
  go_enter Tryz.func11, Tryz.ntmps11
  go_wp2
  refine bodyPost_ret (v := .tuple #[.agg #[.string ⟨#[]⟩, .string ⟨#[]⟩, .string ⟨#[]⟩, .int .i64 0, .slice none 0 0, .string ⟨#[]⟩, .bool false], .bool false]) (by simp [results, Tryz.results11, go_sem]) rfl ⟨rfl, ?_⟩
  exact Gr.alloc _ _
end Go.Proofs.YtpncfeaaffgkfaaGreatDoor
namespace Go.Proofs.YtpncfeaaffgkfaaGreatDoor
open Go.RowKit
attribute [local go_sem] Oper.semAt_some

def sV (x : List UInt8) : Value := .string ⟨x.toArray⟩
theorem infoS : (Tryz.prog.info? 9).map (fun i => (i.zero, i.size, i.bytes)) = some (some (.string ⟨#[]⟩), 1, 16) := by kernel_rfl
/-- Where a head ends; below 0: nowhere. -/
def endQ (s : List UInt8) : Int := if 0 ≤ Lib.index s eol2 then Lib.index s eol2 + 4 else -1
set_option maxHeartbeats 4000000 in
set_option maxRecDepth 100000 in
theorem rend_any (s : List UInt8) (w : World) (hl : s.length ≤ 900000) :
    Calls Tryz.prog 27 #[.string ⟨s.toArray⟩] w fun e w' => e = .returned (.int .i64 (endQ s)) ∧ w = w' := by
  go_enter Tryz.func27, Tryz.ntmps27
  go_wp2
  go_loop [3] (fun i => ∃ k : Nat, k ≤ s.length ∧ i = .int .i64 k ∧ (∀ j, j < k → Lib.occAt s eol2 j = false)) (fun i => s.length - (intOf i).toNat)
  case atStart => exact ⟨0, Nat.zero_le _, rfl, fun j h => absurd h (Nat.not_lt_zero _)⟩
  case round =>
    obtain ⟨k, hk, rfl, hno⟩ := hrel
    have hno' := Lib.hid hno
    clear hno
    by_cases hk4 : k + 4 ≤ s.length
    · have hk4I : (k : Int) + 4 ≤ s.length := by omega
      have hex : (⟨s.toArray⟩ : ByteArray).extract k (k + 4) = ⟨((s.take (k + 4)).drop k).toArray⟩ := extract_mk _ _ _
      have hcut := @cut4 s k
      obtain ⟨x, hx⟩ : ∃ x, (s.take (k + 4)).drop k = x := ⟨_, rfl⟩
      rw [hx] at hex hcut
      clear hx
      by_cases hocc : Lib.occAt s eol2 k = true
      · rw [hocc, beq_iff_eq] at hcut
        subst hcut
        have hix := Lib.hid (show endQ s = (k : Int) + 4 by
          have := index_of hocc hk4 hno'.out
          unfold endQ; rw [this, if_pos (by omega)])
        clear hocc hno'
        go_wp2
        go_ret
        exact ⟨by rw [hix.out] <;> rfl, rfl⟩
      · have hocc' : Lib.occAt s eol2 k = false := by simpa using hocc
        rw [hocc'] at hcut
        have hst := Lib.hid (step_no hno'.out hocc')
        clear hocc hno' hocc'
        go_wp2
        go_round
        case rel => exact ⟨k + 1, by omega, by go_num, hst.out⟩
        case measure => simp [intOf]; omega
    · have hk4I : ¬ (k : Int) + 4 ≤ s.length := by omega
      have hix := Lib.hid (show endQ s = -1 by
          have := index_not (k := k) (by omega) hno'.out
          unfold endQ; rw [this]; rfl)
      clear hno'
      go_wp2
      go_ret
      exact ⟨by rw [hix.out] <;> rfl, rfl⟩
/-- A document's number. -/
def numI (s : List UInt8) : Int := match numberD s with
  | none => -1
  | some n => n
theorem numD_snoc : ∀ (a : List UInt8) (c : UInt8) (n : Nat), numD n (a ++ [c]) = (numD n a).bind fun m => if qDig c then some (min (10 * m + (c.toNat - 48)) 5000) else none
  | [], c, n => by simp [numD]
  | b :: t, c, n => by
    rw [List.cons_append]
    unfold numD
    split
    · exact numD_snoc t c _
    · rfl
theorem numD_le : ∀ (a : List UInt8) (n m : Nat), n ≤ 5000 → numD n a = some m → m ≤ 5000
  | [], n, m, hn, h => by cases h; exact hn
  | b :: t, n, m, hn, h => by
    unfold numD at h
    split at h
    · exact numD_le t _ m (by omega) h
    · cases h
theorem numD_stop {s : List UInt8} {k : Nat} (hk : k < s.length) (h : qDig s[k] = false) (n : Nat) : numD n s = none := by
  refine numD_none s n ?_
  rw [List.all_eq_false]
  exact ⟨s[k], List.getElem_mem hk, by simp [h]⟩
set_option maxHeartbeats 4000000 in
set_option maxRecDepth 100000 in
theorem rnumber_any (s : List UInt8) (w : World) (hl : s.length ≤ 900000) :
    Calls Tryz.prog 53 #[.string ⟨s.toArray⟩] w fun e w' => e = .returned (.int .i64 (numI s)) ∧ w = w' := by
  by_cases h0 : s.length = 0
  · have hq := Lib.hid (show numI s = -1 by
      have : s = [] := List.eq_nil_of_length_eq_zero h0
      subst this; rfl)
    have h0I : ((s.length : Int) == 0) = true := by rw [h0]; rfl
    clear h0
    go_enter Tryz.func53, Tryz.ntmps53
    go_wp2
    go_ret
    exact ⟨by rw [hq.out] <;> rfl, rfl⟩
  · have h0I : ((s.length : Int) == 0) = false := beq_eq_false_iff_ne.2 (by omega)
    have hN := Lib.hid (show numberD s = numD 0 s by unfold numberD; rw [if_neg]; intro e; rw [List.isEmpty_iff] at e; rw [e] at h0; exact h0 rfl)
    clear h0
    go_enter Tryz.func53, Tryz.ntmps53
    go_wp2
    go_loop [3, 4] (fun n i => ∃ k m : Nat, k ≤ s.length ∧ i = .int .i64 k ∧ n = .int .i64 m ∧ m ≤ 5000 ∧ numD 0 (s.take k) = some m) (fun _ i => s.length - (intOf i).toNat)
    case atStart => exact ⟨0, 0, Nat.zero_le _, rfl, rfl, by omega, rfl⟩
    case round =>
      obtain ⟨k, m, hk, rfl, rfl, hm, hnum⟩ := hrel
      by_cases hlt : k < s.length
      · have hst := numD_snoc (s.take k) s[k] 0
        rw [← List.take_succ_eq_append_getElem hlt, hnum] at hst
        have hst' := Lib.hid hst
        have hnum' := Lib.hid hnum
        have hstop := Lib.hid (fun h => numD_stop hlt h 0)
        have hltI : (k : Int) < s.length := by omega
        obtain ⟨c, hc⟩ : ∃ c, (⟨s.toArray⟩ : ByteArray)[k]'(by rw [size_mk]; exact hlt) = c := ⟨_, rfl⟩
        have hc2 : s[k] = c := hc
        rw [hc2] at hst' hstop
        have hcl := c.toNat_lt
        clear hst hnum hc2
        by_cases hd : qDig c = true
        · have hd2 := qDig_iff.1 hd
          have hq1 : ¬ (c.toNat : Int) < 48 := by omega
          have hq2 : ¬ (57 : Int) < c.toNat := by omega
          have hs2 := Lib.hid (show numD 0 (s.take (k + 1)) = some (min (10 * m + (c.toNat - 48)) 5000) by rw [hst'.out]; simp [hd])
          have e1 : 10 * (m : Int) + c.toNat - 48 = ((10 * m + (c.toNat - 48) : Nat) : Int) := by omega
          obtain ⟨y, hy⟩ : ∃ y, 10 * m + (c.toNat - 48) = y := ⟨_, rfl⟩
          rw [hy] at hs2 e1
          have hyb : y ≤ 60000 := by omega
          clear hd hst' hstop hnum' hy
          by_cases hbig : 5000 < y
          · have hbI : (5000 : Int) < y := by omega
            have hs3 := Lib.hid (show numD 0 (s.take (k + 1)) = some 5000 by rw [hs2.out, Nat.min_eq_right (by omega)])
            clear hs2 hbig
            go_wp2
            go_round
            case rel => exact ⟨k + 1, 5000, by omega, by go_num, rfl, by omega, hs3.out⟩
            case measure => simp [intOf]; omega
          · have hbI : ¬ (5000 : Int) < y := by omega
            have hs3 := Lib.hid (show numD 0 (s.take (k + 1)) = some y by rw [hs2.out, Nat.min_eq_left (by omega)])
            clear hs2
            go_wp2
            go_round
            case rel => exact ⟨k + 1, y, by omega, by go_num, rfl, by omega, hs3.out⟩
            case measure => simp [intOf]; omega
        · have hd' : qDig c = false := by simpa using hd
          have hn := Lib.hid (show numI s = -1 by unfold numI; rw [hN.out, hstop.out hd'])
          have hor : (c.toNat : Int) < 48 ∨ (57 : Int) < c.toNat := by
            by_cases h1 : c.toNat < 48
            · exact .inl (by omega)
            · refine .inr ?_
              have : ¬ (48 ≤ c.toNat ∧ c.toNat ≤ 57) := fun e => hd (qDig_iff.2 e)
              omega
          clear hd hd' hst' hstop hnum'
          by_cases h1 : (c.toNat : Int) < 48
          · clear hor
            go_wp2
            go_ret
            exact ⟨by rw [hn.out] <;> rfl, rfl⟩
          · have h2 : (57 : Int) < c.toNat := by omega
            clear hor
            go_wp2
            go_ret
            exact ⟨by rw [hn.out] <;> rfl, rfl⟩
      · have hltI : ¬ (k : Int) < s.length := by omega
        have hn := Lib.hid (show numI s = m by
          have hn2 : numD 0 s = some m := by rw [← hnum, List.take_of_length_le (by omega)]
          unfold numI
          rw [hN.out, hn2])
        clear hnum
        go_wp2
        go_ret
        exact ⟨by rw [hn.out] <;> rfl, rfl⟩
/-- Where the scan for lines stands. -/
def QLn (w : World) (t : List UInt8) (v a i : Value) (W : World) : Prop := ∃ (L : List (List UInt8)) (a' i' : Nat) (p : Option Addr) (cap : Nat), v = .slice p L.length cap ∧ a = .int .i64 a' ∧ i = .int .i64 i' ∧ SplI t L a' i' ∧ i' ≤ t.length ∧ L.length ≤ i' ∧ OwnV 9 w.heap.size W (.slice p L.length cap) (L.map sV) ∧ Gr w W
def LinesPost (s : List UInt8) (w : World) (e : Ending) (w' : World) : Prop := ∃ v, e = .returned v ∧ OwnV 9 w.heap.size w' v ((splitE s).map sV) ∧ Gr w w'
theorem OwnV.texts {B : Nat} {W : World} {v : Value} {ls : List (List UInt8)} (h : OwnV 9 B W v (ls.map sV)) (h0 : ls ≠ []) : TextsAt W v ls := by
  obtain ⟨g, cap, rfl, _, _, hc, hle⟩ := h.row (by simpa using List.length_pos_iff.2 h0)
  rw [List.length_map] at hle ⊢
  exact ⟨_, cap, rfl, hle, fun i hi => ⟨g, 0, rfl, by rw [Nat.zero_add]; exact hc i _ (by simp [hi, sV])⟩⟩
set_option maxHeartbeats 8000000 in
set_option maxRecDepth 100000 in
theorem rlines_any (s : List UInt8) (w : World) (hl : s.length ≤ 800000) :
    Calls Tryz.prog 48 #[.string ⟨s.toArray⟩] w (LinesPost s w) := by
  have hl2 : ¬ 9223372036854775807 < s.length := by omega
  have hRs := Lib.hid (show QLn w s (.slice none 0 0) (.int .i64 0) (.int .i64 0) w from ⟨[], 0, 0, none, 0, rfl, rfl, rfl, SplI.start s, Nat.zero_le _, Nat.le_refl _, OwnV.nil _ _ _, Gr.refl _⟩)
  go_enter Tryz.func48, Tryz.ntmps48
  go_wp2
  go_loopw [3, 4, 5] (fun v a i W => QLn w s v a i W) (fun _ _ i _ => s.length - (intOf i).toNat)
  case atStart => exact hRs.out
  case round =>
    obtain ⟨L, a, i, p, cap, rfl, rfl, rfl, hS, hil, hLi, ho, hg0⟩ := hrel
    have hS' := Lib.hid hS
    have ho' := Lib.hid ho
    have hg' := Lib.hid hg0
    have hsz := Lib.hid (Below.size hg0)
    have hal := hS.2.1
    clear hS ho hg0 hRs
    have hib : i ≤ 800000 := by omega
    have hab : a ≤ 800001 := by omega
    by_cases hik : i + 1 < s.length
    · have hikI : (i : Int) + 1 < s.length := by omega
      have hi1 : i < s.length := by omega
      obtain ⟨c, hc⟩ : ∃ c, (⟨s.toArray⟩ : ByteArray)[i]'(by rw [size_mk]; exact hi1) = c := ⟨_, rfl⟩
      obtain ⟨d, hd⟩ : ∃ d, (⟨s.toArray⟩ : ByteArray)[i + 1]'(by rw [size_mk]; exact hik) = d := ⟨_, rfl⟩
      have hct : s[i]? = some c := by rw [List.getElem?_eq_getElem hi1]; exact congrArg some hc
      have hdt : s[i + 1]? = some d := by rw [List.getElem?_eq_getElem hik]; exact congrArg some hd
      have hct' := Lib.hid hct
      have hdt' := Lib.hid hdt
      clear hct hdt
      by_cases h13 : c = 13
      · have h13b : ((c.toNat : Int) == 13) = true := by rw [h13]; rfl
        by_cases h10 : d = 10
        · have h10b : ((d.toNat : Int) == 10) = true := by rw [h10]; rfl
          have hai : a ≤ i := hS'.out.le (by rw [hct'.out, h13])
          have hex2 : (⟨s.toArray⟩ : ByteArray).extract a i = ⟨((s.take i).drop a).toArray⟩ := by rw [extract_mk]
          have hfound := Lib.hid (hS'.out.found (by rw [hct'.out, h13]) (by rw [hdt'.out, h10]))
          obtain ⟨x, hx⟩ : ∃ x, (s.take i).drop a = x := ⟨_, rfl⟩
          rw [hx] at hex2 hfound
          have hLl : (L.map sV).length + 1 = L.length + 1 := by simp
          have hLb : L.length + 1 ≤ 1000000 := by omega
          clear hx h13 h10
          go_wp2_with (at_builtin; (refine wp_app1 (by rfl) _ _ 63 9 _ (.string ⟨#[]⟩) (.string ⟨x.toArray⟩) 16 Tryz.underlying63 infoS rfl rfl w.heap.size _ (L.map sV) rfl ho'.out rfl rfl (L.length + 1) hLl hLb (by decide) hsz.out ?_); intro p3 cap3 w3 hown3 hb3)
          have hrel2 := Lib.hid (show QLn w s (.slice p3 (L.length + 1) cap3) (.int .i64 ((i : Int) + 2)) (.int .i64 ((i : Int) + 1)) w3 from
            ⟨L ++ [x], i + 2, i + 1, p3, cap3, by simp, rfl, rfl, hfound.out, by omega, by simp; omega, by rw [List.length_append, List.map_append]; exact hown3, Below.trans hg'.out hb3⟩)
          clear hown3 hb3
          go_wp2
          go_roundw
          case rel => exact hrel2.out
          case measure => simp [intOf]; omega
        · have h10b : ((d.toNat : Int) == 10) = false := by
            rw [beq_eq_false_iff_ne]; intro e; exact h10 (UInt8.toNat_inj.1 (by have h9 : (d.toNat : Int) = 10 := e; show d.toNat = 10; omega))
          have hoth := Lib.hid (show QLn w s (.slice p L.length cap) (.int .i64 a) (.int .i64 ((i : Int) + 1)) wr from
            ⟨L, a, i + 1, p, cap, rfl, rfl, rfl, hS'.out.other (fun e => by rw [hdt'.out] at e; exact h10 (Option.some.inj e.2)), by omega, by omega, ho'.out, hg'.out⟩)
          clear h10 h13
          go_wp2
          go_roundw
          case rel => exact hoth.out
          case measure => simp [intOf]; omega
      · have h13b : ((c.toNat : Int) == 13) = false := by
          rw [beq_eq_false_iff_ne]; intro e; exact h13 (UInt8.toNat_inj.1 (by have h9 : (c.toNat : Int) = 13 := e; show c.toNat = 13; omega))
        have hoth := Lib.hid (show QLn w s (.slice p L.length cap) (.int .i64 a) (.int .i64 ((i : Int) + 1)) wr from
          ⟨L, a, i + 1, p, cap, rfl, rfl, rfl, hS'.out.other (fun e => by rw [hct'.out] at e; exact h13 (Option.some.inj e.1)), by omega, by omega, ho'.out, hg'.out⟩)
        clear h13
        go_wp2
        go_roundw
        case rel => exact hoth.out
        case measure => simp [intOf]; omega
    · have hikI : ¬ (i : Int) + 1 < s.length := by omega
      have hdone := Lib.hid (hS'.out.done (by omega))
      have hex2 : (⟨s.toArray⟩ : ByteArray).extract a s.length = ⟨(s.drop a).toArray⟩ := by rw [extract_mk, List.take_of_length_le (Nat.le_refl _)]
      have hasI : (a : Int) ≤ s.length := by omega
      obtain ⟨x, hx⟩ : ∃ x, s.drop a = x := ⟨_, rfl⟩
      rw [hx] at hex2 hdone
      have hLl : (L.map sV).length + 1 = L.length + 1 := by simp
      have hLb : L.length + 1 ≤ 1000000 := by omega
      clear hx
      go_wp2_with (at_builtin; (refine wp_app1 (by rfl) _ _ 63 9 _ (.string ⟨#[]⟩) (.string ⟨x.toArray⟩) 16 Tryz.underlying63 infoS rfl rfl w.heap.size _ (L.map sV) rfl ho'.out rfl rfl (L.length + 1) hLl hLb (by decide) hsz.out ?_); intro p3 cap3 w3 hown3 hb3)
      have hfin := Lib.hid (show LinesPost s w (.returned (.slice p3 (L.length + 1) cap3)) w3 from ⟨_, rfl, by rw [hdone.out, List.map_append]; exact hown3, Below.trans hg'.out hb3⟩)
      clear hown3 hb3
      go_wp2
      go_ret
      exact hfin.out
end Go.Proofs.YtpncfeaaffgkfaaGreatDoor
namespace Go.Proofs.YtpncfeaaffgkfaaGreatDoor
open Go.RowKit

set_option maxHeartbeats 400000 in
theorem low_any (c : UInt8) (w : World) : Calls Tryz.prog 87 #[.int .u8 c.toNat] w fun e w' => e = .returned (.int .u8 (lower c).toNat) ∧ w = w' := by
  have hv := Lib.hid (lower_toNat c)
  go_enter Tryz.func87, Tryz.ntmps87
  go_wp2
  all_goals go_ret
  all_goals refine ⟨?_, rfl⟩
  all_goals rw [hv.out]
  all_goals (first | rw [if_neg (by omega)] | rw [if_pos (by omega)])
  all_goals rfl

def lenOf : Value → Nat | .string s => s.size | _ => 0

set_option maxHeartbeats 1000000 in
theorem bare_any (l : List UInt8) (w : World) (hl : l.length ≤ 9223372036854775807) :
    Calls Tryz.prog 86 #[.string ⟨l.toArray⟩] w fun e w' => e = .returned (.string ⟨(trimB l).toArray⟩) ∧ w = w' := by
  have hfin := Lib.hid (trimB_bare l)
  go_enter Tryz.func86, Tryz.ntmps86
  go_wp2
  go_loop [0] (fun t => ∃ x : List UInt8, t = .string ⟨x.toArray⟩ ∧ x.length ≤ l.length ∧ ldrop x = ldrop l) (fun t => lenOf t)
  case atStart => exact ⟨l, rfl, Nat.le_refl _, rfl⟩
  case round =>
    obtain ⟨x, rfl, hxl, hx⟩ := hrel
    have hx' := Lib.hid hx
    clear hx
    have hexit : (x.length = 0 ∨ ∃ h : 0 < x.length, isBlank x[0] = false) ∨ ∃ h : 0 < x.length, isBlank x[0] = true := by
      cases x with
      | nil => exact .inl (.inl rfl)
      | cons c t => cases h : isBlank c
                    · exact .inl (.inr ⟨by simp, h⟩)
                    · exact .inr ⟨by simp, h⟩
    rcases hexit with hex | ⟨h0, hbl⟩
    · have hid : ldrop x = x := by
        rcases hex with h | ⟨h, hb⟩
        · rw [List.eq_nil_of_length_eq_zero h]; rfl
        · cases x with
          | nil => rfl
          | cons c t => exact ldrop_cons_f hb
      have hid' := Lib.hid hid
      clear hid
      have hstop : x.length = 0 ∨ ∃ h : 0 < x.length, (((((⟨x.toArray⟩ : ByteArray)[0]'(by rw [size_mk]; exact h)).toNat : Nat) : Int) == 9) = false ∧ (((((⟨x.toArray⟩ : ByteArray)[0]'(by rw [size_mk]; exact h)).toNat : Nat) : Int) == 32) = false := by
        rcases hex with h | ⟨h, hb⟩
        · exact .inl h
        · refine .inr ⟨h, ?_⟩
          rw [blank_eq] at hb
          simp at hb
          exact ⟨beq_eq_false_iff_ne.2 hb.1, beq_eq_false_iff_ne.2 hb.2⟩
      clear hex
      rcases hstop with h0 | ⟨h0, h9, h32⟩
      all_goals go_wp2
      all_goals
        try clear h9 h32
        try clear h0
        go_loop [0] (fun t => ∃ y : List UInt8, t = .string ⟨y.toArray⟩ ∧ y.length ≤ l.length ∧ rdrop y = rdrop x) (fun t => lenOf t)
        case atStart => exact ⟨x, rfl, hxl, rfl⟩
        case round =>
          obtain ⟨y, rfl, hyl, hy⟩ := hrel
          have hy' := Lib.hid hy
          clear hy
          by_cases hn : y.length = 0
          · have hy0 := Lib.hid (List.eq_nil_of_length_eq_zero hn)
            go_wp2
            go_ret
            refine ⟨?_, rfl⟩
            have : trimB l = y := by rw [hfin.out, ← hx'.out, hid'.out, ← hy'.out, hy0.out]; rfl
            rw [this]; rfl
          · obtain ⟨k, hk⟩ : ∃ k, y.length = k + 1 := ⟨y.length - 1, by omega⟩
            have hkl : k < y.length := by omega
            obtain ⟨d, hd⟩ : ∃ d, (⟨y.toArray⟩ : ByteArray)[k]'(by rw [size_mk]; exact hkl) = d := ⟨_, rfl⟩
            have hd2 := Lib.hid (show y[k] = d from hd)
            obtain ⟨y2, hy2⟩ : ∃ y2, (⟨y.toArray⟩ : ByteArray).extract 0 k = ⟨y2.toArray⟩ ∧ y2 = y.take k := ⟨y.take k, by rw [extract_mk]; simp, rfl⟩
            obtain ⟨hyt, hyk⟩ := hy2
            have hyk' := Lib.hid hyk
            have hk' := Lib.hid hk
            have hy2l : y2.length < y.length := by rw [hyk]; simp; omega
            clear hyk
            clear hn
            rcases (by
              by_cases h9 : (d.toNat : Int) = 9
              · exact .inr (.inl (by simp [h9]))
              · by_cases h32 : (d.toNat : Int) = 32
                · exact .inr (.inr ⟨beq_eq_false_iff_ne.2 h9, by simp [h32]⟩)
                · exact .inl ⟨beq_eq_false_iff_ne.2 h9, beq_eq_false_iff_ne.2 h32⟩ : (((d.toNat : Int) == 9) = false ∧ ((d.toNat : Int) == 32) = false) ∨ ((d.toNat : Int) == 9) = true ∨ ((d.toNat : Int) == 9) = false ∧ ((d.toNat : Int) == 32) = true) with ⟨e9, e32⟩ | e9 | ⟨e9, e32⟩
            · go_wp2
              go_ret
              refine ⟨?_, rfl⟩
              have hdb : isBlank d = false := by rw [blank_eq]; simp only [beq_eq_false_iff_ne] at e9 e32; simp [e9, e32]
              have : trimB l = y := by rw [hfin.out, ← hx'.out, hid'.out, ← hy'.out]; exact rdrop_id hk'.out (by rw [hd2.out]; exact hdb)
              rw [this]; rfl
            · have hdb : isBlank d = true := by rw [blank_eq]; simp only [beq_iff_eq] at e9; simp [e9]
              have hdb' := Lib.hid hdb
              clear hdb
              go_wp2
              go_round
              case rel => exact ⟨y2, rfl, by omega, by rw [← hy'.out, hyk'.out]; exact rdrop_last hk'.out (by rw [hd2.out]; exact hdb'.out)⟩
              case measure => simp only [lenOf, size_mk]; exact hy2l
            · have hdb : isBlank d = true := by rw [blank_eq]; simp only [beq_iff_eq] at e32; simp [e32]
              have hdb' := Lib.hid hdb
              clear hdb
              go_wp2
              go_round
              case rel => exact ⟨y2, rfl, by omega, by rw [← hy'.out, hyk'.out]; exact rdrop_last hk'.out (by rw [hd2.out]; exact hdb'.out)⟩
              case measure => simp only [lenOf, size_mk]; exact hy2l
    · obtain ⟨c, hc⟩ : ∃ c, (⟨x.toArray⟩ : ByteArray)[0]'(by rw [size_mk]; exact h0) = c := ⟨_, rfl⟩
      obtain ⟨x2, hx2⟩ : ∃ x2, x = c :: x2 := by
        cases x with
        | nil => simp at h0
        | cons d t => exact ⟨t, by rw [← hc]; rfl⟩
      have hxt : (⟨x.toArray⟩ : ByteArray).extract 1 x.length = ⟨x2.toArray⟩ := by rw [extract_mk, hx2]; simp
      have hcb : isBlank c = true := by rw [← hc]; exact hbl
      have hcb' := Lib.hid hcb
      have hln : x2.length < x.length := by rw [hx2]; simp
      have hx3 := Lib.hid hx2
      have htest : ((c.toNat : Int) == 9) = true ∨ ((c.toNat : Int) == 9) = false ∧ ((c.toNat : Int) == 32) = true := by
        rw [blank_eq] at hcb
        by_cases h9 : (c.toNat : Int) = 9
        · exact .inl (by simp [h9])
        · refine .inr ⟨beq_eq_false_iff_ne.2 h9, ?_⟩
          simp [h9] at hcb; simp [hcb]
      clear hbl hx2 hcb
      rcases htest with h9 | ⟨h9, h32⟩
      all_goals go_wp2
      all_goals
        go_round
        case rel => exact ⟨x2, rfl, by omega, by rw [← hx'.out, hx3.out, ldrop_cons_t hcb'.out]⟩
        case measure => simp only [lenOf, size_mk]; exact hln

theorem low_later {w : World} (c : UInt8) (x : Later (Gr w)) : Calls Tryz.prog 87 #[.int .u8 c.toNat] x.w fun e w'' => e = .returned (.int .u8 (lower c).toNat) ∧ ∃ y : Later (Gr w), w'' = y.w :=
  Calls.later ((low_any c x.w).mono fun _ _ ⟨he, hw⟩ => ⟨he, hw ▸ x.ok⟩)

set_option maxHeartbeats 1000000 in
theorem ralike_any (a b : List UInt8) (w : World) (hla : a.length ≤ 9223372036854775807) (_hlb : b.length ≤ 9223372036854775807) :
    Calls Tryz.prog 52 #[.string ⟨a.toArray⟩, .string ⟨b.toArray⟩] w fun e w' => e = .returned (.bool (alikeB a b)) ∧ Gr w w' := by
  by_cases hne : a.length = b.length
  · go_enter Tryz.func52, Tryz.ntmps52
    have hlen : ((a.length : Int) != b.length) = false := by simp [hne]
    go_wp2
    go_loopw [4, 5] (fun _ i wr => (∃ k : Nat, k ≤ a.length ∧ i = .int .i64 k ∧ (a.take k).map lower = (b.take k).map lower) ∧ Gr w wr) (fun _ i _ => a.length - (intOf i).toNat)
    case atStart => exact ⟨⟨0, Nat.zero_le _, rfl, rfl⟩, Gr.refl _⟩
    case round =>
      obtain ⟨⟨k, hk, rfl, hall⟩, hg⟩ := hrel
      have hall' := Lib.hid hall
      clear hall
      by_cases hlt : k < a.length
      · have hlt' : k < b.length := by omega
        obtain ⟨ca, hca⟩ : ∃ c, (⟨a.toArray⟩ : ByteArray)[k]'(by rw [size_mk]; exact hlt) = c := ⟨_, rfl⟩
        obtain ⟨cb, hcb⟩ : ∃ c, (⟨b.toArray⟩ : ByteArray)[k]'(by rw [size_mk]; exact hlt') = c := ⟨_, rfl⟩
        have eca := Lib.hid (show a[k] = ca from hca)
        have ecb := Lib.hid (show b[k] = cb from hcb)
        haveI : Nonempty (Later (Gr w)) := ⟨⟨w, Gr.refl w⟩⟩
        have hg1 := hg.trans (Gr.drew' _)
        have next := Lib.hid (show lower ca = lower cb → (a.take (k + 1)).map lower = (b.take (k + 1)).map lower from fun e => by
          rw [List.take_succ_eq_append_getElem hlt, List.take_succ_eq_append_getElem hlt', List.map_append, List.map_append, hall'.out]; simp [eca.out, ecb.out, e])
        have bad := Lib.hid (show lower ca ≠ lower cb → alikeB a b = false from fun h => alike_at hlt hlt' (by rw [eca.out, ecb.out]; exact h))
        go_wp2
        refine wp_region_later (C := Gr w) (by kernel_rfl) (by kernel_rfl) hg1 ?_
        repeat (go_big_quiet_step (first | with_reducible exact low_later ca _ | with_reducible exact low_later cb _))
        refine wpQuiet_nil ?_
        intro w2 hg2
        go_wp2
        · have ht : (((lower ca).toNat : Int) != (lower cb).toNat) = true := by assumption
          go_ret
          exact ⟨ret_bool (bad.out (fun e => by rw [e] at ht; simp at ht)).symm, hg2⟩
        · have ht : (((lower ca).toNat : Int) != (lower cb).toNat) = false := by assumption
          go_roundw
          case rel => exact ⟨⟨k + 1, by omega, by go_num, next.out (u8_of_bne ht)⟩, hg2⟩
          case measure => simp [intOf]; omega
      · go_wp2
        go_ret
        refine ⟨ret_bool ?_, hg⟩
        have h := hall'.out
        rw [List.take_of_length_le (by omega), List.take_of_length_le (by omega)] at h
        unfold alikeB
        rw [h]; simp
  · have hlen : ((a.length : Int) != b.length) = true := by rw [bne_iff_ne]; omega
    go_enter Tryz.func52, Tryz.ntmps52
    go_wp2
    go_ret
    refine ⟨ret_bool ?_, Gr.refl _⟩
    unfold alikeB
    exact (beq_eq_false_iff_ne.2 (fun e => hne (by simpa using congrArg List.length e))).symm
end Go.Proofs.YtpncfeaaffgkfaaGreatDoor
