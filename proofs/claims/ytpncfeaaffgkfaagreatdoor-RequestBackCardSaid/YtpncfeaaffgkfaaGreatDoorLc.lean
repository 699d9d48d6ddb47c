/-
  Walks over package line: a reply's line.
  Walks over the reference of package line: a reply's line.
  The walks over awake, LineReads.
  Requests: a head's lines as fields; its first line.
-/
import Derived.Test.YtpncfeaaffgkfaaGreatDoorLa
import Derived.Test.YtpncfeaaffgkfaaGreatDoorP8
import Derived.Sort.Grow
import Derived.Lib.SmallJoins
import Derived.Test.YtpncfeaaffgkfaaGreatDoorLd
import Derived.Test.YtpncfeaaffgkfaaGreatDoorLe
import Derived.Test.YtpncfeaaffgkfaaGreatDoorSp
import Derived.Test.YtpncfeaaffgkfaaGreatDoorSw
import Derived.Test.YtpncfeaaffgkfaaGreatDoorD
namespace Go.Proofs.YtpncfeaaffgkfaaGreatDoor
open Go.RowKit

theorem gr_grow (w : World) (k : Nat) (os : Array Obj) : Gr w (Sort.grow (w.drewN k) os) := by
  have h := below_drewNm w k
  refine ⟨h.os, h.tape, h.output, ?_, fun i hi => ?_⟩
  · have := h.size; (first | (simp [Sort.grow]; done) | (simp [Sort.grow]; omega))
  · have h2 := h.block i hi
    rw [← h2]
    exact Array.getElem?_append_left (Nat.lt_of_lt_of_le hi h.size)
theorem itoa_any (n : Int) (h0 : -9223372036854775808 ≤ n) (h1 : n ≤ 9223372036854775807) (w : World) (hG : G w) :
    Calls Tryz.prog 21 #[.int .i64 n] w fun e w' => e = .returned (.string ⟨(Lib.itoa n).toArray⟩) ∧ Gr w w' :=
  (Tryz.strconv_Itoa n h0 h1 w hG.pow).mono fun _ _ ⟨he, k, os, hw⟩ => ⟨he, hw ▸ gr_grow w k os⟩
theorem atoi_some (l : List UInt8) (v : Int) (h : Lib.atoi l = some v) (hl : l.length ≤ 18) (w : World) :
    Calls Tryz.prog 111 #[.string ⟨l.toArray⟩] w fun e w' => e = .returned (.tuple #[.int .i64 v, .nilIface]) ∧ Gr w w' :=
  (Tryz.strconv_Atoi ⟨l.toArray⟩ v (by rw [size_mk]; exact hl) h w).mono fun _ _ ⟨he, t, hw⟩ => ⟨he, hw ▸ Joins.below_bytesWorld _ w 5 t (Nat.le_refl _)⟩
def AtoiNo (w : World) (e : Ending) (w' : World) : Prop := ∃ N : Nat, e = .returned (.tuple #[.int .i64 0, .iface 154 (.pointer (some ⟨N, 0, none⟩))]) ∧ Gr w w'
theorem atoi_none (l : List UInt8) (h : Lib.atoi l = none) (hl : l.length ≤ 18) (w : World) (hG : G w) : Calls Tryz.prog 111 #[.string ⟨l.toArray⟩] w (AtoiNo w) :=
  let ⟨te, pe, hs⟩ := hG.syn
  (Tryz.strconv_Atoi_err ⟨l.toArray⟩ (by rw [size_mk]; exact hl) h (.iface te pe) w hs (.inr ⟨te, pe, rfl⟩)).mono fun _ _ ⟨N, he, _, _, hb⟩ => ⟨N, he, hb⟩

/-- What a field's text after 'r:' is parsed as: whether it is a value. -/
def PFine (f : Bool) (w : World) (e : Ending) (w' : World) : Prop := ∃ n v : List UInt8, e = .returned (.tuple #[.agg #[.string ⟨n.toArray⟩, .string ⟨v.toArray⟩], .bool f]) ∧ Gr w w'
theorem pfine (z y : List UInt8) (hz : z = [114, 58] ++ y) (f : Bool) (hf : y.all isVal = f) (w : World) (hG : G w) (hl : z.length ≤ 1000000) :
    Calls Tryz.prog 32 #[.string ⟨z.toArray⟩] w (PFine f w) :=
  (parse_any z w hG (by omega)).mono fun e w' ⟨he, hg⟩ => by
    have h := parse_colon (n := [114]) (y := y) (by decide)
    have hz' : z = [114] ++ [58] ++ y := by rw [hz]; rfl
    rw [← hz', hf] at h
    rw [h] at he
    cases f
    · exact ⟨[], [], he, hg⟩
    · exact ⟨[114], trimB y, he, hg⟩

/-- The result of Status. -/
def stV (r : Nat × List UInt8 × Bool) : Value := .tuple #[.int .i64 r.1, .string ⟨r.2.1.toArray⟩, .bool r.2.2]
theorem stat_short {t : List UInt8} (h : t.length < 4) : statB (aheadL ++ t) = (0, [], false) :=
  statB_no (.inl (by
    have : decide (13 ≤ (aheadL ++ t).length) = false := by simp [aheadL]; omega
    rw [this]; simp))
theorem stat_four {a b c d : UInt8} {y : List UInt8} : statB (aheadL ++ a :: b :: c :: d :: y) = if (d == 32 && y.all isVal) then (match code3 a b c with | some n => (n, y, true) | none => (0, [], false)) else (0, [], false) := by
  have hcond : (Lib.hasPrefix (aheadL ++ a :: b :: c :: d :: y) aheadL && (decide (13 ≤ (aheadL ++ a :: b :: c :: d :: y).length) && (((aheadL ++ a :: b :: c :: d :: y)[12]? == some 32) && ((aheadL ++ a :: b :: c :: d :: y).drop 13).all isVal))) = (d == 32 && y.all isVal) := by
    have e1 : Lib.hasPrefix (aheadL ++ a :: b :: c :: d :: y) aheadL = true := List.isPrefixOf_iff_prefix.2 (List.prefix_append _ _)
    rw [e1]; simp [aheadL]
  unfold statB
  rw [hcond]; rfl
theorem four_of {t : List UInt8} (h : 4 ≤ t.length) : ∃ a b c d y, t = a :: b :: c :: d :: y := by
  match t, h with
  | a :: b :: c :: d :: y, _ => exact ⟨a, b, c, d, y, rfl⟩
theorem itoa_later {w : World} (n : Int) (h0 : -9223372036854775808 ≤ n) (h1 : n ≤ 9223372036854775807) (s : List UInt8) (hs : Lib.itoa n = s) (hG : G w) (x : Later (Gr w)) :
    Calls Tryz.prog 21 #[.int .i64 n] x.w fun e w'' => e = .returned (.string ⟨s.toArray⟩) ∧ ∃ y : Later (Gr w), w'' = y.w :=
  Calls.later ((itoa_any n h0 h1 x.w (hG.gr x.ok)).mono fun _ _ ⟨he, hw⟩ => ⟨hs ▸ he, x.ok.trans hw⟩)

end Go.Proofs.YtpncfeaaffgkfaaGreatDoor
namespace Go.Proofs.YtpncfeaaffgkfaaGreatDoor
open Go.RowKit

theorem stat_thirteen {l : List UInt8} (h : 13 ≤ l.length) (hp : Lib.hasPrefix l aheadL = true) : ∃ a b c d y, l = aheadL ++ a :: b :: c :: d :: y := by
  obtain ⟨t, rfl⟩ := List.isPrefixOf_iff_prefix.1 hp
  obtain ⟨a, b, c, d, y, rfl⟩ := four_of (t := t) (by simp [aheadL] at h; omega)
  exact ⟨a, b, c, d, y, rfl⟩
theorem pre_take9 {l : List UInt8} (h : Lib.hasPrefix l aheadL = false) : l.take 9 ≠ aheadL := fun e => by
  have : Lib.hasPrefix l aheadL = true := List.isPrefixOf_iff_prefix.2 ⟨l.drop 9, by rw [← e, List.take_append_drop]⟩
  rw [this] at h; cases h
def SRel (a b c : UInt8) (n i : Value) : Prop :=
  (i = .int .i64 9 ∧ n = .int .i64 0) ∨ (i = .int .i64 10 ∧ n = .int .i64 ((a.toNat : Int) - 48)) ∨
  (i = .int .i64 11 ∧ digB b = true ∧ n = .int .i64 (10 * ((a.toNat : Int) - 48) + ((b.toNat : Int) - 48))) ∨
  (i = .int .i64 12 ∧ digB b = true ∧ digB c = true ∧ n = .int .i64 (100 * ((a.toNat : Int) - 48) + 10 * ((b.toNat : Int) - 48) + ((c.toNat : Int) - 48)))

end Go.Proofs.YtpncfeaaffgkfaaGreatDoor
namespace Go.Proofs.YtpncfeaaffgkfaaGreatDoor
open Go.RowKit

theorem line_is (l m t : List UInt8) (v : Nat) (b : Bool) (h : lineB l = (m, t, v, b)) (w : World) (hG : G w) (hl : l.length ≤ 1000000) :
    Calls Tryz.prog 110 #[.string ⟨l.toArray⟩] w fun e w' => e = .returned (.tuple #[.string ⟨m.toArray⟩, .string ⟨t.toArray⟩, .int .i64 v, .bool b]) ∧ Gr w w' := by
  have := line_any l w hG hl; rw [h] at this; exact this
theorem rline_is (l m t : List UInt8) (v : Nat) (b : Bool) (h : lineB l = (m, t, v, b)) (w : World) (hl : l.length ≤ 1000000) :
    Calls Tryz.prog 49 #[.string ⟨l.toArray⟩] w fun e w' => e = .returned (.tuple #[.string ⟨m.toArray⟩, .string ⟨t.toArray⟩, .int .i64 v, .bool b]) ∧ Gr w w' := by
  have := rline_any l w hl; rw [h] at this; exact this
theorem target_is (l p q : List UInt8) (b : Bool) (h : targetB l = (p, q, b)) (w : World) (hG : G w) (hl : l.length ≤ 1000000) :
    Calls Tryz.prog 30 #[.string ⟨l.toArray⟩] w fun e w' => e = .returned (.tuple #[.string ⟨p.toArray⟩, .string ⟨q.toArray⟩, .bool b]) ∧ Gr w w' := by
  have := target_any l w hG hl; rw [h] at this; exact this
theorem rtarget_is (l p q : List UInt8) (b : Bool) (h : targetB l = (p, q, b)) (w : World) (hl : l.length ≤ 1000000) :
    Calls Tryz.prog 50 #[.string ⟨l.toArray⟩] w fun e w' => e = .returned (.tuple #[.string ⟨p.toArray⟩, .string ⟨q.toArray⟩, .bool b]) ∧ Gr w w' := by
  have := rtarget_any l w hl; rw [h] at this; exact this
end Go.Proofs.YtpncfeaaffgkfaaGreatDoor
namespace Go.Proofs.YtpncfeaaffgkfaaGreatDoor
open Go.RowKit
attribute [local go_sem] Oper.semAt_some

theorem fieldsL_none {ls : List (List UInt8)} {k : Nat} (hk : k < ls.length) (h : (parseB ls[k]).2.2 = false) : fieldsL ls = none := by
  induction ls generalizing k with
  | nil => simp at hk
  | cons l t ih =>
    unfold fieldsL
    cases k with
    | zero =>
      rw [show (l :: t)[0] = l from rfl] at h
      rw [h]; rfl
    | succ k =>
      rw [ih (k := k) (by simpa using hk) h]
      split <;> rfl
theorem fieldsL_snoc {ls : List (List UInt8)} {fs : List Fl} {l n v : List UInt8} (h : fieldsL ls = some fs) (hp : parseB l = (n, v, true)) : fieldsL (ls ++ [l]) = some (fs ++ [(n, v)]) := by
  induction ls generalizing fs with
  | nil =>
    cases h
    simp [fieldsL, hp]
  | cons x t ih =>
    unfold fieldsL at h
    rw [List.cons_append]
    unfold fieldsL
    split at h
    · rename_i hx
      cases e : fieldsL t with
      | none => rw [e] at h; cases h
      | some gs =>
        rw [e] at h
        cases h
        rw [if_pos hx, ih e]
        rfl
    · cases h
def FldPost (ls : List (List UInt8)) (w : World) (e : Ending) (w' : World) : Prop :=
  ∃ v b, e = .returned (.tuple #[v, .bool b]) ∧ Gr w w' ∧ ((fieldsL ls = none ∧ v = .slice none 0 0 ∧ b = false) ∨ ∃ fs, fieldsL ls = some fs ∧ fs.length = ls.length ∧ b = true ∧ OwnF w.heap.size w' v fs)
def FldRel (w : World) (ls : List (List UInt8)) (v i : Value) (W : World) : Prop :=
  ∃ (k : Nat) (fs : List Fl) (p : Option Addr) (cap : Nat), k ≤ ls.length ∧ i = .int .i64 k ∧ v = .slice p fs.length cap ∧ fs.length = k ∧ fieldsL (ls.take k) = some fs ∧ OwnF w.heap.size W (.slice p fs.length cap) fs ∧ Gr w W
set_option maxHeartbeats 8000000 in
set_option maxRecDepth 100000 in
theorem qfields_any (ls : List (List UInt8)) (t : Value) (w : World) (hG : G w) (hf : TextsAt w t ls) (hn : ls.length ≤ 100000) (hs : ∀ l ∈ ls, l.length ≤ 900000) :
    Calls Tryz.prog 75 #[t] w (FldPost ls w) := by
  have hG' := Lib.hid hG
  obtain ⟨p, cap, rfl, _, hc⟩ := hf
  have hc' := Lib.hid hc
  have hs' := Lib.hid hs
  clear hc hs hG
  go_enter Tryz.func75, Tryz.ntmps75
  go_wp2
  go_loopw [4, 11] (fun v i W => FldRel w ls v i W) (fun _ i _ => ls.length - (intOf i).toNat)
  case atStart => exact ⟨0, [], none, 0, Nat.zero_le _, rfl, rfl, rfl, rfl, World.ownsRow_nil _ _ _ _, Gr.refl _⟩
  case round =>
    obtain ⟨k, fs, pv, cv, hk, rfl, rfl, hfl, hfs, ho, hg⟩ := hrel
    have hfs' := Lib.hid hfs
    have ho' := Lib.hid ho
    have hflb : fs.length ≤ 100000 := by omega
    have hfl' := Lib.hid hfl
    clear hfl
    have hg' := Lib.hid hg
    by_cases hlt : k < ls.length
    · obtain ⟨b, off, rfl, h1⟩ := hc'.out k hlt
      have d1 := hg.cell h1
      have hsl9 := hs'.out _ (List.getElem_mem hlt)
      have hnone := Lib.hid (fun h => @fieldsL_none ls k hlt h)
      have htk : ls.take (k + 1) = ls.take k ++ [ls[k]] := List.take_succ_eq_append_getElem hlt
      obtain ⟨l, hl⟩ : ∃ x, ls[k] = x := ⟨_, rfl⟩
      rw [hl] at d1 hsl9 hnone htk
      have hkI : (k : Int) < ls.length := by omega
      have hpl : l.length < 4294967281 := by omega
      have hpc := Lib.hid (fun W hGW => parse_any l W hGW hpl)
      obtain ⟨⟨n1, v1, okp⟩, hP⟩ : ∃ x, parseB l = x := ⟨_, rfl⟩
      rw [hP] at hpc hnone
      have hP' := Lib.hid hP
      have htk' := Lib.hid htk
      clear hP htk hl h1 hfs hpl ho hg
      go_wp2_with fail
      refine (hpc.out _ (hG'.out.gr hg'.out)).mono ?_
      rintro e w3 ⟨rfl, hb3⟩
      unfold pVal
      dsimp only
      have y0 : (w3.alloc (.cells #[.string ⟨n1.toArray⟩, .string ⟨v1.toArray⟩] 45)).cell? ⟨w3.heap.size, 0, none⟩ = some (.string ⟨n1.toArray⟩) := cell_new7 w3 [.string ⟨n1.toArray⟩, .string ⟨v1.toArray⟩] _ 0 _ rfl
      have y1 : (w3.alloc (.cells #[.string ⟨n1.toArray⟩, .string ⟨v1.toArray⟩] 45)).cell? ⟨w3.heap.size, 1, none⟩ = some (.string ⟨v1.toArray⟩) := cell_new7 w3 [.string ⟨n1.toArray⟩, .string ⟨v1.toArray⟩] _ 1 _ rfl
      have gx := hb3.trans (Gr.alloc w3 (.cells #[.string ⟨n1.toArray⟩, .string ⟨v1.toArray⟩] 45))
      clear d1
      cases okp with
      | false =>
        have hno := Lib.hid (hnone.out rfl)
        have g9 := Lib.hid (hg'.out.trans gx)
        clear gx hb3
        go_wp2
        go_ret2
        exact ⟨_, false, rfl, g9.out, .inl ⟨hno.out, rfl, rfl⟩⟩
      | true =>
        go_upto_region 8 with (fail)
        generalize w3.alloc (.cells #[.string ⟨n1.toArray⟩, .string ⟨v1.toArray⟩] 45) = w4 at y0 y1 gx ⊢
        have ho4 := (ho'.out.ch (gx.to_ch (fun _ => False)) (fun _ h => h.elim))
        have g4 := Lib.hid (hg'.out.trans gx)
        have ho4' := Lib.hid ho4
        have hA : ∀ O, (w4.alloc O).ownsRow w.heap.size 45 2 (.slice pv fs.length cv) fs.length (fcells fs) := fun O => World.ownsRow.alloc ho4 O
        obtain ⟨i0, hi, hz0, hz1, hzb⟩ := info_parts infoField
        have hbz := Below.size g4.out
        clear gx hb3 ho4
        go_wp2_with (at_builtin; refine wpList_append_own _ rfl _ _ 25 rfl w.heap.size 45 i0 (.agg #[.string ⟨#[]⟩, .string ⟨#[]⟩]) 2 32 Tryz.underlying25 hi hz0 hz1 hzb rfl (by decide) _ _ _ rfl (hA _) ⟨w4.heap.size, 0, none⟩ 1 1 [.string ⟨n1.toArray⟩, .string ⟨v1.toArray⟩] rfl rfl ?qc2 ?qc3 ?qc4 ?qc5 ?qc6 ?_)
        case qc2 => exact cells_two _ _ _ _
        case qc3 => simp [Value.oneCell']
        case qc4 => unfold maxLen; omega
        case qc5 => omega
        case qc6 => simp; omega
        intro v' w9 hown3 hgrow _
        have hown4 : OwnF w.heap.size w9 v' (fs ++ [(n1, v1)]) := by
          unfold OwnF; rw [fcells_app, List.length_append]; exact hown3
        obtain ⟨p9, c9, rfl, _⟩ := hown4.at
        have hlen9 : (fs ++ [(n1, v1)]).length = fs.length + 1 := by simp
        have hrel9 := Lib.hid (show FldRel w ls (.slice p9 (fs ++ [(n1, v1)]).length c9) (.int .i64 ((k : Int) + 1)) w9 from
          ⟨k + 1, fs ++ [(n1, v1)], p9, c9, hlt, rfl, rfl, by rw [hlen9, hfl'.out], by rw [htk'.out]; exact fieldsL_snoc hfs'.out hP'.out, hown4, (g4.out.alloc1 _).ch (Ch.of_grown hgrow) (fun k e => (World.ownsRow.lt ho4'.out k e).1)⟩)
        rw [hlen9] at hrel9 ⊢
        clear hown3 hgrow hA hi hz0 hz1 hzb hown4 hlen9
        go_wp2
        go_roundw
        case rel => exact hrel9.out
        case measure => simp [intOf]; omega
    · have hkl : k = ls.length := by omega
      have hkI : ¬ (k : Int) < ls.length := by omega
      have hfin := Lib.hid (show fieldsL ls = some fs by have := hfs'.out; rwa [hkl, List.take_length] at this)
      have hfl2 := Lib.hid (hfl'.out.trans hkl)
      clear hfs hg ho
      go_wp2
      go_ret2
      exact ⟨_, true, rfl, hg'.out, .inr ⟨fs, hfin.out, hfl2.out, rfl, ho'.out⟩⟩
end Go.Proofs.YtpncfeaaffgkfaaGreatDoor
