/-
  Replies: the walk over ReplyRow.
-/
import Derived.Test.YtfcokldbpjkjpaaGreatDoorNy
import Derived.Test.YtfcokldbpjkjpaaGreatDoorWe
import Derived.Maps.AppendAt
import Derived.Deep.RegionHeld3
namespace Go.Proofs.YtfcokldbpjkjpaaGreatDoor
open Go.RowKit
attribute [local go_sem] Oper.semAt_some

/-- What was sent: a reply, its head alone?, its fields' value. -/
abbrev Sn := Rp × Bool × Value
def Sn.rp (x : Sn) : Rp := ⟨x.1.code, x.1.fs, if x.2.1 then [] else x.1.b⟩
def Sn.bytes (x : Sn) : List UInt8 := headR x.1 false ++ if x.2.1 then [] else x.1.b
def scell (x : Sn) : List Value := [.int .i64 x.1.code, x.2.2, .string ⟨(if x.2.1 then [] else x.1.b : List UInt8).toArray⟩]
def scells (S : List Sn) : List Value := S.flatMap scell
def mcells (S : List Sn) : List Value := S.map fun x => .bool x.2.1
def allL (S : List Sn) : List UInt8 := S.flatMap Sn.bytes
theorem scells_len (S : List Sn) : (scells S).length = S.length * 3 := by
  induction S with
  | nil => rfl
  | cons x t ih => simp [scells, scell] at ih ⊢; omega
theorem scells_get : ∀ (S : List Sn) (i : Nat) (hi : i < S.length), (scells S)[i * 3]? = some (.int .i64 S[i].1.code) ∧ (scells S)[i * 3 + 1]? = some S[i].2.2 ∧ (scells S)[i * 3 + 2]? = some (.string ⟨(if S[i].2.1 then [] else S[i].1.b : List UInt8).toArray⟩)
  | x :: t, 0, _ => ⟨rfl, rfl, rfl⟩
  | x :: t, i + 1, hi => by
    have := scells_get t i (by simpa using hi)
    have e : scells (x :: t) = scell x ++ scells t := rfl
    have hl : (scell x).length = 3 := rfl
    rw [e]
    rw [List.getElem?_append_right (by omega), List.getElem?_append_right (by omega), List.getElem?_append_right (by omega), hl]
    rw [show (i + 1) * 3 - 3 = i * 3 by omega, show (i + 1) * 3 + 1 - 3 = i * 3 + 1 by omega, show (i + 1) * 3 + 2 - 3 = i * 3 + 2 by omega]
    exact this
theorem infoReply : (Tryz.prog.info? 24).map (fun i => (i.zero, i.size, i.bytes)) = some (some (.agg #[.int .i64 0, .slice none 0 0, .string ⟨#[]⟩]), 3, 48) := by kernel_rfl
theorem infoBool : (Tryz.prog.info? 4).map (fun i => (i.zero, i.size, i.bytes)) = some (some (.bool false), 1, 1) := by kernel_rfl
/-- The two rows, in memory of one's own, apart from each other. -/
def RowW (wl : World) (S : List Sn) (vs va : Value) (W : World) : Prop :=
  W.ownsRow wl.heap.size 24 3 vs S.length (scells S) ∧ W.ownsRow wl.heap.size 4 1 va S.length (mcells S) ∧ (∀ g, vs.ownBlock = some g → va.ownBlock ≠ some g) ∧ Gr wl W
theorem ownsRow_gr3 {W W' : World} {B : Nat} {e : TypeId} {sz : Nat} {v : Value} {n : Nat} {xs : List Value} (h : W.ownsRow B e sz v n xs) (hg : Gr W W') : W'.ownsRow B e sz v n xs := by
  obtain ⟨h1, h2⟩ := h
  refine ⟨h1, ?_⟩
  rcases h2 with h2 | ⟨g, cap, cur, rfl, hb, hh, rest⟩
  · exact .inl h2
  · exact .inr ⟨g, cap, cur, rfl, hb, (hg.to_ch (fun _ => False)).get hh (fun h => h), rest⟩
theorem RowW.gr {wl W W' : World} {S : List Sn} {vs va : Value} (h : RowW wl S vs va W) (hg : Gr W W') : RowW wl S vs va W' :=
  ⟨ownsRow_gr3 h.1 hg, ownsRow_gr3 h.2.1 hg, h.2.2.1, h.2.2.2.trans hg⟩
theorem RowW.slices {wl W : World} {S : List Sn} {vs va : Value} (h : RowW wl S vs va W) : (∃ p cap, vs = .slice p S.length cap) ∧ ∃ p cap, va = .slice p S.length cap := by
  refine ⟨?_, ?_⟩
  · rcases h.1.2 with ⟨rfl, h0⟩ | ⟨g, cap, cur, rfl, _⟩
    · exact ⟨none, 0, by rw [h0]⟩
    · exact ⟨_, _, rfl⟩
  · rcases h.2.1.2 with ⟨rfl, h0⟩ | ⟨g, cap, cur, rfl, _⟩
    · exact ⟨none, 0, by rw [h0]⟩
    · exact ⟨_, _, rfl⟩
/-- One more is sent. -/
theorem RowW.push {wl W W2 W3 : World} {S : List Sn} {x : Sn} {vs va vs' va' : Value} {o o2 : Obj} (h : RowW wl S vs va W)
    (hown : W2.ownsRow wl.heap.size 24 3 vs' (S.length + 1) (scells S ++ scell x)) (hgrow : (W.alloc o).grownBy W2 vs.ownBlock) (hat : vs'.ownBlock = vs.ownBlock ∨ vs'.ownBlock = some (W.heap.size + 1))
    (hown2 : W3.ownsRow wl.heap.size 4 1 va' (S.length + 1) (mcells S ++ [.bool x.2.1])) (hgrow2 : (W2.alloc o2).grownBy W3 va.ownBlock) (hat2 : va'.ownBlock = va.ownBlock ∨ va'.ownBlock = some (W2.heap.size + 1)) :
    RowW wl (S ++ [x]) vs' va' W3 := by
  obtain ⟨h1, h2, h3, h4⟩ := h
  have hsz : (W.alloc o).heap.size ≤ W2.heap.size := hgrow.size
  have hz1 : W.heap.size < (W.alloc o).heap.size := by simp
  have hz2 : W2.heap.size < (W2.alloc o2).heap.size := by simp
  have l1 := World.ownsRow.lt h1
  have l2 := World.ownsRow.lt h2
  have l3 := World.ownsRow.lt hown
  have hdis : ∀ g, vs'.ownBlock = some g → va.ownBlock ≠ some g := fun g hg hv => by
    rcases hat with e | e
    · exact h3 g (e ▸ hg) hv
    · rw [e] at hg; injection hg with hg
      have := (l2 g hv).2; omega
  have hne : vs'.ownBlock = none ∨ vs'.ownBlock ≠ va.ownBlock := by
    cases e : vs'.ownBlock with
    | none => exact .inl rfl
    | some g => exact .inr (fun e2 => hdis g e e2.symm)
  refine ⟨?_, ?_, fun g hg hv => ?_, ?_⟩
  · have e : scells (S ++ [x]) = scells S ++ scell x := by simp [scells]
    rw [e, List.length_append]
    exact World.ownsRow.kept (World.ownsRow.alloc hown o2) hgrow2 hne
  · have e : mcells (S ++ [x]) = mcells S ++ [.bool x.2.1] := by simp [mcells]
    rw [e, List.length_append]
    exact hown2
  · rcases hat2 with e | e
    · exact hdis g hg (e ▸ hv)
    · rw [e] at hv; injection hv with hv
      have := (l3 g hg).2; omega
  · have a1 : Gr wl W2 := (h4.alloc1 o).ch (Ch.of_grown hgrow) (fun k e => (l1 k e).1)
    exact (a1.alloc1 o2).ch (Ch.of_grown hgrow2) (fun k e => (l2 k e).1)
theorem cells_three (w : World) (x y z : Value) (t : TypeId) : ∀ j u, [x, y, z][j]? = some u → (w.alloc (.cells #[x, y, z] t)).cell? ((⟨w.heap.size, 0, none⟩ : Addr).add j) = some u := by
  intro j u hj
  match j, hj with
  | 0, hj => simp at hj; subst hj; simp [Addr.add]
  | 1, hj => simp at hj; subst hj; simp [Addr.add]
  | 2, hj => simp at hj; subst hj; simp [Addr.add]
theorem row_cells {W : World} {B : Nat} {e : TypeId} {sz : Nat} {p : Option Addr} {n cap : Nat} {xs : List Value} (h : W.ownsRow B e sz (.slice p n cap) n xs) (h0 : 0 < n) : ∃ g, p = some ⟨g, 0, none⟩ ∧ g < W.heap.size ∧ ∀ i u, xs[i]? = some u → W.cell? ⟨g, i, none⟩ = some u := by
  have h' := h
  rcases h.2 with ⟨_, hn⟩ | ⟨g, cap', cur, e1, hb, hh, hn, hm, hcs, ht⟩
  · omega
  · injection e1 with e1 _ _
    subst e1
    refine ⟨g, rfl, (Array.getElem?_eq_some_iff.1 hh).1, fun i u hu => ?_⟩
    rw [cell_of_row W g i cur e (0, 0) hh]
    rw [← ht, List.getElem?_take] at hu
    split at hu
    · simpa using hu
    · cases hu
theorem slice_of {W : World} {B : Nat} {e : TypeId} {sz : Nat} {v : Value} {n : Nat} {xs : List Value} (h : W.ownsRow B e sz v n xs) : ∃ p cap, v = .slice p n cap := by
  rcases h.2 with ⟨rfl, h0⟩ | ⟨g, cap, cur, rfl, _⟩
  · exact ⟨none, 0, by rw [h0]⟩
  · exact ⟨_, _, rfl⟩
theorem allL_app (S : List Sn) (x : Sn) : allL (S ++ [x]) = allL S ++ x.bytes := by simp [allL]
theorem RowW.marks {wl W W2 : World} {S : List Sn} {vs va : Value} {o : Obj} (h : RowW wl S vs va W) (hgrow : (W.alloc o).grownBy W2 vs.ownBlock) : W2.ownsRow wl.heap.size 4 1 va S.length (mcells S) := by
  refine World.ownsRow.kept (World.ownsRow.alloc h.2.1 o) hgrow ?_
  cases e : va.ownBlock with
  | none => exact .inl rfl
  | some g => exact .inr (fun e2 => h.2.2.1 g e2.symm e)
/-- Where the sending stands. -/
def R1 (wl : World) (rs : List Rp) (all sent asked i : Value) (W : World) : Prop := ∃ (k : Nat) (S : List Sn), k ≤ rs.length ∧ all = .string ⟨(allL S).toArray⟩ ∧ i = .int .i64 k ∧ S.length ≤ k ∧ (allL S).length ≤ 170000 ∧ (∀ x ∈ S, rightR x.1 = true ∧ Small10 x.1 ∧ FieldsAt wl x.2.2 x.1.fs) ∧ RowW wl S sent asked W
/-- Where the reading stands. -/
def R2 (S : List Sn) (w0 : World) (all i : Value) (W : World) : Prop := ∃ j : Nat, j ≤ S.length ∧ all = .string ⟨(allL (S.drop j)).toArray⟩ ∧ i = .int .i64 j ∧ Gr w0 W
theorem bytes_len {r : Rp} (hd : Bool) (hR : rightR r = true) (hs : Small10 r) : (headR r false ++ if hd then [] else r.b).length ≤ 141000 := by
  obtain ⟨cn, hcn, hc1, hc2, _, _, _⟩ := rightR_open hR
  have h1 := head_len false hs ⟨by omega, by omega⟩
  have h2 := hs.2.1
  rw [List.length_append]
  cases hd
  · show _ + r.b.length ≤ _; omega
  · show _ + 0 ≤ _; omega
set_option maxHeartbeats 32000000 in
set_option maxRecDepth 100000 in
theorem row10_any (rs : List Rp) (hs : List Bool) (tr th : Value) (w : World) (hG : G w) (hr : RepsAt w tr rs) (hin : ∀ x ∈ rs, RepIn x) (hm : MarksAt w th hs) (hml : hs.length ≤ 9223372036854775807) (hrl : rs.length ≤ 9223372036854775807) :
    Calls Tryz.prog 7 #[tr, th] w fun e w' => e = .returned (.bool true) ∧ Gr w w' := by
  have hG' := Lib.hid hG
  obtain ⟨p, cap, rfl, hc⟩ := hr
  obtain ⟨ph, caph, rfl, hmc⟩ := hm
  have hc' := Lib.hid hc
  have hmc' := Lib.hid hmc
  have hin' := Lib.hid hin
  clear hc hmc hin hG
  by_cases h20 : (20 : Int) < rs.length
  · go_enter Tryz.func7, Tryz.ntmps7
    go_wp2_with fail
    refine (awake10_any _ hG'.out).mono ?_
    rintro e w1 ⟨rfl, hb⟩
    have g1 := Lib.hid hb
    clear hb
    go_wp2
    go_ret
    exact ⟨rfl, g1.out⟩
  · have hr20 : rs.length ≤ 20 := by omega
    go_enter Tryz.func7, Tryz.ntmps7
    go_wp2_with fail
    refine (awake10_any _ hG'.out).mono ?_
    rintro e wl ⟨rfl, hb⟩
    have g1 := Lib.hid hb
    have hst0 := Lib.hid (show R1 wl rs (.string ⟨#[]⟩) (.slice none 0 0) (.slice none 0 0) (.int .i64 0) wl from
      ⟨0, [], Nat.zero_le _, rfl, rfl, Nat.le_refl _, by simp [allL], fun x hx => (by cases hx), World.ownsRow_nil _ _ _ _, World.ownsRow_nil _ _ _ _, fun g hg => by simp [Value.ownBlock] at hg, Gr.refl _⟩)
    clear hb
    go_wp2
    go_loopw [5, 6, 7, 8] (fun all sent asked i W => R1 wl rs all sent asked i W) (fun _ _ _ i _ => rs.length - (intOf i).toNat)
    case atStart => exact hst0.out
    case round =>
      obtain ⟨k, S, hk, rfl, rfl, hSk, hSl, hSx, hRow⟩ := hrel
      obtain ⟨⟨ps, cs, rfl⟩, pa, ca, rfl⟩ := hRow.slices
      have hSx' := Lib.hid hSx
      have hRow1 := Lib.hid hRow
      have hgl := hRow.2.2.2
      obtain ⟨A, hA⟩ : ∃ A, allL S = A := ⟨_, rfl⟩
      rw [hA] at hSl ⊢
      have hA' := Lib.hid hA
      clear hst0 hSx hRow hA
      by_cases hlt : k < rs.length
      · obtain ⟨b, off, v, rfl, d0, d1, d2, hF⟩ := hc'.out k hlt
        obtain ⟨i1, i2, i3, i4⟩ := hin'.out _ (List.getElem_mem hlt)
        obtain ⟨r, hrk⟩ : ∃ r, rs[k] = r := ⟨_, rfl⟩
        rw [hrk] at d0 d2 hF i1 i2 i3 i4
        obtain ⟨pv, cv, rfl, _⟩ := id hF
        have hFw := Lib.hid hF
        have hgt := Lib.hid (fun W (hg : Gr w W) => great11_any r (.slice pv r.fs.length cv) W (hF.gr hg) i1 i2 i3)
        have hby := Lib.hid (fun hd W (hg : Gr w W) hs => bytes_of r (.slice pv r.fs.length cv) hd false W (hG'.out.gr hg) (hF.gr hg) hs i2 i4)
        have hsm := Lib.hid (fun h1 h2 => @small_of r h1 h2)
        have hbl := Lib.hid (fun hd h1 h2 => @bytes_len r hd h1 h2)
        have hop := Lib.hid (fun hd => @bytes_open r hd false)
        replace d0 := (g1.out.trans hgl).cell d0
        replace d1 := (g1.out.trans hgl).cell d1
        replace d2 := (g1.out.trans hgl).cell d2
        have g2 := Lib.hid (g1.out.trans hgl)
        clear hF i1 i2 i3 i4 hrk hgl
        obtain ⟨c, fs, bo⟩ := r
        unfold Rp.V at hgt hby
        dsimp only at d0 d1 d2 hgt hby hsm hbl hop hFw ⊢
        have hkI : (k : Int) < rs.length := by omega
        have hk20 : k < 20 := by omega
        go_wp2_with fail
        refine (hgt.out _ g2.out).mono ?_
        rintro e w2 ⟨q, rfl, hq, hb⟩
        replace d0 := hb.cell d0
        replace d1 := hb.cell d1
        replace d2 := hb.cell d2
        have g3 := Lib.hid (g2.out.trans hb)
        have hRow2 := Lib.hid (hRow1.out.gr hb)
        have hq' := Lib.hid hq
        clear hb hq hRow1
        cases q with
        | true =>
          go_wp2
          go_ret
          exact ⟨rfl, g3.out⟩
        | false =>
          have hsm2 := Lib.hid (hq'.out rfl)
          clear hq'
          by_cases hAI : (20000 : Int) < A.length
          · go_wp2
            go_ret
            exact ⟨rfl, g3.out⟩
          · by_cases hkh : k < hs.length
            · obtain ⟨b2, off2, rfl, m0⟩ := hmc'.out k hkh
              replace m0 := g3.out.cell m0
              have hkhI : (k : Int) < hs.length := by omega
              obtain ⟨hd, hhd⟩ : ∃ x, hs[k] = x := ⟨_, rfl⟩
              rw [hhd] at m0
              clear hhd hkh
              cases hd with
              | true =>
                go_wp2_with fail
                refine (hby.out true _ g3.out hsm2.out).mono ?_
                rintro e w4 ⟨rfl, hb⟩
                replace d0 := hb.cell d0
                replace d1 := hb.cell d1
                replace d2 := hb.cell d2
                have g4 := Lib.hid (g3.out.trans hb)
                have hRow4 := Lib.hid (hRow2.out.gr hb)
                clear hb
                rcases hop.out true with ⟨e9, _⟩ | ⟨hR, _, e9⟩
                · rw [e9]
                  unfold byteV
                  dsimp only
                  clear e9
                  have hrel9 := Lib.hid (show R1 wl rs (.string ⟨A.toArray⟩) (.slice ps S.length cs) (.slice pa S.length ca) (.int .i64 ((k : Int) + 1)) w4 from
                    ⟨k + 1, S, by omega, by rw [hA'.out], rfl, by omega, by rw [hA'.out]; exact hSl, hSx'.out, hRow4.out⟩)
                  go_wp2
                  go_roundw
                  case rel => exact hrel9.out
                  case measure => simp [intOf]; omega
                · rw [e9]
                  unfold byteV
                  dsimp only
                  have hsmall := Lib.hid (hsm.out hsm2.out hR)
                  have hTl := hbl.out true hR hsmall.out
                  obtain ⟨T, hT⟩ : ∃ T, (headR ⟨c, fs, bo⟩ false ++ if true = true then [] else bo : List UInt8) = T := ⟨_, rfl⟩
                  rw [hT] at hTl ⊢
                  have hT' := Lib.hid hT
                  have hR' := Lib.hid hR
                  clear e9 hT hR
                  have hcat : (⟨A.toArray⟩ : ByteArray) ++ ⟨T.toArray⟩ = ⟨(A ++ T).toArray⟩ := cat_mk A T
                  have hcl : ¬ 9223372036854775807 < A.length + T.length := by omega
                  have a0 : (w4.alloc (.cells #[.int .i64 c, .slice pv fs.length cv, .string ⟨#[]⟩] 24)).cell? ⟨w4.heap.size, 0, none⟩ = some (.int .i64 c) := by simp [go_sem]
                  have a1 : (w4.alloc (.cells #[.int .i64 c, .slice pv fs.length cv, .string ⟨#[]⟩] 24)).cell? ⟨w4.heap.size, 1, none⟩ = some (.slice pv fs.length cv) := by simp [go_sem]
                  have a2 : (w4.alloc (.cells #[.int .i64 c, .slice pv fs.length cv, .string ⟨#[]⟩] 24)).cell? ⟨w4.heap.size, 2, none⟩ = some (.string ⟨#[]⟩) := by simp [go_sem]
                  have ga := Gr.alloc w4 (.cells #[.int .i64 c, .slice pv fs.length cv, .string ⟨#[]⟩] 24)
                  go_upto_region 19 with (fail)
                  generalize (w4.alloc (.cells #[.int .i64 c, .slice pv fs.length cv, .string ⟨#[]⟩] 24)) = w5 at a0 a1 a2 ga ⊢
                  have g5 := Lib.hid (g4.out.trans ga)
                  have hRow5 := Lib.hid (hRow4.out.gr ga)
                  clear ga d0 d1 d2
                  have hs20 : S.length < 20 := by omega
                  obtain ⟨i0, hi, hz0, hz1, hzb⟩ := info_parts infoReply
                  obtain ⟨j0, hj, jz0, jz1, jzb⟩ := info_parts infoBool
                  have hoA : ∀ O, (w5.alloc O).ownsRow wl.heap.size 24 3 (.slice ps S.length cs) S.length (scells S) := fun O => World.ownsRow.alloc hRow5.out.1 O
                  have hbz := Below.size hRow5.out.2.2.2
                  have k2 := cells_three w5 (.int .i64 c) (.slice pv fs.length cv) (.string ⟨#[]⟩) 24
                  have k3 : ∀ u ∈ [Value.int .i64 c, .slice pv fs.length cv, .string ⟨#[]⟩], u.oneCell' = true := by simp [Value.oneCell']
                  have k4 : S.length + 1 ≤ maxLen := by unfold maxLen; omega
                  have k5 : (S.length + 1) * 48 ≤ 140737488355328 := by omega
                  have k6 : wl.heap.size ≤ (w5.alloc (.cells #[.int .i64 c, .slice pv fs.length cv, .string ⟨#[]⟩] 24)).heap.size := by simp; omega
                  go_wp2_with (at_builtin; refine wpList_append_own_at _ rfl _ _ 45 rfl wl.heap.size 24 i0 (.agg #[.int .i64 0, .slice none 0 0, .string ⟨#[]⟩]) 3 48 Tryz.underlying45 hi hz0 hz1 hzb rfl (by decide) _ _ _ rfl (hoA _) ⟨w5.heap.size, 0, none⟩ 1 1 [.int .i64 c, .slice pv fs.length cv, .string ⟨#[]⟩] rfl rfl k2 k3 k4 k5 k6 ?_)
                  intro vs' w6 hown6 hgrow6 _ hat6
                  obtain ⟨ps', cs', rfl⟩ := slice_of hown6
                  have hmk := Lib.hid (hRow5.out.marks hgrow6)
                  have hown6' := Lib.hid hown6
                  have hgrow6' := Lib.hid hgrow6
                  have hat6' := Lib.hid hat6
                  have hoB : ∀ O, (w6.alloc O).ownsRow wl.heap.size 4 1 (.slice pa S.length ca) S.length (mcells S) := fun O => World.ownsRow.alloc hmk.out O
                  have hbz6 := hgrow6.size
                  have l2 : ∀ j u, [Value.bool true][j]? = some u → (w6.alloc (.cells #[.bool true] 4)).cell? ((⟨w6.heap.size, 0, none⟩ : Addr).add j) = some u := cell_one_new w6 (.bool true) 4
                  have l3 : ∀ u ∈ [Value.bool true], u.oneCell' = true := by simp [Value.oneCell']
                  have l5 : (S.length + 1) * 1 ≤ 140737488355328 := by omega
                  have l6 : wl.heap.size ≤ (w6.alloc (.cells #[.bool true] 4)).heap.size := by simp at hbz6 ⊢; omega
                  clear hown6 hgrow6 hat6 k2 k3 k5 k6 hi hz0 hz1 hzb hoA a0 a1 a2 hbz6
                  go_wp2_with (at_builtin; refine wpList_append_own_at _ rfl _ _ 46 rfl wl.heap.size 4 j0 (.bool false) 1 1 Tryz.underlying46 hj jz0 jz1 jzb rfl (by decide) _ _ _ rfl (hoB _) ⟨w6.heap.size, 0, none⟩ 1 1 [.bool true] rfl rfl l2 l3 k4 l5 l6 ?_)
                  intro va' w7 hown7 hgrow7 _ hat7
                  obtain ⟨pa', ca', rfl⟩ := slice_of hown7
                  have hrow7 : RowW wl (S ++ [((⟨c, fs, bo⟩ : Rp), true, Value.slice pv fs.length cv)]) (.slice ps' (S.length + 1) cs') (.slice pa' (S.length + 1) ca') w7 :=
                    RowW.push (x := ((⟨c, fs, bo⟩ : Rp), true, Value.slice pv fs.length cv)) hRow5.out hown6'.out hgrow6'.out hat6'.out hown7 hgrow7 hat7
                  have hrel9 := Lib.hid (show R1 wl rs (.string ⟨(A ++ T).toArray⟩) (.slice ps' (S.length + 1) cs') (.slice pa' (S.length + 1) ca') (.int .i64 ((k : Int) + 1)) w7 from by
                    refine ⟨k + 1, S ++ [((⟨c, fs, bo⟩ : Rp), true, Value.slice pv fs.length cv)], by omega, ?_, rfl, by simp; omega, ?_, ?_, hrow7⟩
                    · rw [allL_app, hA'.out, ← hT'.out]; rfl
                    · rw [allL_app, hA'.out, List.length_append]
                      have : (Sn.bytes ((⟨c, fs, bo⟩ : Rp), true, Value.slice pv fs.length cv)).length = T.length := by rw [← hT'.out]; rfl
                      omega
                    · intro y hy
                      rcases List.mem_append.1 hy with hy | hy
                      · exact hSx'.out y hy
                      · rw [List.mem_singleton] at hy
                        subst hy
                        exact ⟨hR'.out, hsmall.out, hFw.out.gr g1.out⟩)
                  clear hown7 hgrow7 hat7 hrow7 l2 l3 l5 l6 hj jz0 jz1 jzb hoB k4
                  go_wp2
                  go_roundw
                  case rel => exact hrel9.out
                  case measure => simp [intOf]; omega
              | false =>
                go_wp2_with fail
                refine (hby.out false _ g3.out hsm2.out).mono ?_
                rintro e w4 ⟨rfl, hb⟩
                replace d0 := hb.cell d0
                replace d1 := hb.cell d1
                replace d2 := hb.cell d2
                have g4 := Lib.hid (g3.out.trans hb)
                have hRow4 := Lib.hid (hRow2.out.gr hb)
                clear hb
                rcases hop.out false with ⟨e9, _⟩ | ⟨hR, _, e9⟩
                · rw [e9]
                  unfold byteV
                  dsimp only
                  clear e9
                  have hrel9 := Lib.hid (show R1 wl rs (.string ⟨A.toArray⟩) (.slice ps S.length cs) (.slice pa S.length ca) (.int .i64 ((k : Int) + 1)) w4 from
                    ⟨k + 1, S, by omega, by rw [hA'.out], rfl, by omega, by rw [hA'.out]; exact hSl, hSx'.out, hRow4.out⟩)
                  go_wp2
                  go_roundw
                  case rel => exact hrel9.out
                  case measure => simp [intOf]; omega
                · rw [e9]
                  unfold byteV
                  dsimp only
                  have hsmall := Lib.hid (hsm.out hsm2.out hR)
                  have hTl := hbl.out false hR hsmall.out
                  obtain ⟨T, hT⟩ : ∃ T, (headR ⟨c, fs, bo⟩ false ++ if false = true then [] else bo : List UInt8) = T := ⟨_, rfl⟩
                  rw [hT] at hTl ⊢
                  have hT' := Lib.hid hT
                  have hR' := Lib.hid hR
                  clear e9 hT hR
                  have hcat : (⟨A.toArray⟩ : ByteArray) ++ ⟨T.toArray⟩ = ⟨(A ++ T).toArray⟩ := cat_mk A T
                  have hcl : ¬ 9223372036854775807 < A.length + T.length := by omega
                  have a0 : (w4.alloc (.cells #[.int .i64 c, .slice pv fs.length cv, .string ⟨bo.toArray⟩] 24)).cell? ⟨w4.heap.size, 0, none⟩ = some (.int .i64 c) := by simp [go_sem]
                  have a1 : (w4.alloc (.cells #[.int .i64 c, .slice pv fs.length cv, .string ⟨bo.toArray⟩] 24)).cell? ⟨w4.heap.size, 1, none⟩ = some (.slice pv fs.length cv) := by simp [go_sem]
                  have a2 : (w4.alloc (.cells #[.int .i64 c, .slice pv fs.length cv, .string ⟨bo.toArray⟩] 24)).cell? ⟨w4.heap.size, 2, none⟩ = some (.string ⟨bo.toArray⟩) := by simp [go_sem]
                  have ga := Gr.alloc w4 (.cells #[.int .i64 c, .slice pv fs.length cv, .string ⟨bo.toArray⟩] 24)
                  go_upto_region 19 with (fail)
                  generalize (w4.alloc (.cells #[.int .i64 c, .slice pv fs.length cv, .string ⟨bo.toArray⟩] 24)) = w5 at a0 a1 a2 ga ⊢
                  have g5 := Lib.hid (g4.out.trans ga)
                  have hRow5 := Lib.hid (hRow4.out.gr ga)
                  clear ga d0 d1 d2
                  have hs20 : S.length < 20 := by omega
                  obtain ⟨i0, hi, hz0, hz1, hzb⟩ := info_parts infoReply
                  obtain ⟨j0, hj, jz0, jz1, jzb⟩ := info_parts infoBool
                  have hoA : ∀ O, (w5.alloc O).ownsRow wl.heap.size 24 3 (.slice ps S.length cs) S.length (scells S) := fun O => World.ownsRow.alloc hRow5.out.1 O
                  have hbz := Below.size hRow5.out.2.2.2
                  have k2 := cells_three w5 (.int .i64 c) (.slice pv fs.length cv) (.string ⟨bo.toArray⟩) 24
                  have k3 : ∀ u ∈ [Value.int .i64 c, .slice pv fs.length cv, .string ⟨bo.toArray⟩], u.oneCell' = true := by simp [Value.oneCell']
                  have k4 : S.length + 1 ≤ maxLen := by unfold maxLen; omega
                  have k5 : (S.length + 1) * 48 ≤ 140737488355328 := by omega
                  have k6 : wl.heap.size ≤ (w5.alloc (.cells #[.int .i64 c, .slice pv fs.length cv, .string ⟨bo.toArray⟩] 24)).heap.size := by simp; omega
                  go_wp2_with (at_builtin; refine wpList_append_own_at _ rfl _ _ 45 rfl wl.heap.size 24 i0 (.agg #[.int .i64 0, .slice none 0 0, .string ⟨#[]⟩]) 3 48 Tryz.underlying45 hi hz0 hz1 hzb rfl (by decide) _ _ _ rfl (hoA _) ⟨w5.heap.size, 0, none⟩ 1 1 [.int .i64 c, .slice pv fs.length cv, .string ⟨bo.toArray⟩] rfl rfl k2 k3 k4 k5 k6 ?_)
                  intro vs' w6 hown6 hgrow6 _ hat6
                  obtain ⟨ps', cs', rfl⟩ := slice_of hown6
                  have hmk := Lib.hid (hRow5.out.marks hgrow6)
                  have hown6' := Lib.hid hown6
                  have hgrow6' := Lib.hid hgrow6
                  have hat6' := Lib.hid hat6
                  have hoB : ∀ O, (w6.alloc O).ownsRow wl.heap.size 4 1 (.slice pa S.length ca) S.length (mcells S) := fun O => World.ownsRow.alloc hmk.out O
                  have hbz6 := hgrow6.size
                  have l2 : ∀ j u, [Value.bool false][j]? = some u → (w6.alloc (.cells #[.bool false] 4)).cell? ((⟨w6.heap.size, 0, none⟩ : Addr).add j) = some u := cell_one_new w6 (.bool false) 4
                  have l3 : ∀ u ∈ [Value.bool false], u.oneCell' = true := by simp [Value.oneCell']
                  have l5 : (S.length + 1) * 1 ≤ 140737488355328 := by omega
                  have l6 : wl.heap.size ≤ (w6.alloc (.cells #[.bool false] 4)).heap.size := by simp at hbz6 ⊢; omega
                  clear hown6 hgrow6 hat6 k2 k3 k5 k6 hi hz0 hz1 hzb hoA a0 a1 a2 hbz6
                  go_wp2_with (at_builtin; refine wpList_append_own_at _ rfl _ _ 46 rfl wl.heap.size 4 j0 (.bool false) 1 1 Tryz.underlying46 hj jz0 jz1 jzb rfl (by decide) _ _ _ rfl (hoB _) ⟨w6.heap.size, 0, none⟩ 1 1 [.bool false] rfl rfl l2 l3 k4 l5 l6 ?_)
                  intro va' w7 hown7 hgrow7 _ hat7
                  obtain ⟨pa', ca', rfl⟩ := slice_of hown7
                  have hrow7 : RowW wl (S ++ [((⟨c, fs, bo⟩ : Rp), false, Value.slice pv fs.length cv)]) (.slice ps' (S.length + 1) cs') (.slice pa' (S.length + 1) ca') w7 :=
                    RowW.push (x := ((⟨c, fs, bo⟩ : Rp), false, Value.slice pv fs.length cv)) hRow5.out hown6'.out hgrow6'.out hat6'.out hown7 hgrow7 hat7
                  have hrel9 := Lib.hid (show R1 wl rs (.string ⟨(A ++ T).toArray⟩) (.slice ps' (S.length + 1) cs') (.slice pa' (S.length + 1) ca') (.int .i64 ((k : Int) + 1)) w7 from by
                    refine ⟨k + 1, S ++ [((⟨c, fs, bo⟩ : Rp), false, Value.slice pv fs.length cv)], by omega, ?_, rfl, by simp; omega, ?_, ?_, hrow7⟩
                    · rw [allL_app, hA'.out, ← hT'.out]; rfl
                    · rw [allL_app, hA'.out, List.length_append]
                      have : (Sn.bytes ((⟨c, fs, bo⟩ : Rp), false, Value.slice pv fs.length cv)).length = T.length := by rw [← hT'.out]; rfl
                      omega
                    · intro y hy
                      rcases List.mem_append.1 hy with hy | hy
                      · exact hSx'.out y hy
                      · rw [List.mem_singleton] at hy
                        subst hy
                        exact ⟨hR'.out, hsmall.out, hFw.out.gr g1.out⟩)
                  clear hown7 hgrow7 hat7 hrow7 l2 l3 l5 l6 hj jz0 jz1 jzb hoB k4
                  go_wp2
                  go_roundw
                  case rel => exact hrel9.out
                  case measure => simp [intOf]; omega
            · have hkhI : ¬ (k : Int) < hs.length := by omega
              clear hkh
              skip
              go_wp2_with fail
              refine (hby.out false _ g3.out hsm2.out).mono ?_
              rintro e w4 ⟨rfl, hb⟩
              replace d0 := hb.cell d0
              replace d1 := hb.cell d1
              replace d2 := hb.cell d2
              have g4 := Lib.hid (g3.out.trans hb)
              have hRow4 := Lib.hid (hRow2.out.gr hb)
              clear hb
              rcases hop.out false with ⟨e9, _⟩ | ⟨hR, _, e9⟩
              · rw [e9]
                unfold byteV
                dsimp only
                clear e9
                have hrel9 := Lib.hid (show R1 wl rs (.string ⟨A.toArray⟩) (.slice ps S.length cs) (.slice pa S.length ca) (.int .i64 ((k : Int) + 1)) w4 from
                  ⟨k + 1, S, by omega, by rw [hA'.out], rfl, by omega, by rw [hA'.out]; exact hSl, hSx'.out, hRow4.out⟩)
                go_wp2
                go_roundw
                case rel => exact hrel9.out
                case measure => simp [intOf]; omega
              · rw [e9]
                unfold byteV
                dsimp only
                have hsmall := Lib.hid (hsm.out hsm2.out hR)
                have hTl := hbl.out false hR hsmall.out
                obtain ⟨T, hT⟩ : ∃ T, (headR ⟨c, fs, bo⟩ false ++ if false = true then [] else bo : List UInt8) = T := ⟨_, rfl⟩
                rw [hT] at hTl ⊢
                have hT' := Lib.hid hT
                have hR' := Lib.hid hR
                clear e9 hT hR
                have hcat : (⟨A.toArray⟩ : ByteArray) ++ ⟨T.toArray⟩ = ⟨(A ++ T).toArray⟩ := cat_mk A T
                have hcl : ¬ 9223372036854775807 < A.length + T.length := by omega
                have a0 : (w4.alloc (.cells #[.int .i64 c, .slice pv fs.length cv, .string ⟨bo.toArray⟩] 24)).cell? ⟨w4.heap.size, 0, none⟩ = some (.int .i64 c) := by simp [go_sem]
                have a1 : (w4.alloc (.cells #[.int .i64 c, .slice pv fs.length cv, .string ⟨bo.toArray⟩] 24)).cell? ⟨w4.heap.size, 1, none⟩ = some (.slice pv fs.length cv) := by simp [go_sem]
                have a2 : (w4.alloc (.cells #[.int .i64 c, .slice pv fs.length cv, .string ⟨bo.toArray⟩] 24)).cell? ⟨w4.heap.size, 2, none⟩ = some (.string ⟨bo.toArray⟩) := by simp [go_sem]
                have ga := Gr.alloc w4 (.cells #[.int .i64 c, .slice pv fs.length cv, .string ⟨bo.toArray⟩] 24)
                go_upto_region 19 with (fail)
                generalize (w4.alloc (.cells #[.int .i64 c, .slice pv fs.length cv, .string ⟨bo.toArray⟩] 24)) = w5 at a0 a1 a2 ga ⊢
                have g5 := Lib.hid (g4.out.trans ga)
                have hRow5 := Lib.hid (hRow4.out.gr ga)
                clear ga d0 d1 d2
                have hs20 : S.length < 20 := by omega
                obtain ⟨i0, hi, hz0, hz1, hzb⟩ := info_parts infoReply
                obtain ⟨j0, hj, jz0, jz1, jzb⟩ := info_parts infoBool
                have hoA : ∀ O, (w5.alloc O).ownsRow wl.heap.size 24 3 (.slice ps S.length cs) S.length (scells S) := fun O => World.ownsRow.alloc hRow5.out.1 O
                have hbz := Below.size hRow5.out.2.2.2
                have k2 := cells_three w5 (.int .i64 c) (.slice pv fs.length cv) (.string ⟨bo.toArray⟩) 24
                have k3 : ∀ u ∈ [Value.int .i64 c, .slice pv fs.length cv, .string ⟨bo.toArray⟩], u.oneCell' = true := by simp [Value.oneCell']
                have k4 : S.length + 1 ≤ maxLen := by unfold maxLen; omega
                have k5 : (S.length + 1) * 48 ≤ 140737488355328 := by omega
                have k6 : wl.heap.size ≤ (w5.alloc (.cells #[.int .i64 c, .slice pv fs.length cv, .string ⟨bo.toArray⟩] 24)).heap.size := by simp; omega
                go_wp2_with (at_builtin; refine wpList_append_own_at _ rfl _ _ 45 rfl wl.heap.size 24 i0 (.agg #[.int .i64 0, .slice none 0 0, .string ⟨#[]⟩]) 3 48 Tryz.underlying45 hi hz0 hz1 hzb rfl (by decide) _ _ _ rfl (hoA _) ⟨w5.heap.size, 0, none⟩ 1 1 [.int .i64 c, .slice pv fs.length cv, .string ⟨bo.toArray⟩] rfl rfl k2 k3 k4 k5 k6 ?_)
                intro vs' w6 hown6 hgrow6 _ hat6
                obtain ⟨ps', cs', rfl⟩ := slice_of hown6
                have hmk := Lib.hid (hRow5.out.marks hgrow6)
                have hown6' := Lib.hid hown6
                have hgrow6' := Lib.hid hgrow6
                have hat6' := Lib.hid hat6
                have hoB : ∀ O, (w6.alloc O).ownsRow wl.heap.size 4 1 (.slice pa S.length ca) S.length (mcells S) := fun O => World.ownsRow.alloc hmk.out O
                have hbz6 := hgrow6.size
                have l2 : ∀ j u, [Value.bool false][j]? = some u → (w6.alloc (.cells #[.bool false] 4)).cell? ((⟨w6.heap.size, 0, none⟩ : Addr).add j) = some u := cell_one_new w6 (.bool false) 4
                have l3 : ∀ u ∈ [Value.bool false], u.oneCell' = true := by simp [Value.oneCell']
                have l5 : (S.length + 1) * 1 ≤ 140737488355328 := by omega
                have l6 : wl.heap.size ≤ (w6.alloc (.cells #[.bool false] 4)).heap.size := by simp at hbz6 ⊢; omega
                clear hown6 hgrow6 hat6 k2 k3 k5 k6 hi hz0 hz1 hzb hoA a0 a1 a2 hbz6
                go_wp2_with (at_builtin; refine wpList_append_own_at _ rfl _ _ 46 rfl wl.heap.size 4 j0 (.bool false) 1 1 Tryz.underlying46 hj jz0 jz1 jzb rfl (by decide) _ _ _ rfl (hoB _) ⟨w6.heap.size, 0, none⟩ 1 1 [.bool false] rfl rfl l2 l3 k4 l5 l6 ?_)
                intro va' w7 hown7 hgrow7 _ hat7
                obtain ⟨pa', ca', rfl⟩ := slice_of hown7
                have hrow7 : RowW wl (S ++ [((⟨c, fs, bo⟩ : Rp), false, Value.slice pv fs.length cv)]) (.slice ps' (S.length + 1) cs') (.slice pa' (S.length + 1) ca') w7 :=
                  RowW.push (x := ((⟨c, fs, bo⟩ : Rp), false, Value.slice pv fs.length cv)) hRow5.out hown6'.out hgrow6'.out hat6'.out hown7 hgrow7 hat7
                have hrel9 := Lib.hid (show R1 wl rs (.string ⟨(A ++ T).toArray⟩) (.slice ps' (S.length + 1) cs') (.slice pa' (S.length + 1) ca') (.int .i64 ((k : Int) + 1)) w7 from by
                  refine ⟨k + 1, S ++ [((⟨c, fs, bo⟩ : Rp), false, Value.slice pv fs.length cv)], by omega, ?_, rfl, by simp; omega, ?_, ?_, hrow7⟩
                  · rw [allL_app, hA'.out, ← hT'.out]; rfl
                  · rw [allL_app, hA'.out, List.length_append]
                    have : (Sn.bytes ((⟨c, fs, bo⟩ : Rp), false, Value.slice pv fs.length cv)).length = T.length := by rw [← hT'.out]; rfl
                    omega
                  · intro y hy
                    rcases List.mem_append.1 hy with hy | hy
                    · exact hSx'.out y hy
                    · rw [List.mem_singleton] at hy
                      subst hy
                      exact ⟨hR'.out, hsmall.out, hFw.out.gr g1.out⟩)
                clear hown7 hgrow7 hat7 hrow7 l2 l3 l5 l6 hj jz0 jz1 jzb hoB k4
                go_wp2
                go_roundw
                case rel => exact hrel9.out
                case measure => simp [intOf]; omega
      · obtain rfl : k = rs.length := by omega
        have hkI : ¬ (rs.length : Int) < rs.length := by omega
        have hgl2 := Lib.hid (g1.out.trans hgl)
        have hst1 := Lib.hid (show R2 S wr (.string ⟨A.toArray⟩) (.int .i64 0) wr from ⟨0, Nat.zero_le _, by rw [List.drop_zero, hA'.out], rfl, Gr.refl _⟩)
        have hS20 : S.length ≤ 20 := by omega
        obtain ⟨w0, hw0⟩ : ∃ W, wr = W := ⟨_, rfl⟩
        rw [hw0] at hst1 hRow1 hgl2
        clear hgl hSk
        go_wp2
        go_loopw [5, 13] (fun all i W => R2 S w0 all i W) (fun _ i _ => S.length - (intOf i).toNat)
        case atStart => exact hst1.out
        case round =>
          obtain ⟨j, hj, rfl, rfl, hg⟩ := hrel
          have hg9 := Lib.hid (hgl2.out.trans hg)
          have hRow9 := Lib.hid (hRow1.out.gr hg)
          have hg' := Lib.hid hg
          clear hst1 hg
          by_cases hjl : j < S.length
          · have hjI : (j : Int) < S.length := by omega
            obtain ⟨gs, rfl, hgs, hcs⟩ := row_cells hRow9.out.1 (by omega)
            obtain ⟨ga, rfl, hga, hca⟩ := row_cells hRow9.out.2.1 (by omega)
            obtain ⟨s0, s1, s2⟩ := scells_get S j hjl
            have c0 := hcs _ _ s0
            have c1 := hcs _ _ s1
            have c2 := hcs _ _ s2
            have m0 := hca j (.bool S[j].2.1) (by unfold mcells; rw [List.getElem?_map, List.getElem?_eq_getElem hjl]; rfl)
            obtain ⟨hR, hsmall, hFx⟩ := hSx'.out _ (List.getElem_mem hjl)
            have hdrop : S.drop j = S[j] :: S.drop (j + 1) := List.drop_eq_getElem_cons hjl
            obtain ⟨⟨r, hd, v⟩, hx⟩ : ∃ x, S[j] = x := ⟨_, rfl⟩
            rw [hx] at c0 c1 c2 m0 hR hsmall hFx hdrop
            dsimp only at c0 c1 c2 m0 hR hsmall hFx
            have hall : allL (S.drop j) = (headR r false ++ if hd then [] else r.b) ++ allL (S.drop (j + 1)) := by rw [hdrop]; rfl
            have hrb := read_back (head := hd) (close := false) hR rfl (allL (S.drop (j + 1)))
            rw [← hall] at hrb
            have htl : (allL (S.drop j)).length ≤ 170000 := by
              have h9 : allL S = allL (S.take j) ++ allL (S.drop j) := by unfold allL; rw [← List.flatMap_append, List.take_append_drop]
              have h8 := congrArg List.length h9
              rw [List.length_append, hA'.out] at h8
              omega
            obtain ⟨rest, hrest⟩ : ∃ y, allL (S.drop (j + 1)) = y := ⟨_, rfl⟩
            obtain ⟨Al, hAl⟩ : ∃ y, allL (S.drop j) = y := ⟨_, rfl⟩
            obtain ⟨T, hT⟩ : ∃ T, (headR r false ++ if hd then [] else r.b) = T := ⟨_, rfl⟩
            rw [hrest, hT] at hall
            rw [hAl] at hall hrb htl ⊢
            rw [hT] at hrb
            have hTl : T.length ≤ Al.length := by rw [hall, List.length_append]; omega
            have hrest' := Lib.hid hrest
            have hex : (⟨Al.toArray⟩ : ByteArray).extract T.length Al.length = ⟨rest.toArray⟩ := by
              rw [extract_mk, List.take_of_length_le (Nat.le_refl _), hall, List.drop_left']; rfl
            obtain ⟨bd, hbd⟩ : ∃ y, (if hd then [] else r.b : List UInt8) = y := ⟨_, rfl⟩
            rw [hbd] at hrb c2
            have hfl : r.fs.length ≤ 100 := hsmall.1
            obtain ⟨c, fs, bo⟩ := r
            obtain ⟨pvx, cvx, rfl, _⟩ := id hFx
            dsimp only at c0 c1 c2 hFx hrb hfl
            have hFx' := Lib.hid (hFx.gr (hRow9.out.2.2.2))
            have hrd := Lib.hid (fun W (hg : Gr w W) => read_is Al hd _ hrb W (hG'.out.gr hg) (by omega))
            unfold ReadPost rdV Rp.V at hrd
            dsimp only [rdR, rdC, rdN, rdE] at hrd
            have hTI : (T.length : Int) ≤ Al.length := by omega
            have hTI0 : (0 : Int) ≤ T.length := by omega
            have hz1 : decide ((T.length : Int) < 0) = false := decide_eq_false (by omega)
            have hz3 : decide (Al.length < T.length) = false := decide_eq_false (by omega)
            have hz2 : decide ((Al.length : Int) < (T.length : Int)) = false := decide_eq_false (by omega)
            clear hcs hca s0 s1 s2 hR hsmall hFx hdrop hx hall hrb hrest hAl hT hbd
            go_wp2_with fail
            refine (hrd.out _ hg9.out).mono ?_
            rintro e w2 ⟨v, rfl, hF, hb⟩
            obtain ⟨pv2, cv2, rfl, _⟩ := id hF
            have gq := Gr.alloc w2 (.cells #[.int .i64 c, .slice pv2 fs.length cv2, .string ⟨bd.toArray⟩] 24)
            have b0 : (w2.alloc (.cells #[.int .i64 c, .slice pv2 fs.length cv2, .string ⟨bd.toArray⟩] 24)).cell? ⟨w2.heap.size, 0, none⟩ = some (.int .i64 c) := by simp [go_sem]
            have b1 : (w2.alloc (.cells #[.int .i64 c, .slice pv2 fs.length cv2, .string ⟨bd.toArray⟩] 24)).cell? ⟨w2.heap.size, 1, none⟩ = some (.slice pv2 fs.length cv2) := by simp [go_sem]
            have b2 : (w2.alloc (.cells #[.int .i64 c, .slice pv2 fs.length cv2, .string ⟨bd.toArray⟩] 24)).cell? ⟨w2.heap.size, 2, none⟩ = some (.string ⟨bd.toArray⟩) := by simp [go_sem]
            have hF2 := Lib.hid (show FieldsAt (w2.alloc (.cells #[.int .i64 c, .slice pv2 fs.length cv2, .string ⟨bd.toArray⟩] 24)) (.slice pv2 fs.length cv2) fs from hF.gr gq)
            have hF3 := Lib.hid ((hFx'.out.gr hb).gr gq)
            replace c0 := gq.cell (hb.cell c0)
            replace c1 := gq.cell (hb.cell c1)
            replace c2 := gq.cell (hb.cell c2)
            have g3 := Lib.hid ((hg'.out.trans hb).trans gq)
            clear hb hF gq m0
            go_upto_region 26 with (fail)
            generalize (w2.alloc (.cells #[.int .i64 c, .slice pv2 fs.length cv2, .string ⟨bd.toArray⟩] 24)) = w3 at b0 b1 b2 c0 c1 c2 hF2 hF3 g3 ⊢
            haveI : Nonempty (Later (Gr w3)) := ⟨⟨w3, Gr.refl w3⟩⟩
            have t0 : ∀ x : Later (Gr w3), x.w.cell? ⟨w2.heap.size, 0, none⟩ = some (.int .i64 c) := fun x => x.ok.cell b0
            have t1 : ∀ x : Later (Gr w3), x.w.cell? ⟨w2.heap.size, 1, none⟩ = some (.slice pv2 fs.length cv2) := fun x => x.ok.cell b1
            have t2 : ∀ x : Later (Gr w3), x.w.cell? ⟨w2.heap.size, 2, none⟩ = some (.string ⟨bd.toArray⟩) := fun x => x.ok.cell b2
            have u0 : ∀ x : Later (Gr w3), x.w.cell? ⟨gs, j * 3, none⟩ = some (.int .i64 c) := fun x => x.ok.cell c0
            have u1 : ∀ x : Later (Gr w3), x.w.cell? ⟨gs, j * 3 + 1, none⟩ = some (.slice pvx fs.length cvx) := fun x => x.ok.cell c1
            have u2 : ∀ x : Later (Gr w3), x.w.cell? ⟨gs, j * 3 + 2, none⟩ = some (.string ⟨bd.toArray⟩) := fun x => x.ok.cell c2
            have l1 := Lib.hid (fun x : Later (Gr w3) => (show Calls Tryz.prog 20 #[.agg #[.int .i64 c, .slice pv2 fs.length cv2, .string ⟨bd.toArray⟩], .agg #[.int .i64 c, .slice pvx fs.length cvx, .string ⟨bd.toArray⟩]] x.w fun e w' => e = .returned (.bool true) ∧ ∃ y : Later (Gr w3), w' = y.w from
              Calls.later ((same_is ⟨c, fs, bd⟩ ⟨c, fs, bd⟩ true (sameB_refl _) _ _ x.w (hF2.out.gr x.ok) (hF3.out.gr x.ok) (by show fs.length ≤ _; omega) (by show fs.length ≤ _; omega)).mono fun _ _ ⟨he, hw⟩ => ⟨he, x.ok.trans hw⟩)))
            refine wp_region_later (C := Gr w3) (by kernel_rfl) (by kernel_rfl) (Gr.drew' _) ?_
            repeat (go_big_quiet_step (with_reducible exact l1.out _))
            refine wpQuiet_nil ?_
            intro w4 hg4
            have hrel9 := Lib.hid (show R2 S w0 (.string ⟨rest.toArray⟩) (.int .i64 ((j : Int) + 1)) w4 from ⟨j + 1, hjl, by rw [hrest'.out], rfl, g3.out.trans hg4⟩)
            clear hg4 t0 t1 t2 u0 u1 u2 b0 b1 b2 c0 c1 c2
            go_wp2
            go_roundw
            case rel => exact hrel9.out
            case measure => simp [intOf]; omega
          · have hje : j = S.length := by omega
            subst hje
            have hjI : ¬ (S.length : Int) < S.length := by omega
            rw [List.drop_length]
            have e0 : allL [] = [] := rfl
            rw [e0]
            go_wp2
            go_ret
            exact ⟨rfl, hg9.out⟩
end Go.Proofs.YtfcokldbpjkjpaaGreatDoor
