/-
  The walk over ChainSplits.
-/
import Derived.Test.YtolpphmgobeocaaDoorCz
import Derived.Test.YtolpphmgobeocaaDoorP6
namespace Go.Proofs.YtolpphmgobeocaaDoor
open Go.RowKit Go.Shelf
attribute [local go_sem] Oper.semAt_some

/-- What steps around tell answer. -/
def outB : List Stp → Rq → Rp
  | [], r => ⟨200, [], r.p⟩
  | s :: l, r => match refuses s r with
    | some y => y
    | none => (outB l (turns s r)).more (adds s r.fs)
theorem tell_out {B : Nat} {W W' : World} : ∀ (l m : List Stp) (r : Rq) (x : Rp), ThroughR l (ThroughR m RTell) B r x W W' → x = outB (l ++ m) r
  | [], [], r, x, h => h
  | [], s :: m, r, x, h => by
    have h' : Rs s (ThroughR m RTell) B r x W W' := h
    unfold Rs at h'
    rw [List.nil_append, outB]
    cases href : refuses s r with
    | some y => rw [href] at h'; exact h'.1
    | none =>
      rw [href] at h'
      obtain ⟨y, h1, h2⟩ := h'
      rw [h2, tell_out [] m (turns s r) y h1]; rfl
  | s :: l, m, r, x, h => by
    have h' : Rs s (ThroughR l (ThroughR m RTell)) B r x W W' := h
    unfold Rs at h'
    rw [List.cons_append, outB]
    cases href : refuses s r with
    | some y => rw [href] at h'; exact h'.1
    | none =>
      rw [href] at h'
      obtain ⟨y, h1, h2⟩ := h'
      rw [h2, tell_out l m (turns s r) y h1]

/-- A slice from k on. -/
theorem StepsAt.from {w : World} {b off cap : Nat} {ss : List Stp} (h : StepsAt w (.slice (some ⟨b, off, none⟩) ss.length cap) ss) (k : Nat) (hk : k ≤ ss.length) :
    StepsAt w (.slice (some ⟨b, off + k * 4, none⟩) (ss.drop k).length (cap - k)) (ss.drop k) := by
  obtain ⟨p, c, hv, hc⟩ := h
  injection hv with h1 h2 h3
  subst h1
  refine ⟨_, _, rfl, fun i hi => ?_⟩
  rw [List.length_drop] at hi
  obtain ⟨b2, o2, hp, c0, c1, c2, c3⟩ := hc (k + i) (by omega)
  cases hp
  refine ⟨b, off + k * 4, rfl, ?_, ?_, ?_, ?_⟩
  all_goals rw [List.getElem_drop]
  · rw [show off + k * 4 + i * 4 = off + (k + i) * 4 by omega]; exact c0
  · rw [show off + k * 4 + i * 4 + 1 = off + (k + i) * 4 + 1 by omega]; exact c1
  · rw [show off + k * 4 + i * 4 + 2 = off + (k + i) * 4 + 2 by omega]; exact c2
  · rw [show off + k * 4 + i * 4 + 3 = off + (k + i) * 4 + 3 by omega]; exact c3
theorem StepsAt.upto {w : World} {p : Option Addr} {cap : Nat} {ss : List Stp} (h : StepsAt w (.slice p ss.length cap) ss) (k : Nat) (hk : k ≤ ss.length) :
    StepsAt w (.slice p (ss.take k).length cap) (ss.take k) := by
  obtain ⟨p', c, hv, hc⟩ := h
  injection hv with h1 h2 h3
  subst h1
  refine ⟨_, _, rfl, fun i hi => ?_⟩
  rw [List.length_take] at hi
  obtain ⟨b2, o2, hp, c0, c1, c2, c3⟩ := hc i (by omega)
  exact ⟨b2, o2, hp, by rw [List.getElem_take]; exact c0, by rw [List.getElem_take]; exact c1, by rw [List.getElem_take]; exact c2, by rw [List.getElem_take]; exact c3⟩

set_option maxHeartbeats 40000000 in
set_option maxRecDepth 100000 in
theorem splits_any (lv sv : Value) (ss : List Stp) (c : UInt8) (r : Rq) (w : World) (hG : G w) (hx : StepsAt w lv ss) (hf : FieldsAt w sv r.fs) (hcap : ∀ a n cap, lv = .slice a n cap → n ≤ cap) (hls : ss.length ≤ 9223372036854775807) (hlf : r.fs.length ≤ 9223372036854775807) (hlp : r.p.length ≤ 9223372036854775807) (hlb : r.b.length ≤ 9223372036854775807) :
    Calls Tryd.prog 5 #[lv, .int .u8 c.toNat, r.V sv] w fun e w' => e = .returned (.bool true) ∧ Gr w w' := by
  have hgr := Lib.hid (fun W (h : Gr w W) => great_any lv sv ss r W (hx.gr h) (hf.gr h) hls hlf hlp hlb)
  have hx' := Lib.hid hx
  have hf' := Lib.hid hf
  obtain ⟨p, cap, rfl, hc⟩ := hx
  obtain ⟨q, cap2, rfl, _⟩ := hf
  have hcp := hcap _ _ _ rfl
  have hc' := Lib.hid hc
  have hG' := Lib.hid hG
  clear hG hc hcap
  have hnf := fun (w : World) f x c => run_eql_func_nil (P := Tryd.prog) w Tryd.underlying40 f x c
  have hnn := fun (w : World) => run_eql_nil_nil (P := Tryd.prog) w Tryd.underlying40
  show Calls Tryd.prog 5 #[.slice p ss.length cap, .int .u8 c.toNat, .agg #[.string ⟨r.m.toArray⟩, .string ⟨r.p.toArray⟩, .string ⟨r.q.toArray⟩, .int .i64 r.v, .slice q r.fs.length cap2, .string ⟨r.b.toArray⟩, .bool r.c]] w _
  go_enter Tryd.func5, Tryd.ntmps5
  go_wp2_with fail
  refine (hgr.out _ (Gr.alloc _ _)).mono ?_
  rintro e w1 ⟨b, rfl, hsm, hb1⟩
  have q0 : w1.cell? ⟨w.heap.size, 0, none⟩ = some (.string ⟨r.m.toArray⟩) := hb1.cell (by simp [go_sem])
  have q1 : w1.cell? ⟨w.heap.size, 1, none⟩ = some (.string ⟨r.p.toArray⟩) := hb1.cell (by simp [go_sem])
  have q2 : w1.cell? ⟨w.heap.size, 2, none⟩ = some (.string ⟨r.q.toArray⟩) := hb1.cell (by simp [go_sem])
  have q3 : w1.cell? ⟨w.heap.size, 3, none⟩ = some (.int .i64 r.v) := hb1.cell (by simp [go_sem])
  have q4 : w1.cell? ⟨w.heap.size, 4, none⟩ = some (.slice q r.fs.length cap2) := hb1.cell (by simp [go_sem])
  have q5 : w1.cell? ⟨w.heap.size, 5, none⟩ = some (.string ⟨r.b.toArray⟩) := hb1.cell (by simp [go_sem])
  have q6 : w1.cell? ⟨w.heap.size, 6, none⟩ = some (.bool r.c) := hb1.cell (by simp [go_sem])
  have hg1 := Lib.hid ((Gr.alloc _ _).trans hb1)
  clear hb1 hgr
  by_cases hbig : b = true ∨ 8 < ss.length
  · rcases hbig with rfl | h8
    · go_wp2_with fail
      refine (wakes_any _ (hG'.out.gr hg1.out)).mono ?_
      rintro e w3 ⟨rfl, hb3⟩
      have hg3 := Lib.hid (hg1.out.trans hb3)
      clear hb3
      go_wp2
      go_ret
      exact ⟨rfl, hg3.out⟩
    · cases b
      all_goals go_wp2_with fail
      all_goals
        refine (wakes_any _ (hG'.out.gr hg1.out)).mono ?_
        rintro e w3 ⟨rfl, hb3⟩
        have hg3 := Lib.hid (hg1.out.trans hb3)
        clear hb3
        go_wp2
        go_ret
        exact ⟨rfl, hg3.out⟩
  · have hb : b = false := by cases b; rfl; exact absurd (.inl rfl) hbig
    subst hb
    have h8 : ss.length ≤ 8 := by omega
    have hsm' := Lib.hid (hsm rfl)
    clear hsm hbig
    have hk0 : c.toNat % (ss.length + 1) ≤ ss.length := by have := Nat.mod_lt c.toNat (show 0 < ss.length + 1 by omega); omega
    obtain ⟨k, hkd⟩ : ∃ k, c.toNat % (ss.length + 1) = k := ⟨_, rfl⟩
    rw [hkd] at hk0
    have htm : ((c.toNat : Int)).tmod ((ss.length : Int) + 1) = (k : Int) := by
      rw [← hkd, show ((ss.length : Int) + 1) = ((ss.length + 1 : Nat) : Int) by simp, ← Int.ofNat_tmod]
    have hemod : ((c.toNat : Int)) % ((ss.length : Int) + 1) = (k : Int) := by
      rw [← hkd, show ((ss.length : Int) + 1) = ((ss.length + 1 : Nat) : Int) by simp, ← Int.natCast_emod]
    have hlI : (ss.length : Int) ≤ 8 := by omega
    have hc8 : (c.toNat : Int) ≤ 255 := by have := c.toNat_lt; omega
    have htellE := enters_of Tryd.func20 (by kernel_rfl) rfl
    have hlen100 : ∀ s ∈ ss, s.name.length ≤ 1000 ∧ s.value.length ≤ 1000 := fun s hs => by have := hsm'.out.s s hs; omega
    have hrok := Lib.hid (show RqOk r from ⟨Nat.le_trans hsm'.out.f (by decide), fun f hf => ⟨Nat.le_trans (hsm'.out.g f hf).1 (by decide), Nat.le_trans (hsm'.out.g f hf).2 (by decide)⟩⟩)
    have hcase : (cap = k ∧ k = ss.length) ∨ (k = 0 ∧ 0 < cap) ∨ (0 < k ∧ k < cap ∧ ∃ b off, p = some ⟨b, off, none⟩) := by
      by_cases h1 : cap = k
      · exact .inl ⟨h1, by omega⟩
      · by_cases h2 : k = 0
        · exact .inr (.inl ⟨h2, by omega⟩)
        · obtain ⟨b, off, hp, _⟩ := hc'.out 0 (by omega)
          exact .inr (.inr ⟨by omega, by omega, b, off, hp⟩)
    have hup := Lib.hid (fun W (h : Gr w W) => (hx'.out.gr h).upto k hk0)
    have hrest : ∃ P C, (P = if cap = k ∨ k = 0 then p else (match p with | some a => some ⟨a.block, a.off + k * 4, none⟩ | none => none)) ∧ C = cap - k ∧ ∀ W, Gr w W → StepsAt W (.slice P (ss.drop k).length C) (ss.drop k) := by
      rcases hcase with ⟨h1, h2⟩ | ⟨h1, h2⟩ | ⟨h1, h2, b, off, h3⟩
      · refine ⟨p, _, by rw [if_pos (.inl h1)], rfl, fun W _ => ?_⟩
        have hd : ss.drop k = [] := List.drop_of_length_le (by omega)
        rw [hd]
        exact ⟨p, _, rfl, fun i hi => absurd hi (Nat.not_lt_zero _)⟩
      · subst h1
        exact ⟨p, _, by rw [if_pos (.inr rfl)], rfl, fun W h => hx'.out.gr h⟩
      · refine ⟨some ⟨b, off + k * 4, none⟩, _, by rw [if_neg (by omega), h3], rfl, fun W h => ?_⟩
        have := hx'.out.gr h
        rw [h3] at this
        exact this.from k hk0
    obtain ⟨P, C, hP, hC, hst⟩ := hrest
    have hst' := Lib.hid hst
    clear hst
    have hdl : (ss.drop k).length = ss.length - k := List.length_drop
    have htl : (ss.take k).length = k := by rw [List.length_take]; omega
    have hall : ss.all rightB = ((ss.take k).all rightB && (ss.drop k).all rightB) := by rw [← List.all_append, List.take_append_drop]
    have hin100 : ∀ s ∈ ss.drop k, s.name.length ≤ 1000 ∧ s.value.length ≤ 1000 := fun s hs => hlen100 s (List.mem_of_mem_drop hs)
    have hout100 : ∀ s ∈ ss.take k, s.name.length ≤ 1000 ∧ s.value.length ≤ 1000 := fun s hs => hlen100 s (List.mem_of_mem_take hs)
    -- the three calls of Wrap
    have hWwrong := Lib.hid (fun (hr : ss.all rightB = false) W (h : Gr w W) => wrap_wrong p cap ss 20 #[] W (hG'.out.gr h) (hx'.out.gr h) h8 hr hlen100)
    have hWok := Lib.hid (fun (hr : ss.all rightB = true) W (h : Gr w W) => wrap_ok p cap ss 20 #[] (fun _ => False) Gb 0 RTell W (hx'.out.gr h) h8 hr hlen100 htellE (hG'.out.gr h).side (tell_b _ _) (closed_tell _) (by decide))
    have hIwrong := Lib.hid (fun (hr : (ss.drop k).all rightB = false) W (h : Gr w W) => wrap_wrong P C (ss.drop k) 20 #[] W (hG'.out.gr h) (hst'.out W h) (by omega) hr hin100)
    have hIok := Lib.hid (fun (hr : (ss.drop k).all rightB = true) W (h : Gr w W) => wrap_ok P C (ss.drop k) 20 #[] (fun _ => False) Gb 0 RTell W (hst'.out W h) (by omega) hr hin100 htellE (hG'.out.gr h).side (tell_b _ _) (closed_tell _) (by decide))
    have hOwrong := Lib.hid (fun (hr : (ss.take k).all rightB = false) (g : Nat) (lb : Array Value) W (h : Gr w W) => wrap_wrong p cap (ss.take k) g lb W (hG'.out.gr h) (hup.out W h) (by omega) hr hout100)
    have hOok := Lib.hid (fun (hr : (ss.take k).all rightB = true) (g : Nat) (lb : Array Value) (F : Nat → Prop) W (h : Gr w W) (f : Value) (bad : Nat → Prop) (hn : HNow (fun _ => False) 0 RTell (ss.drop k) bad W f g lb F) =>
      wrap_ok p cap (ss.take k) g lb (fun _ => False) F (0 + (ss.drop k).length) (ThroughR (ss.drop k) RTell) W (hup.out W h) (by omega) hr hout100 hn.enters hn.side (hn.does.toB ((closed_tell _).through _)) ((closed_tell _).through _) (by omega))
    rw [hdl] at hIwrong hIok
    rw [htl] at hOwrong hOok
    have hmid := Lib.hid hall
    have hdt := Lib.hid (show ss.take k ++ ss.drop k = ss from List.take_append_drop k ss)
    clear hall hdl htl hlen100 hin100 hout100 htellE hst' hup
    rcases hcase with ⟨h1, h2⟩ | ⟨h1, h2⟩ | ⟨h1, h2, bb, off, h3⟩
    · subst h1
      clear h2
      rw [if_pos (.inl rfl)] at hP
      rw [Nat.sub_self] at hC
      subst hP hC
      rw [Nat.sub_eq_zero_of_le hcp] at hIwrong hIok
      by_cases hri : ss.all rightB = true
      · have hboth := hmid.out
        rw [hri] at hboth
        obtain ⟨hto, hti⟩ := Bool.and_eq_true_iff.1 hboth.symm
        have hto' := Lib.hid hto
        have hti' := Lib.hid hti
        have hri' := Lib.hid hri
        clear hboth hto hti hri
        go_wp2_with fail
        refine (hWok.out hri'.out _ hg1.out).mono ?_
        rintro e w2 ⟨f1, g1, lb1, F1, rfl, hn1, hb2⟩
        obtain rfl := hn1.f
        have eg1 := hn1.enters
        have hn1' := Lib.hid hn1
        have hb2' := Lib.hid hb2
        have hg2 := Lib.hid (hg1.out.trans hb2)
        replace q0 := hb2.cell q0
        replace q1 := hb2.cell q1
        replace q2 := hb2.cell q2
        replace q3 := hb2.cell q3
        replace q4 := hb2.cell q4
        replace q5 := hb2.cell q5
        replace q6 := hb2.cell q6
        clear hn1 hb2
        go_wp2_with fail
        refine (hIok.out hti'.out _ hg2.out).mono ?_
        rintro e w3 ⟨f2, g2, lb2, F2, rfl, hn2, hb3⟩
        obtain rfl := hn2.f
        have eg2 := hn2.enters
        have hn2' := Lib.hid hn2
        have hb3' := Lib.hid hb3
        have hg3 := Lib.hid (hg2.out.trans hb3)
        replace q0 := hb3.cell q0
        replace q1 := hb3.cell q1
        replace q2 := hb3.cell q2
        replace q3 := hb3.cell q3
        replace q4 := hb3.cell q4
        replace q5 := hb3.cell q5
        replace q6 := hb3.cell q6
        clear hn2 hb3
        go_wp2_with fail
        refine (hOok.out hto'.out g2 lb2 F2 _ hg3.out _ _ hn2'.out).mono ?_
        rintro e w4 ⟨f3, g3, lb3, F3, rfl, hn3, hb4⟩
        obtain rfl := hn3.f
        have eg3 := hn3.enters
        have hn3' := Lib.hid hn3
        have hg4 := Lib.hid (hg3.out.trans hb4)
        have hcw := Lib.hid (fun W (h : Gr w4 W) => hn1'.out.call ((hb3'.out.trans hb4).trans h) r _ (hf'.out.gr (hg4.out.trans h)) hrok.out)
        have hco := Lib.hid (fun W (h : Gr w4 W) => hn3'.out.call h r _ (hf'.out.gr (hg4.out.trans h)) hrok.out)
        replace q0 := hb4.cell q0
        replace q1 := hb4.cell q1
        replace q2 := hb4.cell q2
        replace q3 := hb4.cell q3
        replace q4 := hb4.cell q4
        replace q5 := hb4.cell q5
        replace q6 := hb4.cell q6
        have hGw := Lib.hid (fun W (h : Gr w4 W) => hG'.out.gr (hg4.out.trans h))
        have hdw : Gr w4 w4.drew := Gr.drew' w4
        clear hn3 hb4
        go_wp2
        go_region_held3 (fun w' => w'.cell? ⟨w.heap.size, 0, none⟩ = some (.string ⟨r.m.toArray⟩) ∧ w'.cell? ⟨w.heap.size, 1, none⟩ = some (.string ⟨r.p.toArray⟩) ∧ w'.cell? ⟨w.heap.size, 2, none⟩ = some (.string ⟨r.q.toArray⟩) ∧ w'.cell? ⟨w.heap.size, 3, none⟩ = some (.int .i64 r.v) ∧ w'.cell? ⟨w.heap.size, 4, none⟩ = some (.slice q r.fs.length cap2) ∧ w'.cell? ⟨w.heap.size, 5, none⟩ = some (.string ⟨r.b.toArray⟩) ∧ w'.cell? ⟨w.heap.size, 6, none⟩ = some (.bool r.c)) (go_keep)
          (first
            | (refine (hcw.out _ ?_).mono ?_
               · assumption
               rintro e wa ⟨x1, t1, rfl, hown1, hl1, hR1, hch1⟩
               obtain rfl := tell_out [] ss r x1 hR1
               have hf1 := hown1.at
               rw [List.nil_append] at hf1 hl1
               have hgra := gr_of_ch hch1
               have hgA : Gr w4 wa := Gr.trans (by assumption) hgra
               try (have hf2 := FieldsAt.gr hf2 hgra)
               replace q0 := hgra.cell q0
               replace q1 := hgra.cell q1
               replace q2 := hgra.cell q2
               replace q3 := hgra.cell q3
               replace q4 := hgra.cell q4
               replace q5 := hgra.cell q5
               replace q6 := hgra.cell q6
               clear hown1 hR1 hch1)
            | (refine (hco.out _ ?_).mono ?_
               · assumption
               rintro e wb ⟨x2, t2, rfl, hown2, hl2, hR2, hch2⟩
               have hx2 := tell_out (ss.take cap) (ss.drop cap) r x2 hR2
               rw [hdt.out] at hx2
               subst hx2
               have hf2 := hown2.at
               have hgrb := gr_of_ch hch2
               have hgB : Gr w4 wb := Gr.trans (by assumption) hgrb
               try (have hf1 := FieldsAt.gr hf1 hgrb)
               replace q0 := hgrb.cell q0
               replace q1 := hgrb.cell q1
               replace q2 := hgrb.cell q2
               replace q3 := hgrb.cell q3
               replace q4 := hgrb.cell q4
               replace q5 := hgrb.cell q5
               replace q6 := hgrb.cell q6
               clear hown2 hR2 hch2)
            | (go_at_call 17
               refine (same_any (outB ss r) (outB ss r) _ _ _ ?_ ?_ (Nat.le_trans hl1 (by omega)) (Nat.le_trans hl1 (by omega))).mono ?_
               · assumption
               · assumption
               rintro e wc ⟨rfl, hbc⟩
               rw [sameB_refl]
               have hgC : Gr w4 wc := Gr.trans (by assumption) hbc
               replace q0 := hbc.cell q0
               replace q1 := hbc.cell q1
               replace q2 := hbc.cell q2
               replace q3 := hbc.cell q3
               replace q4 := hbc.cell q4
               replace q5 := hbc.cell q5
               replace q6 := hbc.cell q6
               clear hbc)
            | (go_at_call 10
               refine (wakes_any _ ?_).mono ?_
               · exact hGw.out _ (by assumption)
               rintro e wd ⟨rfl, hbd⟩
               have hgD : Gr w4 wd := Gr.trans (by assumption) hbd
               replace q0 := hbd.cell q0
               replace q1 := hbd.cell q1
               replace q2 := hbd.cell q2
               replace q3 := hbd.cell q3
               replace q4 := hbd.cell q4
               replace q5 := hbd.cell q5
               replace q6 := hbd.cell q6
               clear hbd))
        all_goals go_wp2
        all_goals go_ret
        all_goals exact ⟨rfl, Gr.trans hg4.out (by assumption)⟩
      · have hri' : ss.all rightB = false := by simpa using hri
        have hri2 := Lib.hid hri'
        cases hti : (ss.drop cap).all rightB
        · have hti' := Lib.hid hti
          clear hti hri hri'
          go_wp2_with fail
          refine (hWwrong.out hri2.out _ hg1.out).mono ?_
          rintro e w2 ⟨rfl, hb2⟩
          have hg2 := Lib.hid (hg1.out.trans hb2)
          clear hb2
          go_wp2_with fail
          refine (hIwrong.out hti'.out _ hg2.out).mono ?_
          rintro e w3 ⟨rfl, hb3⟩
          have hg3 := Lib.hid (hg2.out.trans hb3)
          clear hb3
          go_wp2_with fail
          refine (wakes_any _ (hG'.out.gr hg3.out)).mono ?_
          rintro e w4 ⟨rfl, hb4⟩
          have hg4 := Lib.hid (hg3.out.trans hb4)
          clear hb4
          go_wp2
          go_ret
          exact ⟨rfl, hg4.out⟩
        · have hti' := Lib.hid hti
          have hto' := Lib.hid (show (ss.take cap).all rightB = false by have := hmid.out; rw [hri', hti, Bool.and_true] at this; exact this.symm)
          clear hti hri hri'
          go_wp2_with fail
          refine (hWwrong.out hri2.out _ hg1.out).mono ?_
          rintro e w2 ⟨rfl, hb2⟩
          have hg2 := Lib.hid (hg1.out.trans hb2)
          clear hb2
          go_wp2_with fail
          refine (hIok.out hti'.out _ hg2.out).mono ?_
          rintro e w3 ⟨f2, g2, lb2, F2, rfl, hn2, hb3⟩
          obtain rfl := hn2.f
          have hg3 := Lib.hid (hg2.out.trans hb3)
          clear hb3 hn2
          go_wp2_with fail
          refine (hOwrong.out hto'.out g2 lb2 _ hg3.out).mono ?_
          rintro e w4 ⟨rfl, hb4⟩
          have hg4 := Lib.hid (hg3.out.trans hb4)
          clear hb4
          go_wp2_with fail
          refine (wakes_any _ (hG'.out.gr hg4.out)).mono ?_
          rintro e w5 ⟨rfl, hb5⟩
          have hg5 := Lib.hid (hg4.out.trans hb5)
          clear hb5
          go_wp2
          go_ret
          exact ⟨rfl, hg5.out⟩
    · subst h1
      rw [if_pos (.inr rfl)] at hP
      rw [Nat.sub_zero] at hC
      subst hP hC
      rw [Nat.sub_zero] at hIwrong hIok
      by_cases hri : ss.all rightB = true
      · have hboth := hmid.out
        rw [hri] at hboth
        obtain ⟨hto, hti⟩ := Bool.and_eq_true_iff.1 hboth.symm
        have hto' := Lib.hid hto
        have hti' := Lib.hid hti
        have hri' := Lib.hid hri
        clear hboth hto hti hri
        go_wp2_with fail
        refine (hWok.out hri'.out _ hg1.out).mono ?_
        rintro e w2 ⟨f1, g1, lb1, F1, rfl, hn1, hb2⟩
        obtain rfl := hn1.f
        have eg1 := hn1.enters
        have hn1' := Lib.hid hn1
        have hb2' := Lib.hid hb2
        have hg2 := Lib.hid (hg1.out.trans hb2)
        replace q0 := hb2.cell q0
        replace q1 := hb2.cell q1
        replace q2 := hb2.cell q2
        replace q3 := hb2.cell q3
        replace q4 := hb2.cell q4
        replace q5 := hb2.cell q5
        replace q6 := hb2.cell q6
        clear hn1 hb2
        go_wp2_with fail
        refine (hIok.out hti'.out _ hg2.out).mono ?_
        rintro e w3 ⟨f2, g2, lb2, F2, rfl, hn2, hb3⟩
        obtain rfl := hn2.f
        have eg2 := hn2.enters
        have hn2' := Lib.hid hn2
        have hb3' := Lib.hid hb3
        have hg3 := Lib.hid (hg2.out.trans hb3)
        replace q0 := hb3.cell q0
        replace q1 := hb3.cell q1
        replace q2 := hb3.cell q2
        replace q3 := hb3.cell q3
        replace q4 := hb3.cell q4
        replace q5 := hb3.cell q5
        replace q6 := hb3.cell q6
        clear hn2 hb3
        go_wp2_with fail
        refine (hOok.out hto'.out g2 lb2 F2 _ hg3.out _ _ hn2'.out).mono ?_
        rintro e w4 ⟨f3, g3, lb3, F3, rfl, hn3, hb4⟩
        obtain rfl := hn3.f
        have eg3 := hn3.enters
        have hn3' := Lib.hid hn3
        have hg4 := Lib.hid (hg3.out.trans hb4)
        have hcw := Lib.hid (fun W (h : Gr w4 W) => hn1'.out.call ((hb3'.out.trans hb4).trans h) r _ (hf'.out.gr (hg4.out.trans h)) hrok.out)
        have hco := Lib.hid (fun W (h : Gr w4 W) => hn3'.out.call h r _ (hf'.out.gr (hg4.out.trans h)) hrok.out)
        replace q0 := hb4.cell q0
        replace q1 := hb4.cell q1
        replace q2 := hb4.cell q2
        replace q3 := hb4.cell q3
        replace q4 := hb4.cell q4
        replace q5 := hb4.cell q5
        replace q6 := hb4.cell q6
        have hGw := Lib.hid (fun W (h : Gr w4 W) => hG'.out.gr (hg4.out.trans h))
        have hdw : Gr w4 w4.drew := Gr.drew' w4
        clear hn3 hb4
        go_wp2
        go_region_held3 (fun w' => w'.cell? ⟨w.heap.size, 0, none⟩ = some (.string ⟨r.m.toArray⟩) ∧ w'.cell? ⟨w.heap.size, 1, none⟩ = some (.string ⟨r.p.toArray⟩) ∧ w'.cell? ⟨w.heap.size, 2, none⟩ = some (.string ⟨r.q.toArray⟩) ∧ w'.cell? ⟨w.heap.size, 3, none⟩ = some (.int .i64 r.v) ∧ w'.cell? ⟨w.heap.size, 4, none⟩ = some (.slice q r.fs.length cap2) ∧ w'.cell? ⟨w.heap.size, 5, none⟩ = some (.string ⟨r.b.toArray⟩) ∧ w'.cell? ⟨w.heap.size, 6, none⟩ = some (.bool r.c)) (go_keep)
          (first
            | (refine (hcw.out _ ?_).mono ?_
               · assumption
               rintro e wa ⟨x1, t1, rfl, hown1, hl1, hR1, hch1⟩
               obtain rfl := tell_out [] ss r x1 hR1
               have hf1 := hown1.at
               rw [List.nil_append] at hf1 hl1
               have hgra := gr_of_ch hch1
               have hgA : Gr w4 wa := Gr.trans (by assumption) hgra
               try (have hf2 := FieldsAt.gr hf2 hgra)
               replace q0 := hgra.cell q0
               replace q1 := hgra.cell q1
               replace q2 := hgra.cell q2
               replace q3 := hgra.cell q3
               replace q4 := hgra.cell q4
               replace q5 := hgra.cell q5
               replace q6 := hgra.cell q6
               clear hown1 hR1 hch1)
            | (refine (hco.out _ ?_).mono ?_
               · assumption
               rintro e wb ⟨x2, t2, rfl, hown2, hl2, hR2, hch2⟩
               have hx2 := tell_out (ss.take 0) (ss.drop 0) r x2 hR2
               rw [hdt.out] at hx2
               subst hx2
               have hf2 := hown2.at
               have hgrb := gr_of_ch hch2
               have hgB : Gr w4 wb := Gr.trans (by assumption) hgrb
               try (have hf1 := FieldsAt.gr hf1 hgrb)
               replace q0 := hgrb.cell q0
               replace q1 := hgrb.cell q1
               replace q2 := hgrb.cell q2
               replace q3 := hgrb.cell q3
               replace q4 := hgrb.cell q4
               replace q5 := hgrb.cell q5
               replace q6 := hgrb.cell q6
               clear hown2 hR2 hch2)
            | (go_at_call 17
               refine (same_any (outB ss r) (outB ss r) _ _ _ ?_ ?_ (Nat.le_trans hl1 (by omega)) (Nat.le_trans hl1 (by omega))).mono ?_
               · assumption
               · assumption
               rintro e wc ⟨rfl, hbc⟩
               rw [sameB_refl]
               have hgC : Gr w4 wc := Gr.trans (by assumption) hbc
               replace q0 := hbc.cell q0
               replace q1 := hbc.cell q1
               replace q2 := hbc.cell q2
               replace q3 := hbc.cell q3
               replace q4 := hbc.cell q4
               replace q5 := hbc.cell q5
               replace q6 := hbc.cell q6
               clear hbc)
            | (go_at_call 10
               refine (wakes_any _ ?_).mono ?_
               · exact hGw.out _ (by assumption)
               rintro e wd ⟨rfl, hbd⟩
               have hgD : Gr w4 wd := Gr.trans (by assumption) hbd
               replace q0 := hbd.cell q0
               replace q1 := hbd.cell q1
               replace q2 := hbd.cell q2
               replace q3 := hbd.cell q3
               replace q4 := hbd.cell q4
               replace q5 := hbd.cell q5
               replace q6 := hbd.cell q6
               clear hbd))
        all_goals go_wp2
        all_goals go_ret
        all_goals exact ⟨rfl, Gr.trans hg4.out (by assumption)⟩
      · have hri' : ss.all rightB = false := by simpa using hri
        have hri2 := Lib.hid hri'
        cases hti : (ss.drop 0).all rightB
        · have hti' := Lib.hid hti
          clear hti hri hri'
          go_wp2_with fail
          refine (hWwrong.out hri2.out _ hg1.out).mono ?_
          rintro e w2 ⟨rfl, hb2⟩
          have hg2 := Lib.hid (hg1.out.trans hb2)
          clear hb2
          go_wp2_with fail
          refine (hIwrong.out hti'.out _ hg2.out).mono ?_
          rintro e w3 ⟨rfl, hb3⟩
          have hg3 := Lib.hid (hg2.out.trans hb3)
          clear hb3
          go_wp2_with fail
          refine (wakes_any _ (hG'.out.gr hg3.out)).mono ?_
          rintro e w4 ⟨rfl, hb4⟩
          have hg4 := Lib.hid (hg3.out.trans hb4)
          clear hb4
          go_wp2
          go_ret
          exact ⟨rfl, hg4.out⟩
        · exfalso
          have h9 := hmid.out
          rw [hri', hti] at h9
          simp at h9
    · have hne : ¬ (cap = k ∨ k = 0) := by omega
      rw [if_neg hne, h3] at hP
      dsimp only at hP
      subst hP hC h3
      by_cases hri : ss.all rightB = true
      · have hboth := hmid.out
        rw [hri] at hboth
        obtain ⟨hto, hti⟩ := Bool.and_eq_true_iff.1 hboth.symm
        have hto' := Lib.hid hto
        have hti' := Lib.hid hti
        have hri' := Lib.hid hri
        clear hboth hto hti hri
        go_wp2_with fail
        refine (hWok.out hri'.out _ hg1.out).mono ?_
        rintro e w2 ⟨f1, g1, lb1, F1, rfl, hn1, hb2⟩
        obtain rfl := hn1.f
        have eg1 := hn1.enters
        have hn1' := Lib.hid hn1
        have hb2' := Lib.hid hb2
        have hg2 := Lib.hid (hg1.out.trans hb2)
        replace q0 := hb2.cell q0
        replace q1 := hb2.cell q1
        replace q2 := hb2.cell q2
        replace q3 := hb2.cell q3
        replace q4 := hb2.cell q4
        replace q5 := hb2.cell q5
        replace q6 := hb2.cell q6
        clear hn1 hb2
        go_wp2_with fail
        refine (hIok.out hti'.out _ hg2.out).mono ?_
        rintro e w3 ⟨f2, g2, lb2, F2, rfl, hn2, hb3⟩
        obtain rfl := hn2.f
        have eg2 := hn2.enters
        have hn2' := Lib.hid hn2
        have hb3' := Lib.hid hb3
        have hg3 := Lib.hid (hg2.out.trans hb3)
        replace q0 := hb3.cell q0
        replace q1 := hb3.cell q1
        replace q2 := hb3.cell q2
        replace q3 := hb3.cell q3
        replace q4 := hb3.cell q4
        replace q5 := hb3.cell q5
        replace q6 := hb3.cell q6
        clear hn2 hb3
        go_wp2_with fail
        refine (hOok.out hto'.out g2 lb2 F2 _ hg3.out _ _ hn2'.out).mono ?_
        rintro e w4 ⟨f3, g3, lb3, F3, rfl, hn3, hb4⟩
        obtain rfl := hn3.f
        have eg3 := hn3.enters
        have hn3' := Lib.hid hn3
        have hg4 := Lib.hid (hg3.out.trans hb4)
        have hcw := Lib.hid (fun W (h : Gr w4 W) => hn1'.out.call ((hb3'.out.trans hb4).trans h) r _ (hf'.out.gr (hg4.out.trans h)) hrok.out)
        have hco := Lib.hid (fun W (h : Gr w4 W) => hn3'.out.call h r _ (hf'.out.gr (hg4.out.trans h)) hrok.out)
        replace q0 := hb4.cell q0
        replace q1 := hb4.cell q1
        replace q2 := hb4.cell q2
        replace q3 := hb4.cell q3
        replace q4 := hb4.cell q4
        replace q5 := hb4.cell q5
        replace q6 := hb4.cell q6
        have hGw := Lib.hid (fun W (h : Gr w4 W) => hG'.out.gr (hg4.out.trans h))
        have hdw : Gr w4 w4.drew := Gr.drew' w4
        clear hn3 hb4
        go_wp2
        go_region_held3 (fun w' => w'.cell? ⟨w.heap.size, 0, none⟩ = some (.string ⟨r.m.toArray⟩) ∧ w'.cell? ⟨w.heap.size, 1, none⟩ = some (.string ⟨r.p.toArray⟩) ∧ w'.cell? ⟨w.heap.size, 2, none⟩ = some (.string ⟨r.q.toArray⟩) ∧ w'.cell? ⟨w.heap.size, 3, none⟩ = some (.int .i64 r.v) ∧ w'.cell? ⟨w.heap.size, 4, none⟩ = some (.slice q r.fs.length cap2) ∧ w'.cell? ⟨w.heap.size, 5, none⟩ = some (.string ⟨r.b.toArray⟩) ∧ w'.cell? ⟨w.heap.size, 6, none⟩ = some (.bool r.c)) (go_keep)
          (first
            | (refine (hcw.out _ ?_).mono ?_
               · assumption
               rintro e wa ⟨x1, t1, rfl, hown1, hl1, hR1, hch1⟩
               obtain rfl := tell_out [] ss r x1 hR1
               have hf1 := hown1.at
               rw [List.nil_append] at hf1 hl1
               have hgra := gr_of_ch hch1
               have hgA : Gr w4 wa := Gr.trans (by assumption) hgra
               try (have hf2 := FieldsAt.gr hf2 hgra)
               replace q0 := hgra.cell q0
               replace q1 := hgra.cell q1
               replace q2 := hgra.cell q2
               replace q3 := hgra.cell q3
               replace q4 := hgra.cell q4
               replace q5 := hgra.cell q5
               replace q6 := hgra.cell q6
               clear hown1 hR1 hch1)
            | (refine (hco.out _ ?_).mono ?_
               · assumption
               rintro e wb ⟨x2, t2, rfl, hown2, hl2, hR2, hch2⟩
               have hx2 := tell_out (ss.take k) (ss.drop k) r x2 hR2
               rw [hdt.out] at hx2
               subst hx2
               have hf2 := hown2.at
               have hgrb := gr_of_ch hch2
               have hgB : Gr w4 wb := Gr.trans (by assumption) hgrb
               try (have hf1 := FieldsAt.gr hf1 hgrb)
               replace q0 := hgrb.cell q0
               replace q1 := hgrb.cell q1
               replace q2 := hgrb.cell q2
               replace q3 := hgrb.cell q3
               replace q4 := hgrb.cell q4
               replace q5 := hgrb.cell q5
               replace q6 := hgrb.cell q6
               clear hown2 hR2 hch2)
            | (go_at_call 17
               refine (same_any (outB ss r) (outB ss r) _ _ _ ?_ ?_ (Nat.le_trans hl1 (by omega)) (Nat.le_trans hl1 (by omega))).mono ?_
               · assumption
               · assumption
               rintro e wc ⟨rfl, hbc⟩
               rw [sameB_refl]
               have hgC : Gr w4 wc := Gr.trans (by assumption) hbc
               replace q0 := hbc.cell q0
               replace q1 := hbc.cell q1
               replace q2 := hbc.cell q2
               replace q3 := hbc.cell q3
               replace q4 := hbc.cell q4
               replace q5 := hbc.cell q5
               replace q6 := hbc.cell q6
               clear hbc)
            | (go_at_call 10
               refine (wakes_any _ ?_).mono ?_
               · exact hGw.out _ (by assumption)
               rintro e wd ⟨rfl, hbd⟩
               have hgD : Gr w4 wd := Gr.trans (by assumption) hbd
               replace q0 := hbd.cell q0
               replace q1 := hbd.cell q1
               replace q2 := hbd.cell q2
               replace q3 := hbd.cell q3
               replace q4 := hbd.cell q4
               replace q5 := hbd.cell q5
               replace q6 := hbd.cell q6
               clear hbd))
        all_goals go_wp2
        all_goals go_ret
        all_goals exact ⟨rfl, Gr.trans hg4.out (by assumption)⟩
      · have hri' : ss.all rightB = false := by simpa using hri
        have hri2 := Lib.hid hri'
        cases hti : (ss.drop k).all rightB
        · have hti' := Lib.hid hti
          clear hti hri hri'
          go_wp2_with fail
          refine (hWwrong.out hri2.out _ hg1.out).mono ?_
          rintro e w2 ⟨rfl, hb2⟩
          have hg2 := Lib.hid (hg1.out.trans hb2)
          clear hb2
          go_wp2_with fail
          refine (hIwrong.out hti'.out _ hg2.out).mono ?_
          rintro e w3 ⟨rfl, hb3⟩
          have hg3 := Lib.hid (hg2.out.trans hb3)
          clear hb3
          go_wp2_with fail
          refine (wakes_any _ (hG'.out.gr hg3.out)).mono ?_
          rintro e w4 ⟨rfl, hb4⟩
          have hg4 := Lib.hid (hg3.out.trans hb4)
          clear hb4
          go_wp2
          go_ret
          exact ⟨rfl, hg4.out⟩
        · have hti' := Lib.hid hti
          have hto' := Lib.hid (show (ss.take k).all rightB = false by have := hmid.out; rw [hri', hti, Bool.and_true] at this; exact this.symm)
          clear hti hri hri'
          go_wp2_with fail
          refine (hWwrong.out hri2.out _ hg1.out).mono ?_
          rintro e w2 ⟨rfl, hb2⟩
          have hg2 := Lib.hid (hg1.out.trans hb2)
          clear hb2
          go_wp2_with fail
          refine (hIok.out hti'.out _ hg2.out).mono ?_
          rintro e w3 ⟨f2, g2, lb2, F2, rfl, hn2, hb3⟩
          obtain rfl := hn2.f
          have hg3 := Lib.hid (hg2.out.trans hb3)
          clear hb3 hn2
          go_wp2_with fail
          refine (hOwrong.out hto'.out g2 lb2 _ hg3.out).mono ?_
          rintro e w4 ⟨rfl, hb4⟩
          have hg4 := Lib.hid (hg3.out.trans hb4)
          clear hb4
          go_wp2_with fail
          refine (wakes_any _ (hG'.out.gr hg4.out)).mono ?_
          rintro e w5 ⟨rfl, hb5⟩
          have hg5 := Lib.hid (hg4.out.trans hb5)
          clear hb5
          go_wp2
          go_ret
          exact ⟨rfl, hg5.out⟩
end Go.Proofs.YtolpphmgobeocaaDoor
