/-
  Requests: the walk over body.
-/
import Derived.Test.YtpncfeaaffgkfaaGreatDoorYg
import Derived.BigRegion
import Derived.Deep.RegionWith
namespace Go.Proofs.YtpncfeaaffgkfaaGreatDoor
open Go.RowKit
attribute [local go_sem] Oper.semAt_some

theorem PsAt.feedC {B b : Nat} {T : Nat → Prop} {W W1 : World} {p : Ps} {fv : Value} {c' : Ck} {lv dv : Value} (h : PsAt B T W p fv (.pointer (some ⟨b, 0, none⟩))) (hF : ∀ k, Fp b lv dv k → T k ∧ k ≠ B) (hb : 7 < b) (hok : CkOk c') (hp : RdPost b lv dv W c' W1) :
    ∃ T1, PsAt B T1 W1 { p with ch := some c' } fv (.pointer (some ⟨b, 0, none⟩)) ∧ Ch T W W1 ∧ (∀ k, T1 k → T k ∨ W.heap.size ≤ k) ∧ ∀ a n c, fv = .slice (some a) n c → (∃ n0 c0, W.cell? ⟨B, 7, none⟩ = some (.slice (some a) n0 c0)) ∨ W.heap.size ≤ a.block := by
  obtain ⟨lv', dv', hR, hC, hS⟩ := hp
  have hz := hC.size
  have hlt := h.lt
  have cell : ∀ {o v}, W.cell? ⟨B, o, none⟩ = some v → W1.cell? ⟨B, o, none⟩ = some v := fun {o v} hh => (hC.cell (p := ⟨B, o, none⟩) h.lt (fun e => (hF B e).2 rfl)).trans hh
  refine ⟨fun k => T k ∨ Fp b lv' dv' k, ⟨cell h.c0, cell h.c1, cell h.c2, cell h.c3, cell h.c4, cell h.c5, cell h.c6, cell h.c7, cell h.c8, cell h.c9, cell h.c10, cell h.c11, cell h.c12,
    fun o => (hC.frozen (p := ⟨B, o, none⟩) h.lt (fun e => (hF B e).2 rfl)).trans (h.fz o), h.f.ch hC (fun a n c e hk => h.fo a n c e (hF _ hk).1), ?_, ?_, .inl h.tb, ?_, h.gb, fun a n c e => Nat.lt_of_lt_of_le (h.fb a n c e) hz⟩, hC.mono (fun k hk => (hF k hk).1), ?_, fun a n c e => .inl ⟨n, c, e ▸ h.c7⟩⟩
  · intro a n c e hk
    rcases hk with hk | hk
    · exact h.fo a n c e hk
    · rcases hS _ hk with hk | hk
      · exact h.fo a n c e (hF _ hk).1
      · have := h.fb a n c e; omega
  · refine ⟨b, lv', dv', rfl, hR, hok, hb, fun k hk => ⟨.inr hk, ?_⟩⟩
    rcases hS k hk with hk | hk
    · exact (hF k hk).2
    · omega
  · intro k hk
    rcases hk with hk | hk
    · exact ⟨(h.tl k hk).1, Nat.lt_of_lt_of_le (h.tl k hk).2 hz⟩
    · refine ⟨?_, (hR.fp_lt k hk).2⟩
      rcases hS k hk with hk | hk
      · exact (h.tl k (hF k hk).1).1
      · omega
  · intro k hk
    rcases hk with hk | hk
    · exact .inl hk
    · exact (hS k hk).imp (fun hk => (hF k hk).1) id
theorem PsAt.sbody {B : Nat} {T : Nat → Prop} {W : World} {p : Ps} {fv cv : Value} (h : PsAt B T W p fv cv) (x : List UInt8) :
    PsAt B T (W.setCell ⟨B, 8, none⟩ (.string ⟨x.toArray⟩)) { p with r := { p.r with b := x } } fv cv := by
  refine ⟨?_, ?_, ?_, ?_, ?_, ?_, ?_, ?_, ?_, ?_, ?_, ?_, ?_, fun o => by simp [go_sem, h.fz], h.f.putB h.fo h.tb 8 _, h.fo, h.ch.put 8 _, h.tb, fun k hk => ⟨(h.tl k hk).1, by simpa using (h.tl k hk).2⟩, h.gb, fun a n c e => by simpa using h.fb a n c e⟩
  all_goals simp [go_sem, h.c0, h.c1, h.c2, h.c3, h.c4, h.c5, h.c6, h.c7, h.c8, h.c9, h.c10, h.c11, h.c12]
set_option maxHeartbeats 8000000 in
set_option maxRecDepth 100000 in
theorem body_none (B : Nat) (T : Nat → Prop) (p : Ps) (fv cv : Value) (w : World) (h : PsAt B T w p fv cv) (hch : p.ch = none) (_hl : p.inp.length ≤ 90000) :
    Calls Tryz.prog 26 #[.pointer (some ⟨B, 0, none⟩)] w fun e w' => e = .returned (.bool (bodyQ p).2) ∧ PsPost B T w (bodyQ p).1 w' := by
  have h' := Lib.hid h
  have hcv : cv = .pointer none := by have := h.ch; rw [hch] at this; exact this
  subst hcv
  have hqa : bodyQ p = if p.inp.length < p.len then (p, false) else ({ p with r := { p.r with b := p.inp.take p.len }, inp := p.inp.drop p.len }, true) := by unfold bodyQ; rw [hch]
  have c11 := h.c11
  haveI : Nonempty (Later (Gr w)) := ⟨⟨w, Gr.refl w⟩⟩
  have t0 : ∀ x : Later (Gr w), x.w.cell? ⟨B, 0, none⟩ = some (.string ⟨p.inp.toArray⟩) := fun x => x.ok.cell h.c0
  have t10 : ∀ x : Later (Gr w), x.w.cell? ⟨B, 10, none⟩ = some (.int .i64 p.len) := fun x => x.ok.cell h.c10
  by_cases hs : p.inp.length < p.len
  · rw [if_pos hs] at hqa
    have hq := Lib.hid hqa
    have hsI : (p.inp.length : Int) < p.len := by omega
    clear hqa hch h hs
    go_enter Tryz.func26, Tryz.ntmps26
    go_upto_region 2 with (fail)
    refine wp_region_later (C := Gr w) (by kernel_rfl) (by kernel_rfl) (Gr.drew' _) ?_
    repeat (go_big_quiet_step (fail))
    refine wpQuiet_nil ?_
    intro w9 hg9
    have hg := Lib.hid hg9
    clear t0 t10 hg9
    go_wp2
    go_ret
    exact ⟨by rw [hq.out]; rfl, by rw [hq.out]; exact PsPost.of_gr h'.out hg.out⟩
  · rw [if_neg hs] at hqa
    have hsI : (p.len : Int) ≤ p.inp.length := by omega
    have hex1 : (⟨p.inp.toArray⟩ : ByteArray).extract 0 p.len = ⟨(p.inp.take p.len).toArray⟩ := by rw [extract_mk]; rfl
    have hex2 : (⟨p.inp.toArray⟩ : ByteArray).extract p.len p.inp.length = ⟨(p.inp.drop p.len).toArray⟩ := by rw [extract_mk, List.take_of_length_le (Nat.le_refl _)]
    obtain ⟨x1, hx1⟩ : ∃ x, p.inp.take p.len = x := ⟨_, rfl⟩
    obtain ⟨x2, hx2⟩ : ∃ x, p.inp.drop p.len = x := ⟨_, rfl⟩
    rw [hx1, hx2] at hqa
    rw [hx1] at hex1
    rw [hx2] at hex2
    have hq := Lib.hid hqa
    clear hqa hch h hs hx1 hx2
    go_enter Tryz.func26, Tryz.ntmps26
    go_upto_region 2 with (fail)
    refine wp_region_later (C := Gr w) (by kernel_rfl) (by kernel_rfl) (Gr.drew' _) ?_
    repeat (go_big_quiet_step (fail))
    refine wpQuiet_nil ?_
    intro w9 hg9
    have hg := Lib.hid hg9
    clear hg9
    go_upto_region 4 with (fail)
    have h8 := h'.out.gr hg.out
    have h8' := Lib.hid h8
    have c0 := h8.c0
    have c8 := h8.c8
    have c10 := h8.c10
    have fz := h8.fz
    clear t0 t10 h8
    have hfin := Lib.hid (show PsPost B T w (bodyQ p).1 ((w9.setCell ⟨B, 8, none⟩ (.string ⟨x1.toArray⟩)).setCell ⟨B, 0, none⟩ (.string ⟨x2.toArray⟩)).drew by
      rw [hq.out]
      exact PsPost.behind (PsPost.ahead h'.out.lt hg.out ⟨T, fv, _, (h8'.out.sbody x1).inp x2, (h8'.out.chT _).trans (Ch.setCell _ (a := ⟨B, 0, none⟩) h8'.out.tb _), fun _ hk => .inl hk, fun a n c e => .inl ⟨n, c, e ▸ h8'.out.c7⟩⟩) (Gr.drew' _))
    go_region
    go_wp2
    go_ret
    exact ⟨by rw [hq.out]; rfl, hfin.out⟩
set_option maxHeartbeats 8000000 in
set_option maxRecDepth 100000 in
theorem body_some (B : Nat) (T : Nat → Prop) (p : Ps) (fv cv : Value) (c : Ck) (w : World) (hG : G w) (h : PsAt B T w p fv cv) (hch : p.ch = some c) (hl : p.inp.length ≤ 90000) (hu : p.und.length ≤ 90000) :
    Calls Tryz.prog 26 #[.pointer (some ⟨B, 0, none⟩)] w fun e w' => e = .returned (.bool (bodyQ p).2) ∧ PsPost B T w (bodyQ p).1 w' := by
  have hG' := Lib.hid hG
  have h' := Lib.hid h
  have hc := h.ch
  rw [hch] at hc
  obtain ⟨b, lv, dv, rfl, hR, hok, hb, hF⟩ := hc
  have hR' := Lib.hid hR
  have hF' := Lib.hid hF
  have hb' := Lib.hid hb
  have hok' := Lib.hid hok
  have hqa : bodyQ p = ({ takesQ p (feedC c p.inp).1 with ch := some (feedC c p.inp).2, bad := (feedC c p.inp).2.bad, r := { p.r with b := (feedC c p.inp).2.data } }, decide ((feedC c p.inp).2.st = 4 ∧ (feedC c p.inp).2.bad = 0)) := by unfold bodyQ; rw [hch]
  have hmle := feed_le p.inp c
  have hok2 := feed_ok p.inp hok
  obtain ⟨⟨m, c'⟩, hf⟩ : ∃ x, feedC c p.inp = x := ⟨_, rfl⟩
  rw [hf] at hqa hmle hok2
  dsimp only at hqa hmle hok2
  have hok3 := Lib.hid hok2
  have hf' := Lib.hid hf
  have hq := Lib.hid hqa
  have c11 := h.c11
  have c0 := h.c0
  clear hqa hch h hR hF hb hf hok hok2
  have hfd := Lib.hid (fun W hg => cfeed_is b c c' p.inp m hf'.out lv dv W (hG'.out.gr hg) (Nat.lt_of_le_of_lt (by decide) hb'.out) (hR'.out.gr hg) hok'.out (by omega))
  go_enter Tryz.func26, Tryz.ntmps26
  go_upto_region 6 with (fail)
  go_region_with (first
    | (go_at_call 44; refine (hfd.out _ (Gr.drew' _)).mono ?_; rintro e w1 ⟨rfl, hp1⟩; obtain ⟨T1, hP1, hC1, hS1⟩ := (h'.out.gr (Gr.drew' _)).feedC hF'.out hb'.out hok3.out hp1; have hP1' := Lib.hid hP1; have hC1' := Lib.hid hC1; have hS1' := Lib.hid hS1; clear hp1 hP1 hC1 hS1)
    | (go_at_call 43; refine (takes_any B T1 _ fv _ m _ hP1'.out hmle (by show p.inp.length + p.und.length ≤ _; omega)).mono ?_; rintro e w2 ⟨rfl, hp2⟩; have hp2' := Lib.hid hp2; clear hp2))
  all_goals
    obtain ⟨p3, hp3⟩ : ∃ x, takesQ { p with ch := some c' } m = x := ⟨_, rfl⟩
    have hfin0 := Lib.hid (show ∀ W, PsPost B T1 w1 { { p3 with bad := c'.bad } with r := { p3.r with b := c'.data } } W → PsPost B T w (bodyQ p).1 W from fun W hW => by
      rw [hq.out]
      subst hp3
      exact PsPost.ahead h'.out.lt (Gr.drew' _) (PsPost.next hP1'.out hC1'.out hS1'.out hW))
    have hd := Lib.hid (show (bodyQ p).2 = decide (c'.st = 4 ∧ c'.bad = 0) by rw [hq.out])
    rw [hp3] at hp2'
    obtain ⟨T2, fv2, cv2, hP2, hC2, hS2⟩ := hp2'.out
    have hch2 := hP2.ch
    have hc9 : p3.ch = some c' := by rw [← hp3]; rfl
    rw [hc9] at hch2
    obtain ⟨b2, lv2, dv2, hcv, hR2, hokk, hb2, hF2⟩ := hch2
    subst hcv
    replace c11 := hP2.c11
    have c12 := hP2.c12
    have c8 := hP2.c8
    have fz := hP2.fz
    have hR2' := Lib.hid hR2
    have hR3 := Lib.hid (show Rd b2 (w2.setCell ⟨B, 12, none⟩ (.int .i64 c'.bad)) c' lv2 dv2 from hR2.ch (Ch.putB w2 _) (fun k hk hf => (hF2 k hf).2 hk))
    have hR4 := Lib.hid (show Rd b2 ((w2.setCell ⟨B, 12, none⟩ (.int .i64 c'.bad)).setCell ⟨B, 8, none⟩ (.string ⟨c'.data.toArray⟩)) c' lv2 dv2 from hR3.out.ch (Ch.putB _ _) (fun k hk hf => (hF2 k hf).2 hk))
    have hfin := Lib.hid (hfin0.out _ (PsPost.next hP2 hC2 hS2 ⟨T2, fv2, _, (hP2.sbad c'.bad).sbody c'.data, (hP2.chT _).trans (Ch.setCell _ (a := ⟨B, 8, none⟩) hP2.tb _), fun _ hk => .inl hk, fun a n c e => .inl ⟨n, c, e ▸ hP2.c7⟩⟩))
    clear hp3 hp2' hP2 hC2 hS2 hc9 hokk hb2 hF2 hR2 hfin0 c0 hP1' hC1' hS1' hfd
    go_wp2_with fail
    refine (bad_any b2 c' lv2 dv2 _ hR2'.out).mono ?_
    rintro e w3 ⟨rfl, rfl⟩
    go_wp2_with fail
    refine (data_any b2 c' lv2 dv2 _ hR3.out).mono ?_
    rintro e w3 ⟨rfl, rfl⟩
    go_wp2_with fail
    refine (done_is b2 c' _ rfl lv2 dv2 _ hR4.out).mono ?_
    rintro e w3 ⟨rfl, rfl⟩
    rw [← hd.out]
    go_wp2
    go_ret
    exact ⟨rfl, hfin.out⟩
end Go.Proofs.YtpncfeaaffgkfaaGreatDoor
