/-
  The walk over ChainOnce.
-/
import Derived.Test.YtolpphmgobeocaaDoorCz
import Derived.Test.YtolpphmgobeocaaDoorP6
namespace Go.Proofs.YtolpphmgobeocaaDoor
open Go.RowKit Go.Shelf
attribute [local go_sem] Oper.semAt_some

/-- The handler that counts its calls. -/
def ROnce (nb : Nat) (_ : Nat) (_ : Rq) (x : Rp) (_ W' : World) : Prop := x = ⟨299, [], []⟩ ∧ W'.cell? ⟨nb, 0, none⟩ = some (.int .i64 1)
theorem closed_once (nb : Nat) : Closed (fun k => k = nb) (ROnce nb) := by
  rintro B B' r x W W1 W2 W3 hB hW hT h01 ⟨h1, h2⟩ h23
  exact ⟨h1, (h23.cell (cell_lt h2) (fun e => by have := hT nb rfl; (try dsimp only at e); omega)).trans h2⟩
set_option maxHeartbeats 1000000 in
theorem once_b (nb : Nat) (F : Nat → Prop) (W0 : World) (hn : W0.cell? ⟨nb, 0, none⟩ = some (.int .i64 0)) (hz : W0.frozen? ⟨nb, 0, none⟩ = false) (hF : F nb) :
    HandlesB 22 #[.pointer (some ⟨nb, 0, none⟩)] (fun k => k = nb) F W0 0 (ROnce nb) := by
  intro B W r s hA hs hB hT _ _
  have hn1 := hA.cell (p := ⟨nb, 0, none⟩) hF hn
  have hz1 : W.frozen? ⟨nb, 0, none⟩ = false := (World.frozen?_of_block (hA.2 nb hF)).trans hz
  have hl : nb < W.heap.size := cell_lt hn1
  obtain ⟨p, cap, rfl⟩ := hs.slice
  have hB' := Lib.hid hB
  clear hs hA hT hn hz hF hB
  show Calls Tryd.prog 22 #[.agg #[.string ⟨r.m.toArray⟩, .string ⟨r.p.toArray⟩, .string ⟨r.q.toArray⟩, .int .i64 r.v, .slice p r.fs.length cap, .string ⟨r.b.toArray⟩, .bool r.c], .pointer (some ⟨nb, 0, none⟩)] W _
  go_enter Tryd.func22, Tryd.ntmps22
  go_wp2
  refine bodyPost_ret (v := Rp.V ⟨299, [], []⟩ (.slice none 0 0)) (by simp [results, Tryd.results22, go_sem, Rp.V]) rfl ⟨_, _, rfl, fieldsAt_nil _, Nat.le_refl _, ⟨rfl, ?_⟩, ?_⟩
  · exact ((Gr.alloc _ _).alloc1 _).cell (cell_set_same hn1)
  · exact (Ch.setCell (T := fun k => k = nb ∨ B ≤ k) W (a := ⟨nb, 0, none⟩) (.inl rfl) _).trans (((Gr.alloc _ _).alloc1 _).to_ch _)

/-- What the call of a handler of steps around ROnce comes to. -/
theorem once_spec {nb : Nat} {ss : List Stp} {r : Rq} {x : Rp} {W W' : World} (hk : ∀ s ∈ ss, KindOk s) (hn : W.cell? ⟨nb, 0, none⟩ = some (.int .i64 0)) (h : ThroughR ss (ROnce nb) W.heap.size r x W W') :
    (x.code = 299 ∧ W'.cell? ⟨nb, 0, none⟩ = some (.int .i64 1) ∧ x.fs.length = addsN ss) ∨
    (W'.cell? ⟨nb, 0, none⟩ = some (.int .i64 0) ∧ x.fs.length ≤ addsN ss ∧ ((x.code = 403 ∧ x.b = rForb.b) ∨ (x.code = 404 ∧ x.b = rNone.b) ∨ (x.code = 413 ∧ x.b = rLong.b))) := by
  rcases through_spec ss r x h with ⟨y, h1, h2, h3⟩ | ⟨h1, y, ⟨h2, h3⟩, h4⟩
  · refine .inr ⟨(Below.cell h3 (p := ⟨nb, 0, none⟩) (cell_lt hn)).trans hn, ?_, ?_⟩
    · have hy : y.fs = [] := by rcases goesB_with ss r y h1 with rfl | rfl | rfl <;> rfl
      rw [h2, Rp.more, hy]
      show (backB _ _).length ≤ _
      rw [backB_length _ _ (fun s hs => hk s (List.mem_of_mem_take hs))]
      exact addsN_take ss _
    · rw [h2]
      rcases goesB_with ss r y h1 with rfl | rfl | rfl
      · exact .inl ⟨rfl, rfl⟩
      · exact .inr (.inl ⟨rfl, rfl⟩)
      · exact .inr (.inr ⟨rfl, rfl⟩)
  · refine .inl ⟨by rw [h4, h2]; rfl, h3, ?_⟩
    rw [h4, h2]
    show (backB _ _).length = _
    exact backB_length _ _ hk

set_option maxHeartbeats 4000000 in
set_option maxRecDepth 100000 in
theorem once_any (lv sv : Value) (ss : List Stp) (r : Rq) (w : World) (hG : G w) (hx : StepsAt w lv ss) (hf : FieldsAt w sv r.fs) (hls : ss.length ≤ 9223372036854775807) (hlf : r.fs.length ≤ 9223372036854775807) (hlp : r.p.length ≤ 9223372036854775807) (hlb : r.b.length ≤ 9223372036854775807) :
    Calls Tryd.prog 7 #[lv, r.V sv] w fun e w' => e = .returned (.bool true) ∧ Gr w w' := by
  have hgr := Lib.hid (fun W (h : Gr w W) => great_any lv sv ss r W (hx.gr h) (hf.gr h) hls hlf hlp hlb)
  have hx' := Lib.hid hx
  have hf' := Lib.hid hf
  obtain ⟨p, cap, rfl, hc⟩ := hx
  obtain ⟨q, cap2, rfl, _⟩ := hf
  have hc' := Lib.hid hc
  have hG' := Lib.hid hG
  clear hG hc
  have hnf := fun (w : World) f x c => run_eql_func_nil (P := Tryd.prog) w Tryd.underlying40 f x c
  have hnn := fun (w : World) => run_eql_nil_nil (P := Tryd.prog) w Tryd.underlying40
  show Calls Tryd.prog 7 #[.slice p ss.length cap, .agg #[.string ⟨r.m.toArray⟩, .string ⟨r.p.toArray⟩, .string ⟨r.q.toArray⟩, .int .i64 r.v, .slice q r.fs.length cap2, .string ⟨r.b.toArray⟩, .bool r.c]] w _
  go_enter Tryd.func7, Tryd.ntmps7
  go_wp2_with fail
  refine (hgr.out _ (Gr.alloc _ _)).mono ?_
  rintro e w1 ⟨b, rfl, hsm, hb1⟩
  have q0 : w1.cell? ⟨w.heap.size, 0, none⟩ = some (.string ⟨r.m.toArray⟩) := hb1.cell (by simp [go_sem])
  have q1 : w1.cell? ⟨w.heap.size, 1, none⟩ = some (.string ⟨r.p.toArray⟩) := hb1.cell (by simp [go_sem])
  have q2 : w1.cell? ⟨w.heap.size, 2, none⟩ = some (.string ⟨r.q.toArray⟩) := hb1.cell (by simp [go_sem])
  have q3 : w1.cell? ⟨w.heap.size, 3, none⟩ = some (.int .i64 r.v) := hb1.cell (by simp [go_sem])
  have q4 : w1.cell? ⟨w.heap.size, 4, none⟩ = some (.slice q r.fs.length cap2) := hb1.cell (by simp [go_sem])
  have q5 : w1.cell? ⟨w.heap.size, 5, none⟩ = some (.string ⟨r.b.toArray⟩) := hb1.cell (by simp [go_sem])
  have q6 : w1.cell? ⟨w.heap.size, 6, none⟩ = some (.bool r.c) := hb1.cell (by simp [go_sem])
  have hg1 := Lib.hid ((Gr.alloc _ _).trans hb1)
  clear hb1 hgr
  cases b
  · have hsm' := Lib.hid (hsm rfl)
    clear hsm
    by_cases hok : ss.length ≤ 8 ∧ ss.all rightB = true
    · obtain ⟨h8, hright⟩ := hok
      have hkinds := Lib.hid (show ∀ s ∈ ss, KindOk s from fun s hs => right_kind (List.all_eq_true.1 hright s hs))
      have hrok := Lib.hid (show RqOk r from ⟨Nat.le_trans hsm'.out.f (by decide), fun f hf => ⟨Nat.le_trans (hsm'.out.g f hf).1 (by decide), Nat.le_trans (hsm'.out.g f hf).2 (by decide)⟩⟩)
      have hrf := Lib.hid hsm'.out.f
      have h8' := Lib.hid h8
      have hW : Gr w (w1.alloc (.cells #[.int .i64 0] 3)) := hg1.out.alloc1 _
      have hside : Side (fun k => k = w1.heap.size) (fun k => Gb k ∨ k = w1.heap.size) (w1.alloc (.cells #[.int .i64 0] 3)) := by
        refine ⟨fun k hk => ?_, fun k hk => ?_, hG'.out.gr hW, fun k hk => .inl hk⟩
        · rcases hk with hk | hk
          · exact (hG'.out.gr hW).old k hk
          · rw [hk]; simp
        · rw [hk]; simp
      have hwrap := Lib.hid (wrap_ok p cap ss 22 #[.pointer (some ⟨w1.heap.size, 0, none⟩)] (fun k => k = w1.heap.size) (fun k => Gb k ∨ k = w1.heap.size) 0 (ROnce w1.heap.size) _ (hx'.out.gr hW) h8 hright
        (fun s hs => by have := hsm'.out.s s hs; omega) (enters_of Tryd.func22 (by kernel_rfl) rfl) hside (once_b _ _ _ (by simp [go_sem]) (by simp [go_sem]) (.inr rfl)) (closed_once _) (by decide))
      clear hW hside h8 hright
      go_wp2_with fail
      refine hwrap.out.mono ?_
      rintro e w2 ⟨f, g, lb, F2, rfl, hnow, hb2⟩
      obtain rfl := hnow.f
      have eg := hnow.enters
      have hn0 : w2.cell? ⟨w1.heap.size, 0, none⟩ = some (.int .i64 0) := hb2.cell (by simp [go_sem])
      have hb2' : Gr w1 w2 := (Gr.alloc _ _).trans hb2
      have hz1 : w.heap.size < w1.heap.size := cell_lt (a := ⟨w.heap.size, 0, none⟩) q0
      replace q0 := hb2'.cell q0
      replace q1 := hb2'.cell q1
      replace q2 := hb2'.cell q2
      replace q3 := hb2'.cell q3
      replace q4 := hb2'.cell q4
      replace q5 := hb2'.cell q5
      replace q6 := hb2'.cell q6
      have hg2 := Lib.hid (hg1.out.trans hb2')
      have hcall := Lib.hid (hnow.call (Gr.refl _) r _ (hf'.out.gr hg2.out) hrok.out)
      clear hnow hb2 hb2' hwrap
      go_wp2_with fail
      refine hcall.out.mono ?_
      rintro e w3 ⟨x, t, rfl, hown, _, hR, hch⟩
      have hspec := Lib.hid (once_spec hkinds.out hn0 hR)
      obtain ⟨p2, cap3, rfl⟩ := hown.slice
      have hg3 := Lib.hid (show Gr w w3 from hg2.out.ch hch (fun k hk => by have := Below.size hg2.out; (try dsimp only at hk); omega))
      clear hcall hown hR hch hn0 q0 q1 q2 q3 q4 q5 q6
      unfold Rp.V
      go_wp2
      obtain ⟨w4, hw4⟩ : ∃ w4, w3.alloc (.cells #[.int .i64 x.code, .slice p2 x.fs.length cap3, .string ⟨x.b.toArray⟩] 27) = w4 := ⟨_, rfl⟩
      rw [hw4]
      have d0 : w4.cell? ⟨w3.heap.size, 0, none⟩ = some (.int .i64 x.code) := by rw [← hw4]; simp [go_sem]
      have d1 : w4.cell? ⟨w3.heap.size, 1, none⟩ = some (.slice p2 x.fs.length cap3) := by rw [← hw4]; simp [go_sem]
      have d2 : w4.cell? ⟨w3.heap.size, 2, none⟩ = some (.string ⟨x.b.toArray⟩) := by rw [← hw4]; simp [go_sem]
      have hg34 := Lib.hid (show Gr w3 w4 by rw [← hw4]; exact Gr.alloc _ _)
      have hg4 := Lib.hid (hg3.out.trans hg34.out)
      have hlenI : (ss.length : Int) ≤ 8 := by have := h8'.out; omega
      clear hw4
      go_loop [9, 10] (fun ad i => ∃ k : Nat, k ≤ ss.length ∧ i = .int .i64 k ∧ ad = .int .i64 (addsN (ss.take k))) (fun _ i => ss.length - (intOf i).toNat)
      case atStart => exact ⟨0, Nat.zero_le _, rfl, rfl⟩
      case round =>
        obtain ⟨k, hk, rfl, rfl⟩ := hrel
        have hal : ((addsN (ss.take k) : Nat) : Int) ≤ 8 := by have := addsN_le (ss.take k); rw [List.length_take] at this; omega
        by_cases hlt : k < ss.length
        · obtain ⟨b, off, rfl, c0, _, _, _⟩ := hc'.out k hlt
          have e0 := hg4.out.cell c0
          have hts := Lib.hid (show addsN (ss.take (k + 1)) = addsN (ss.take k) + if ss[k].kind == 1 || ss[k].kind == 5 then 1 else 0 by rw [List.take_succ_eq_append_getElem hlt, addsN_snoc])
          clear c0
          cases h1 : (ss[k].kind == 1)
          · cases h5 : (ss[k].kind == 5)
            · have hts2 := Lib.hid (show addsN (ss.take (k + 1)) = addsN (ss.take k) by rw [hts.out, h1, h5]; rfl)
              go_wp2
              go_round
              case rel => exact ⟨k + 1, by omega, by go_num, by rw [hts2.out]⟩
              case measure => simp [intOf]; omega
            · have hts2 := Lib.hid (show addsN (ss.take (k + 1)) = addsN (ss.take k) + 1 by rw [hts.out, h1, h5]; rfl)
              go_wp2
              go_round
              case rel => exact ⟨k + 1, by omega, by go_num, by rw [hts2.out]; go_num⟩
              case measure => simp [intOf]; omega
          · have hts2 := Lib.hid (show addsN (ss.take (k + 1)) = addsN (ss.take k) + 1 by rw [hts.out, h1]; rfl)
            go_wp2
            go_round
            case rel => exact ⟨k + 1, by omega, by go_num, by rw [hts2.out]; go_num⟩
            case measure => simp [intOf]; omega
        · obtain rfl : k = ss.length := by omega
          rw [List.take_length]
          rw [List.take_length] at hal
          obtain ⟨na, hna⟩ : ∃ na, addsN ss = na := ⟨_, rfl⟩
          have hsp := hspec.out
          rw [hna] at hsp hal ⊢
          obtain ⟨code, fs, bd⟩ := x
          dsimp only at hsp d0 d1 d2 ⊢
          have hlt' : ¬ ss.length < ss.length := by omega
          have hgw := Lib.hid (fun W (h : Gr w4 W) => hG'.out.gr (hg4.out.trans h))
          rcases hsp with ⟨rfl, hn, hl⟩ | ⟨hn, hl, hcb⟩
          · have hn4 := hg34.out.cell hn
            have hlb2 : ((fs.length : Int) == na) = true := by rw [beq_iff_eq]; omega
            clear hn hl hna
            go_wp2_with fail
            refine (wakes_any _ (hgw.out _ (Gr.refl _))).mono ?_
            rintro e w5 ⟨rfl, hb5⟩
            have hg5 := Lib.hid (hg4.out.trans hb5)
            clear hb5
            go_wp2
            go_ret
            exact ⟨rfl, hg5.out⟩
          · have hn4 := hg34.out.cell hn
            clear hn hna
            rcases hcb with ⟨rfl, rfl⟩ | ⟨rfl, rfl⟩ | ⟨rfl, rfl⟩
            all_goals (try unfold rForb at d2)
            all_goals (try unfold rNone at d2)
            all_goals (try unfold rLong at d2)
            all_goals dsimp only at d2
            all_goals go_wp2_with fail
            all_goals
              refine (wakes_any _ (hgw.out _ (Gr.refl _))).mono ?_
              rintro e w5 ⟨rfl, hb5⟩
              have hg5 := Lib.hid (hg4.out.trans hb5)
              clear hb5
              go_wp2
              go_ret
              exact ⟨rfl, hg5.out⟩
    · have hwrap := Lib.hid (show ∀ (g : Nat) (lb : Array Value) W, Gr w W → ∃ n : Int, (n = 6 ∨ n = 1) ∧ Calls Tryd.prog 14 #[.slice p ss.length cap, .func (.func g) #[] lb] W (WrapNo n W) from fun g lb W hW => by
        by_cases h8 : ss.length ≤ 8
        · exact ⟨1, .inr rfl, wrap_wrong p cap ss g lb W (hG'.out.gr hW) (hx'.out.gr hW) h8 (by have : ¬ ss.all rightB = true := fun h => hok ⟨h8, h⟩; simpa using this) (fun s hs => by have := hsm'.out.s s hs; omega)⟩
        · exact ⟨6, .inl rfl, wrap_full p ss.length cap g lb W (by omega) hls⟩)
      clear hok
      go_wp2_with fail
      obtain ⟨n, hn, hcall⟩ := hwrap.out 22 #[.pointer (some ⟨w1.heap.size, 0, none⟩)] _ (hg1.out.alloc1 (.cells #[.int .i64 0] 3))
      refine hcall.mono ?_
      rintro e w2 ⟨rfl, hb2⟩
      have hg2 := Lib.hid ((hg1.out.alloc1 _).trans hb2)
      have hn1 : (n != 0) = true := by rcases hn with rfl | rfl <;> rfl
      clear hb2 hcall hn
      go_wp2_with fail
      refine (wakes_any _ (hG'.out.gr hg2.out)).mono ?_
      rintro e w3 ⟨rfl, hb3⟩
      have hg3 := Lib.hid (hg2.out.trans hb3)
      clear hb3
      go_wp2
      go_ret
      exact ⟨rfl, hg3.out⟩
  · go_wp2_with fail
    refine (wakes_any _ (hG'.out.gr hg1.out)).mono ?_
    rintro e w3 ⟨rfl, hb3⟩
    have hg3 := Lib.hid (hg1.out.trans hb3)
    clear hb3
    go_wp2
    go_ret
    exact ⟨rfl, hg3.out⟩
end Go.Proofs.YtolpphmgobeocaaDoor
