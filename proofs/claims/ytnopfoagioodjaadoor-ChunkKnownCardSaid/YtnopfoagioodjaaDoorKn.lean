/-
  The walk over ChunkKnown.
-/
import Derived.Test.YtnopfoagioodjaaDoorKk
import Derived.Test.YtnopfoagioodjaaDoorP13
namespace Go.Proofs.YtnopfoagioodjaaDoor
open Go.RowKit
attribute [local go_sem] Oper.semAt_some

set_option maxHeartbeats 2000000 in
set_option maxRecDepth 20000 in
theorem bad_law (s : List UInt8) (n bd : Nat) (h1 : (feedC ck0 s).1 = n) (h2 : (feedC ck0 s).2.bad = bd) (w : World) (hG : G w) (hl : s.length ≤ 1000000) :
    Calls Tryd.prog 18 #[.string ⟨s.toArray⟩] w fun e w' => e = .returned (.tuple #[.int .i64 bd, .int .i64 n]) ∧ Gr w w' := by
  obtain ⟨⟨n0, c'⟩, hx⟩ : ∃ x, feedC ck0 s = x := ⟨_, rfl⟩
  rw [hx] at h1 h2
  dsimp only at h1 h2
  subst h1
  have hG' := Lib.hid hG
  have hx' := Lib.hid hx
  have h2' := Lib.hid h2
  clear hG hx h2
  go_enter Tryd.func18, Tryd.ntmps18
  go_wp2_with fail
  refine (new_any _).mono ?_
  rintro e w1 ⟨rfl, hR, hg⟩
  have hR1 := Lib.hid hR
  have g1 := Lib.hid hg
  clear hR hg
  go_wp2_with fail
  refine (cfeed_is w.heap.size ck0 c' s n0 hx'.out _ _ w1 (hG'.out.gr g1.out) hG'.out.lt hR1.out ck0_ok hl).mono ?_
  rintro e w2 ⟨rfl, hp⟩
  have g2 := Lib.hid (hp.made hR1.out (Nat.le_refl _) g1.out)
  obtain ⟨lv, dv, hR, _, _⟩ := hp
  have hR2 := Lib.hid hR
  clear hR
  go_wp2_with fail
  refine (bad_is _ c' _ h2'.out _ _ w2 hR2.out).mono ?_
  rintro e w3 ⟨rfl, rfl⟩
  go_wp2
  go_ret2
  exact ⟨rfl, g2.out⟩

theorem rep_any (w : World) : Calls Tryd.prog 19 #[.string ⟨#[120]⟩, .int .i64 4096] w fun e w' => e = .returned (.string ⟨xsL.toArray⟩) ∧ Gr w w' :=
  Tryd.strings_Repeat_main ⟨#[120]⟩ 4096 w (by decide) (by decide) (by decide) (by decide)

set_option maxHeartbeats 4000000 in
set_option maxRecDepth 20000 in
theorem known_any (w : World) (hG : G w) : Calls Tryd.prog 8 #[] w fun e w' => e = .returned (.bool true) ∧ Gr w w' := by
  have hG' := Lib.hid hG
  have b1 := Lib.hid (fun W h => bad_law [51, 13, 10, 97, 98, 99, 100] 7 400 (by decide +kernel) (by decide +kernel) W h (by decide))
  have b2 := Lib.hid (fun W h => bad_law [49, 48, 48, 49, 13, 10] 6 413 (by decide +kernel) (by decide +kernel) W h (by decide))
  have b3 := Lib.hid (fun W h => bad_law [49, 48, 48, 48, 48, 48, 48, 48, 48, 13, 10] 11 400 (by decide +kernel) (by decide +kernel) W h (by decide))
  have b4 := Lib.hid (fun W h => bad_law [103, 13, 10] 3 400 (by decide +kernel) (by decide +kernel) W h (by decide))
  have b5 := Lib.hid (fun W h => bad_law [49, 13, 10, 120, 13, 10, 49, 48, 48, 48, 13, 10] 12 413 (by decide +kernel) (by decide +kernel) W h (by decide))
  have b6 := Lib.hid (fun W h => bad_law [48, 10] 2 400 (by decide +kernel) (by decide +kernel) W h (by decide))
  obtain ⟨r4, hr4⟩ : ∃ r : Ck, { atTail xsL 1 8 with st := 4 } = r := ⟨_, rfl⟩
  have hgreat := Lib.hid (show feedC ck0 greatL = (4116, r4) from hr4 ▸ great_eq)
  have hmore := Lib.hid (show feedC r4 [109, 111, 114, 101] = (0, r4) from feed_over (by rw [← hr4]) _)
  have hok4 := Lib.hid (show CkOk r4 by have := feed_ok greatL ck0_ok; rw [hgreat.out] at this; exact this)
  have hdn4 := Lib.hid (show decide (r4.st = 4 ∧ r4.bad = 0) = true by rw [← hr4]; rfl)
  have hdt4 := Lib.hid (show r4.data = xsL by rw [← hr4]; rfl)
  have hrep := Lib.hid rep_any
  obtain ⟨xs, hxs⟩ : ∃ l, xsL = l := ⟨_, rfl⟩
  have hxl : xs.length = 4096 := hxs ▸ xs_len
  have hgl := Lib.hid (show [49, 48, 48, 48, 13, 10] ++ xs ++ [13, 10, 48, 48, 13, 10, 97, 58, 32, 98, 13, 10, 13, 10] = greatL by rw [← hxs]; rfl)
  rw [hxs] at hrep hdt4
  clear hG hxs hr4
  have e1 : (⟨#[49, 48, 48, 48, 13, 10]⟩ : ByteArray) ++ ⟨xs.toArray⟩ = ⟨([49, 48, 48, 48, 13, 10] ++ xs).toArray⟩ := cat_mk [49, 48, 48, 48, 13, 10] xs
  obtain ⟨y1, hy1⟩ : ∃ l, [49, 48, 48, 48, 13, 10] ++ xs = l := ⟨_, rfl⟩
  rw [hy1] at e1 hgl
  have hy1l : y1.length = 4102 := by rw [← hy1]; simp [hxl]
  have e2 : (⟨y1.toArray⟩ : ByteArray) ++ ⟨#[13, 10, 48, 48, 13, 10, 97, 58, 32, 98, 13, 10, 13, 10]⟩ = ⟨greatL.toArray⟩ := by rw [← hgl.out]; exact cat_mk y1 [13, 10, 48, 48, 13, 10, 97, 58, 32, 98, 13, 10, 13, 10]
  clear hy1
  go_enter Tryd.func8, Tryd.ntmps8
  go_wp2_with fail
  refine (b1.out _ hG'.out).mono ?_
  rintro e w1 ⟨rfl, hg⟩
  have g1 := Lib.hid hg
  clear hg
  go_wp2_with fail
  refine (b2.out _ (hG'.out.gr g1.out)).mono ?_
  rintro e w2 ⟨rfl, hg⟩
  have g2 := Lib.hid (g1.out.trans hg)
  clear hg
  go_wp2_with fail
  refine (b3.out _ (hG'.out.gr g2.out)).mono ?_
  rintro e w3 ⟨rfl, hg⟩
  have g3 := Lib.hid (g2.out.trans hg)
  clear hg
  go_wp2_with fail
  refine (b4.out _ (hG'.out.gr g3.out)).mono ?_
  rintro e w4 ⟨rfl, hg⟩
  have g4 := Lib.hid (g3.out.trans hg)
  clear hg
  go_wp2_with fail
  refine (new_any _).mono ?_
  rintro e w5 ⟨rfl, hR, hg⟩
  have hR5 := Lib.hid hR
  have g5 := Lib.hid (g4.out.trans hg)
  have hbb := Lib.hid (show w.heap.size ≤ w4.heap.size from g4.out.size)
  clear hR hg
  go_wp2_with fail
  refine (hrep.out _).mono ?_
  rintro e w6 ⟨rfl, hg⟩
  have hR6 := Lib.hid (hR5.out.gr hg)
  have g6 := Lib.hid (g5.out.trans hg)
  clear hg
  go_wp2_with fail
  refine (cfeed_is w4.heap.size ck0 r4 greatL 4116 hgreat.out _ _ w6 (hG'.out.gr g6.out) (by have := hG'.out.lt; have := hbb.out; omega) hR6.out ck0_ok (by rw [great_len]; decide)).mono ?_
  rintro e w7 ⟨rfl, hp⟩
  have g7 := Lib.hid (hp.made hR6.out hbb.out g6.out)
  obtain ⟨lv7, dv7, hR, _, _⟩ := hp
  have hR7 := Lib.hid hR
  clear hR
  go_wp2_with fail
  refine (cfeed_is w4.heap.size r4 r4 [109, 111, 114, 101] 0 hmore.out _ _ w7 (hG'.out.gr g7.out) (by have := hG'.out.lt; have := hbb.out; omega) hR7.out hok4.out (by decide)).mono ?_
  rintro e w8 ⟨rfl, hp⟩
  have g8 := Lib.hid (hp.made hR7.out hbb.out g7.out)
  obtain ⟨lv8, dv8, hR, _, _⟩ := hp
  have hR8 := Lib.hid hR
  clear hR
  go_wp2_with fail
  refine (b5.out _ (hG'.out.gr g8.out)).mono ?_
  rintro e w9 ⟨rfl, hg⟩
  have hR9 := Lib.hid (hR8.out.gr hg)
  have g9 := Lib.hid (g8.out.trans hg)
  clear hg
  go_wp2_with fail
  refine (b6.out _ (hG'.out.gr g9.out)).mono ?_
  rintro e w10 ⟨rfl, hg⟩
  have hR10 := Lib.hid (hR9.out.gr hg)
  have g10 := Lib.hid (g9.out.trans hg)
  clear hg
  go_wp2_with fail
  refine (awake_any _ (hG'.out.gr g10.out)).mono ?_
  rintro e w11 ⟨rfl, hg⟩
  have hR11 := Lib.hid (hR10.out.gr hg)
  have g11 := Lib.hid (g10.out.trans hg)
  clear hg
  go_wp2_with fail
  refine (done_is w4.heap.size r4 _ hdn4.out _ _ w11 hR11.out).mono ?_
  rintro e w12 ⟨rfl, rfl⟩
  go_wp2_with fail
  refine (data_is w4.heap.size r4 _ hdt4.out _ _ w11 hR11.out).mono ?_
  rintro e w12 ⟨rfl, rfl⟩
  go_wp2
  go_ret
  exact ⟨rfl, g11.out⟩
end Go.Proofs.YtnopfoagioodjaaDoor
