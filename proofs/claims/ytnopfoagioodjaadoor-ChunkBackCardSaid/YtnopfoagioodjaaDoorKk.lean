/-
  The walk over chunk's awake.
-/
import Derived.Test.YtnopfoagioodjaaDoorKj
namespace Go.Proofs.YtnopfoagioodjaaDoor
open Go.RowKit
attribute [local go_sem] Oper.semAt_some

theorem cfeed_is (b : Nat) (c c' : Ck) (s : List UInt8) (n : Nat) (he : feedC c s = (n, c')) (lv dv : Value) (W : World) (hG : G W) (hb : 1 < b) (h : Rd b W c lv dv) (hok : CkOk c) (hl : s.length ≤ 1000000) :
    Calls Tryd.prog 12 #[.pointer (some ⟨b, 0, none⟩), .string ⟨s.toArray⟩] W fun e W' => e = .returned (.int .i64 n) ∧ RdPost b lv dv W c' W' := by
  have := cfeed_any b c s lv dv W hG hb h hok hl
  rw [he] at this; exact this
theorem data_is (b : Nat) (c : Ck) (l : List UInt8) (hl : c.data = l) (lv dv : Value) (W : World) (h : Rd b W c lv dv) :
    Calls Tryd.prog 14 #[.pointer (some ⟨b, 0, none⟩)] W fun e W' => e = .returned (.string ⟨l.toArray⟩) ∧ W = W' := hl ▸ data_any b c lv dv W h
theorem done_is (b : Nat) (c : Ck) (f : Bool) (hf : decide (c.st = 4 ∧ c.bad = 0) = f) (lv dv : Value) (W : World) (h : Rd b W c lv dv) :
    Calls Tryd.prog 15 #[.pointer (some ⟨b, 0, none⟩)] W fun e W' => e = .returned (.bool f) ∧ W = W' := hf ▸ done_any b c lv dv W h
theorem bad_is (b : Nat) (c : Ck) (n : Nat) (hn : c.bad = n) (lv dv : Value) (W : World) (h : Rd b W c lv dv) :
    Calls Tryd.prog 16 #[.pointer (some ⟨b, 0, none⟩)] W fun e W' => e = .returned (.int .i64 n) ∧ W = W' := hn ▸ bad_any b c lv dv W h
theorem G.lt {W : World} (h : G W) : 1 < W.heap.size := cell_lt h.max.choose_spec
/-- A reader that was made in this call. -/
theorem RdPost.made {b : Nat} {w W W' : World} {c' : Ck} {lv dv : Value} {c : Ck} (h : RdPost b lv dv W c' W') (hR : Rd b W c lv dv) (hb : w.heap.size ≤ b) (hg : Gr w W) : Gr w W' :=
  h.gr (fun k hk => Nat.le_trans hb (hR.fp_lt k hk).1) hg

def awakeL : List UInt8 := [53, 59, 97, 61, 98, 13, 10, 104, 101, 108, 108, 111, 13, 10, 48, 13, 10, 13, 10, 109, 111, 114, 101]
theorem awake_eq : (feedC ck0 awakeL).1 = 19 ∧ (feedC ck0 awakeL).2.data = [104, 101, 108, 108, 111] ∧ (feedC ck0 awakeL).2.st = 4 ∧ (feedC ck0 awakeL).2.bad = 0 := by decide +kernel
set_option maxHeartbeats 2000000 in
set_option maxRecDepth 20000 in
theorem awake_any (w : World) (hG : G w) : Calls Tryd.prog 10 #[] w fun e w' => e = .returned (.bool true) ∧ Gr w w' := by
  obtain ⟨e1, e2, e3, e4⟩ := awake_eq
  obtain ⟨⟨n, c'⟩, hx⟩ : ∃ x, feedC ck0 awakeL = x := ⟨_, rfl⟩
  rw [hx] at e1 e2 e3 e4
  dsimp only at e1 e2 e3 e4
  subst e1
  have hG' := Lib.hid hG
  have hx' := Lib.hid hx
  have e2' := Lib.hid e2
  have e3' := Lib.hid (show decide (c'.st = 4 ∧ c'.bad = 0) = true by simp [e3, e4])
  have e4' := Lib.hid e4
  clear hG hx e2 e3 e4
  go_enter Tryd.func10, Tryd.ntmps10
  go_wp2_with fail
  refine (new_any _).mono ?_
  rintro e w1 ⟨rfl, hR, hg⟩
  have hR1 := Lib.hid hR
  have g1 := Lib.hid hg
  clear hR hg
  go_wp2_with fail
  refine (cfeed_is w.heap.size ck0 c' awakeL 19 hx'.out _ _ w1 (hG'.out.gr g1.out) hG'.out.lt hR1.out ck0_ok (by decide)).mono ?_
  rintro e w2 ⟨rfl, hp⟩
  have g2 := Lib.hid (hp.made hR1.out (Nat.le_refl _) g1.out)
  obtain ⟨lv, dv, hR, _, _⟩ := hp
  have hR2 := Lib.hid hR
  clear hR
  go_wp2_with fail
  refine (data_is _ c' _ e2'.out _ _ w2 hR2.out).mono ?_
  rintro e w3 ⟨rfl, rfl⟩
  go_wp2_with fail
  refine (done_is _ c' _ e3'.out _ _ w2 hR2.out).mono ?_
  rintro e w3 ⟨rfl, rfl⟩
  go_wp2_with fail
  refine (bad_is _ c' _ e4'.out _ _ w2 hR2.out).mono ?_
  rintro e w3 ⟨rfl, rfl⟩
  go_wp2
  go_ret
  exact ⟨rfl, g2.out⟩
end Go.Proofs.YtnopfoagioodjaaDoor
