/-
  The walks over awake, LineReads.
-/
import Derived.Test.YthcbfholifagjaaDoorLe
import Derived.Test.YthcbfholifagjaaDoorLf
namespace Go.Proofs.YthcbfholifagjaaDoor
open Go.RowKit

theorem line_is (l m t : List UInt8) (v : Nat) (b : Bool) (h : lineB l = (m, t, v, b)) (w : World) (hG : G w) (hl : l.length ≤ 1000000) :
    Calls Tryd.prog 10 #[.string ⟨l.toArray⟩] w fun e w' => e = .returned (.tuple #[.string ⟨m.toArray⟩, .string ⟨t.toArray⟩, .int .i64 v, .bool b]) ∧ Gr w w' := by
  have := line_any l w hG hl; rw [h] at this; exact this
theorem rline_is (l m t : List UInt8) (v : Nat) (b : Bool) (h : lineB l = (m, t, v, b)) (w : World) (hl : l.length ≤ 1000000) :
    Calls Tryd.prog 11 #[.string ⟨l.toArray⟩] w fun e w' => e = .returned (.tuple #[.string ⟨m.toArray⟩, .string ⟨t.toArray⟩, .int .i64 v, .bool b]) ∧ Gr w w' := by
  have := rline_any l w hl; rw [h] at this; exact this
theorem target_is (l p q : List UInt8) (b : Bool) (h : targetB l = (p, q, b)) (w : World) (hG : G w) (hl : l.length ≤ 1000000) :
    Calls Tryd.prog 12 #[.string ⟨l.toArray⟩] w fun e w' => e = .returned (.tuple #[.string ⟨p.toArray⟩, .string ⟨q.toArray⟩, .bool b]) ∧ Gr w w' := by
  have := target_any l w hG hl; rw [h] at this; exact this
theorem rtarget_is (l p q : List UInt8) (b : Bool) (h : targetB l = (p, q, b)) (w : World) (hl : l.length ≤ 1000000) :
    Calls Tryd.prog 13 #[.string ⟨l.toArray⟩] w fun e w' => e = .returned (.tuple #[.string ⟨p.toArray⟩, .string ⟨q.toArray⟩, .bool b]) ∧ Gr w w' := by
  have := rtarget_any l w hl; rw [h] at this; exact this
theorem status_is (l r : List UInt8) (n : Nat) (b : Bool) (h : statB l = (n, r, b)) (w : World) (hG : G w) (hl : l.length ≤ 900000) :
    Calls Tryd.prog 14 #[.string ⟨l.toArray⟩] w fun e w' => e = .returned (.tuple #[.int .i64 n, .string ⟨r.toArray⟩, .bool b]) ∧ Gr w w' := by
  have := status_any l w hG hl; rw [h] at this; exact this
theorem rstatus_is (l r : List UInt8) (n : Nat) (b : Bool) (h : statB l = (n, r, b)) (w : World) (hl : l.length ≤ 900000) :
    Calls Tryd.prog 15 #[.string ⟨l.toArray⟩] w fun e w' => e = .returned (.tuple #[.int .i64 n, .string ⟨r.toArray⟩, .bool b]) ∧ Gr w w' := by
  have := rstatus_any l w hl; rw [h] at this; exact this

set_option maxHeartbeats 1000000 in
set_option maxRecDepth 100000 in
theorem awake_any (w : World) (hG : G w) : Calls Tryd.prog 9 #[] w fun e w' => e = .returned (.bool true) ∧ Gr w w' := by
  have hG' := Lib.hid hG
  have h1 := Lib.hid (fun W h => line_is [71, 69, 84, 32, 47, 97, 63, 98, 32, 72, 84, 84, 80, 47, 49, 46, 49] [71, 69, 84] [47, 97, 63, 98] 11 true (by decide +kernel) W h (by decide))
  have h2 := Lib.hid (fun W h => target_is [47, 97, 37, 50, 48, 98, 63, 120, 61, 49, 63, 121] [47, 97, 37, 50, 48, 98] [120, 61, 49, 63, 121] true (by decide +kernel) W h (by decide))
  have h3 := Lib.hid (fun W h => status_is [72, 84, 84, 80, 47, 49, 46, 49, 32, 52, 48, 52, 32, 78, 111, 116, 32, 70, 111, 117, 110, 100] [78, 111, 116, 32, 70, 111, 117, 110, 100] 404 true (by decide +kernel) W h (by decide))
  clear hG
  go_enter Tryd.func9, Tryd.ntmps9
  go_wp2_with fail
  refine (h1.out _ hG'.out).mono ?_
  rintro e w1 ⟨rfl, hb⟩
  have g1 := Lib.hid hb
  clear hb
  go_wp2_with fail
  refine (h2.out _ (hG'.out.gr g1.out)).mono ?_
  rintro e w2 ⟨rfl, hb⟩
  have g2 := Lib.hid (g1.out.trans hb)
  clear hb
  go_wp2_with fail
  refine (h3.out _ (hG'.out.gr g2.out)).mono ?_
  rintro e w3 ⟨rfl, hb⟩
  have g3 := Lib.hid (g2.out.trans hb)
  clear hb
  go_wp2
  go_ret
  exact ⟨rfl, g3.out⟩

set_option maxHeartbeats 1000000 in
set_option maxRecDepth 100000 in
theorem reads_any (s : List UInt8) (w : World) (hG : G w) (hs : s.length ≤ 9223372036854775807) :
    Calls Tryd.prog 3 #[.string ⟨s.toArray⟩] w fun e w' => e = .returned (.bool true) ∧ Gr w w' := by
  have hG' := Lib.hid hG
  clear hG
  by_cases hl : s.length ≤ 3000
  · obtain ⟨⟨m, t, v, b⟩, h1⟩ : ∃ r, lineB s = r := ⟨_, rfl⟩
    obtain ⟨⟨p, q, b2⟩, h2⟩ : ∃ r, targetB s = r := ⟨_, rfl⟩
    obtain ⟨⟨n, r, b3⟩, h3⟩ : ∃ r, statB s = r := ⟨_, rfl⟩
    have c1 := Lib.hid (fun W h => line_is s m t v b h1 W h (by omega))
    have c2 := Lib.hid (fun W => rline_is s m t v b h1 W (by omega))
    have c3 := Lib.hid (fun W h => target_is s p q b2 h2 W h (by omega))
    have c4 := Lib.hid (fun W => rtarget_is s p q b2 h2 W (by omega))
    have c5 := Lib.hid (fun W h => status_is s r n b3 h3 W h (by omega))
    have c6 := Lib.hid (fun W => rstatus_is s r n b3 h3 W (by omega))
    clear h1 h2 h3
    go_enter Tryd.func3, Tryd.ntmps3
    go_wp2_with fail
    refine (awake_any _ hG'.out).mono ?_
    rintro e w1 ⟨rfl, hb⟩
    have g1 := Lib.hid hb
    clear hb
    go_wp2_with fail
    refine (c1.out _ (hG'.out.gr g1.out)).mono ?_
    rintro e w2 ⟨rfl, hb⟩
    have g2 := Lib.hid (g1.out.trans hb)
    clear hb
    go_wp2_with fail
    refine (c2.out _).mono ?_
    rintro e w3 ⟨rfl, hb⟩
    have g3 := Lib.hid (g2.out.trans hb)
    clear hb
    go_wp2_with fail
    refine (c3.out _ (hG'.out.gr g3.out)).mono ?_
    rintro e w4 ⟨rfl, hb⟩
    have g4 := Lib.hid (g3.out.trans hb)
    clear hb
    go_wp2_with fail
    refine (c4.out _).mono ?_
    rintro e w5 ⟨rfl, hb⟩
    have g5 := Lib.hid (g4.out.trans hb)
    clear hb
    go_wp2_with fail
    refine (c5.out _ (hG'.out.gr g5.out)).mono ?_
    rintro e w6 ⟨rfl, hb⟩
    have g6 := Lib.hid (g5.out.trans hb)
    clear hb
    go_wp2_with fail
    refine (c6.out _).mono ?_
    rintro e w7 ⟨rfl, hb⟩
    have g7 := Lib.hid (g6.out.trans hb)
    clear hb
    go_wp2
    go_ret
    exact ⟨rfl, g7.out⟩
  · go_enter Tryd.func3, Tryd.ntmps3
    go_wp2_with fail
    refine (awake_any _ hG'.out).mono ?_
    rintro e w1 ⟨rfl, hb⟩
    have g1 := Lib.hid hb
    clear hb
    go_wp2
    go_ret
    exact ⟨rfl, g1.out⟩
end Go.Proofs.YthcbfholifagjaaDoor
