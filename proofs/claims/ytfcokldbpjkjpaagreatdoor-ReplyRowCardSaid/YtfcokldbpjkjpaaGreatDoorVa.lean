/-
  Replies: a code's reason, whether it has a body, a number in decimal digits.
-/
import Derived.Test.YtfcokldbpjkjpaaGreatDoorLc
import Derived.Test.YtfcokldbpjkjpaaGreatDoorOw
import Derived.Test.YtfcokldbpjkjpaaGreatDoorP30
import Derived.IntWalk
import Derived.Lib.ItoaLen
namespace Go.Proofs.YtfcokldbpjkjpaaGreatDoor
open Go.RowKit
attribute [local go_sem] Oper.semAt_some

theorem reason_ways (c : Int) : c = 101 ∨ c = 200 ∨ c = 400 ∨ c = 403 ∨ c = 404 ∨ c = 405 ∨ c = 413 ∨ c = 426 ∨ c = 431 ∨ (((c == 101) = false) ∧ ((c == 200) = false) ∧ ((c == 400) = false) ∧ ((c == 403) = false) ∧ ((c == 404) = false) ∧ ((c == 405) = false) ∧ ((c == 413) = false) ∧ ((c == 426) = false) ∧ ((c == 431) = false)) := by
  by_cases h : c = 101 ∨ c = 200 ∨ c = 400 ∨ c = 403 ∨ c = 404 ∨ c = 405 ∨ c = 413 ∨ c = 426 ∨ c = 431
  · omega
  · right; right; right; right; right; right; right; right; right
    simp only [beq_eq_false_iff_ne, ne_eq]
    omega
set_option maxHeartbeats 2000000 in
set_option maxRecDepth 20000 in
theorem reason_any (c : Int) (w : World) : Calls Tryz.prog 16 #[.int .i64 c] w fun e w' => e = .returned (.string ⟨(reasonL c).toArray⟩) ∧ w = w' := by
  rcases reason_ways c with rfl | rfl | rfl | rfl | rfl | rfl | rfl | rfl | rfl | ⟨h0, h1, h2, h3, h4, h5, h6, h7, h8⟩
  · go_enter Tryz.func16, Tryz.ntmps16
    go_wp2
    go_ret
    exact ⟨rfl, rfl⟩
  · go_enter Tryz.func16, Tryz.ntmps16
    go_wp2
    go_ret
    exact ⟨rfl, rfl⟩
  · go_enter Tryz.func16, Tryz.ntmps16
    go_wp2
    go_ret
    exact ⟨rfl, rfl⟩
  · go_enter Tryz.func16, Tryz.ntmps16
    go_wp2
    go_ret
    exact ⟨rfl, rfl⟩
  · go_enter Tryz.func16, Tryz.ntmps16
    go_wp2
    go_ret
    exact ⟨rfl, rfl⟩
  · go_enter Tryz.func16, Tryz.ntmps16
    go_wp2
    go_ret
    exact ⟨rfl, rfl⟩
  · go_enter Tryz.func16, Tryz.ntmps16
    go_wp2
    go_ret
    exact ⟨rfl, rfl⟩
  · go_enter Tryz.func16, Tryz.ntmps16
    go_wp2
    go_ret
    exact ⟨rfl, rfl⟩
  · go_enter Tryz.func16, Tryz.ntmps16
    go_wp2
    go_ret
    exact ⟨rfl, rfl⟩
  · have hr := Lib.hid (show reasonL c = [83, 116, 97, 116, 117, 115] by
      simp only [beq_eq_false_iff_ne, ne_eq] at h0 h1 h2 h3 h4 h5 h6 h7 h8
      unfold reasonL
      rw [if_neg h0, if_neg h1, if_neg h2, if_neg h3, if_neg h4, if_neg h5, if_neg h6, if_neg h7, if_neg h8])
    go_enter Tryz.func16, Tryz.ntmps16
    go_wp2
    go_ret
    exact ⟨by rw [hr.out]; rfl, rfl⟩
theorem bare_ways (c : Int) : (c < 200 ∧ bareB c = true) ∨ (¬ c < 200 ∧ c = 204 ∧ bareB c = true) ∨ (¬ c < 200 ∧ (c == 204) = false ∧ c = 304 ∧ bareB c = true) ∨ (¬ c < 200 ∧ (c == 204) = false ∧ (c == 304) = false ∧ bareB c = false) := by
  unfold bareB
  by_cases h1 : c < 200
  · left; simp [h1]
  · by_cases h2 : c = 204
    · right; left; simp [h2]
    · by_cases h3 : c = 304
      · right; right; left; simp [h3]
      · right; right; right; simp [h1, h2, h3]
set_option maxHeartbeats 1000000 in
set_option maxRecDepth 20000 in
theorem barec_any (c : Int) (w : World) : Calls Tryz.prog 25 #[.int .i64 c] w fun e w' => e = .returned (.bool (bareB c)) ∧ w = w' := by
  rcases bare_ways c with ⟨h1, hb⟩ | ⟨h1, rfl, hb⟩ | ⟨h1, h2, rfl, hb⟩ | ⟨h1, h2, h3, hb⟩
  all_goals
    rw [hb]
    clear hb
    go_enter Tryz.func25, Tryz.ntmps25
    go_wp2
    go_ret
    exact ⟨rfl, rfl⟩
set_option maxHeartbeats 1000000 in
set_option maxRecDepth 20000 in
theorem rbare10_any (c : Int) (w : World) : Calls Tryz.prog 28 #[.int .i64 c] w fun e w' => e = .returned (.bool (bareB c)) ∧ w = w' := by
  rcases bare_ways c with ⟨h1, hb⟩ | ⟨h1, rfl, hb⟩ | ⟨h1, h2, rfl, hb⟩ | ⟨h1, h2, h3, hb⟩
  all_goals
    rw [hb]
    clear hb
    go_enter Tryz.func28, Tryz.ntmps28
    go_wp2
    go_ret
    exact ⟨rfl, rfl⟩
def codesL : List Int := [101, 200, 400, 403, 404, 405, 413, 426, 431]
def namesL : List (List UInt8) := [[83, 119, 105, 116, 99, 104, 105, 110, 103, 32, 80, 114, 111, 116, 111, 99, 111, 108, 115], [79, 75], [66, 97, 100, 32, 82, 101, 113, 117, 101, 115, 116], [70, 111, 114, 98, 105, 100, 100, 101, 110], [78, 111, 116, 32, 70, 111, 117, 110, 100], [77, 101, 116, 104, 111, 100, 32, 78, 111, 116, 32, 65, 108, 108, 111, 119, 101, 100], [67, 111, 110, 116, 101, 110, 116, 32, 84, 111, 111, 32, 76, 97, 114, 103, 101], [85, 112, 103, 114, 97, 100, 101, 32, 82, 101, 113, 117, 105, 114, 101, 100], [82, 101, 113, 117, 101, 115, 116, 32, 72, 101, 97, 100, 101, 114, 32, 70, 105, 101, 108, 100, 115, 32, 84, 111, 111, 32, 76, 97, 114, 103, 101]]
theorem reason_at (c : Int) : ∀ k, k < 9 → (∀ j, j < k → codesL.getD j 0 ≠ c) → codesL.getD k 0 = c → reasonL c = namesL.getD k [] := by
  intro k hk _ h
  have : k = 0 ∨ k = 1 ∨ k = 2 ∨ k = 3 ∨ k = 4 ∨ k = 5 ∨ k = 6 ∨ k = 7 ∨ k = 8 := by omega
  rcases this with rfl | rfl | rfl | rfl | rfl | rfl | rfl | rfl | rfl <;> subst h <;> rfl
theorem reason_none (c : Int) (h : ∀ j, j < 9 → codesL.getD j 0 ≠ c) : reasonL c = [83, 116, 97, 116, 117, 115] := by
  have h0 : (101 : Int) ≠ c := h 0 (by decide)
  have h1 : (200 : Int) ≠ c := h 1 (by decide)
  have h2 : (400 : Int) ≠ c := h 2 (by decide)
  have h3 : (403 : Int) ≠ c := h 3 (by decide)
  have h4 : (404 : Int) ≠ c := h 4 (by decide)
  have h5 : (405 : Int) ≠ c := h 5 (by decide)
  have h6 : (413 : Int) ≠ c := h 6 (by decide)
  have h7 : (426 : Int) ≠ c := h 7 (by decide)
  have h8 : (431 : Int) ≠ c := h 8 (by decide)
  unfold reasonL
  rw [if_neg (Ne.symm h0), if_neg (Ne.symm h1), if_neg (Ne.symm h2), if_neg (Ne.symm h3), if_neg (Ne.symm h4), if_neg (Ne.symm h5), if_neg (Ne.symm h6), if_neg (Ne.symm h7), if_neg (Ne.symm h8)]
def rowI (l : List Int) : List Value := l.map fun c => Value.int .i64 c
def rowS (l : List (List UInt8)) : List Value := l.map fun s => Value.string ⟨s.toArray⟩
set_option maxHeartbeats 2000000 in
set_option maxRecDepth 20000 in
theorem rreason_any (c : Int) (w : World) : Calls Tryz.prog 17 #[.int .i64 c] w fun e w' => e = .returned (.string ⟨(reasonL c).toArray⟩) ∧ Gr w w' := by
  go_enter Tryz.func17, Tryz.ntmps17
  go_wp2
  have g0 : Gr w ((w.alloc (.cells (rowI codesL).toArray 3)).alloc (.cells (rowS namesL).toArray 9)) := (Gr.alloc _ _).alloc1 _
  have c1 : ∀ k, k < 9 → ((w.alloc (.cells (rowI codesL).toArray 3)).alloc (.cells (rowS namesL).toArray 9)).cell? ⟨w.heap.size, k, none⟩ = some (.int .i64 (codesL.getD k 0)) := fun k hk =>
    (Gr.alloc _ _).cell (cell_new7 w (rowI codesL) _ k _ (by
      have : k < codesL.length := hk
      simp [rowI, this]))
  have c2 : ∀ k, k < 9 → ((w.alloc (.cells (rowI codesL).toArray 3)).alloc (.cells (rowS namesL).toArray 9)).cell? ⟨w.heap.size + 1, k, none⟩ = some (.string ⟨(namesL.getD k []).toArray⟩) := fun k hk => by
    have := cell_new7 (w.alloc (.cells (rowI codesL).toArray 3)) (rowS namesL) 9 k (.string ⟨(namesL.getD k []).toArray⟩) (by
      have : k < namesL.length := hk
      simp [rowS, this])
    rw [World.size_alloc] at this
    exact this
  have e1 : (rowI codesL).toArray = #[.int .i64 101, .int .i64 200, .int .i64 400, .int .i64 403, .int .i64 404, .int .i64 405, .int .i64 413, .int .i64 426, .int .i64 431] := rfl
  have e2 : (rowS namesL).toArray = #[.string ⟨#[83, 119, 105, 116, 99, 104, 105, 110, 103, 32, 80, 114, 111, 116, 111, 99, 111, 108, 115]⟩, .string ⟨#[79, 75]⟩, .string ⟨#[66, 97, 100, 32, 82, 101, 113, 117, 101, 115, 116]⟩, .string ⟨#[70, 111, 114, 98, 105, 100, 100, 101, 110]⟩, .string ⟨#[78, 111, 116, 32, 70, 111, 117, 110, 100]⟩, .string ⟨#[77, 101, 116, 104, 111, 100, 32, 78, 111, 116, 32, 65, 108, 108, 111, 119, 101, 100]⟩, .string ⟨#[67, 111, 110, 116, 101, 110, 116, 32, 84, 111, 111, 32, 76, 97, 114, 103, 101]⟩, .string ⟨#[85, 112, 103, 114, 97, 100, 101, 32, 82, 101, 113, 117, 105, 114, 101, 100]⟩, .string ⟨#[82, 101, 113, 117, 101, 115, 116, 32, 72, 101, 97, 100, 101, 114, 32, 70, 105, 101, 108, 100, 115, 32, 84, 111, 111, 32, 76, 97, 114, 103, 101]⟩] := rfl
  rw [e1, e2] at g0 c1 c2
  generalize ((w.alloc (.cells #[.int .i64 101, .int .i64 200, .int .i64 400, .int .i64 403, .int .i64 404, .int .i64 405, .int .i64 413, .int .i64 426, .int .i64 431] 3)).alloc (.cells #[.string ⟨#[83, 119, 105, 116, 99, 104, 105, 110, 103, 32, 80, 114, 111, 116, 111, 99, 111, 108, 115]⟩, .string ⟨#[79, 75]⟩, .string ⟨#[66, 97, 100, 32, 82, 101, 113, 117, 101, 115, 116]⟩, .string ⟨#[70, 111, 114, 98, 105, 100, 100, 101, 110]⟩, .string ⟨#[78, 111, 116, 32, 70, 111, 117, 110, 100]⟩, .string ⟨#[77, 101, 116, 104, 111, 100, 32, 78, 111, 116, 32, 65, 108, 108, 111, 119, 101, 100]⟩, .string ⟨#[67, 111, 110, 116, 101, 110, 116, 32, 84, 111, 111, 32, 76, 97, 114, 103, 101]⟩, .string ⟨#[85, 112, 103, 114, 97, 100, 101, 32, 82, 101, 113, 117, 105, 114, 101, 100]⟩, .string ⟨#[82, 101, 113, 117, 101, 115, 116, 32, 72, 101, 97, 100, 101, 114, 32, 70, 105, 101, 108, 100, 115, 32, 84, 111, 111, 32, 76, 97, 114, 103, 101]⟩] 9)) = w1 at g0 c1 c2 ⊢
  have g0' := Lib.hid g0
  have c1' := Lib.hid c1
  have c2' := Lib.hid c2
  clear g0 c1 c2 e1 e2
  go_loopw [5] (fun i W => ∃ k : Nat, k ≤ 9 ∧ i = .int .i64 k ∧ (∀ j, j < k → codesL.getD j 0 ≠ c) ∧ W = w1) (fun i _ => 9 - (intOf i).toNat)
  case atStart => exact ⟨0, by omega, rfl, fun j h => absurd h (Nat.not_lt_zero _), by first | trivial | rfl⟩
  case round =>
    obtain ⟨k, hk, rfl, hno, rfl⟩ := hrel
    have hno' := Lib.hid hno
    clear hno
    by_cases hlt : k < 9
    · have hI : (k : Int) < 9 := by omega
      have d1 := c1'.out k hlt
      have d2 := c2'.out k hlt
      by_cases he : codesL.getD k 0 = c
      · have hr := Lib.hid (reason_at c k hlt hno'.out he)
        rw [he] at d1
        clear he
        go_wp2
        go_ret
        exact ⟨by rw [hr.out]; rfl, g0'.out⟩
      · have hnx := Lib.hid (show ∀ j, j < k + 1 → codesL.getD j 0 ≠ c from fun j hj => by
          by_cases e : j = k
          · subst e; exact he
          · exact hno'.out j (by omega))
        obtain ⟨z, hz⟩ : ∃ z, codesL.getD k 0 = z := ⟨_, rfl⟩
        rw [hz] at d1 he
        have hb : (z == c) = false := beq_eq_false_iff_ne.2 he
        clear hz he d2
        go_wp2
        go_roundw
        case rel => exact ⟨k + 1, by omega, by go_num, hnx.out, by first | trivial | rfl⟩
        case measure => simp [intOf]; omega
    · obtain rfl : k = 9 := by omega
      have hr := Lib.hid (reason_none c hno'.out)
      go_wp2
      go_ret
      exact ⟨by rw [hr.out]; rfl, g0'.out⟩
theorem dig_at (n : Nat) (_h : n < 10) : ((48 + (n : Int)) % 256) = ((UInt8.ofNat (48 + n)).toNat : Int) := by
  rw [UInt8.toNat_ofNat']; omega
theorem digits_step {n : Nat} (h : ¬ n < 10) : Lib.itoa (n : Int) = Lib.itoa ((n / 10 : Nat) : Int) ++ Lib.itoa ((n % 10 : Nat) : Int) := by
  unfold Lib.itoa
  rw [if_neg (by omega), if_neg (by omega), if_neg (by omega), Int.toNat_natCast, Int.toNat_natCast, Int.toNat_natCast]
  rw [Lib.decDigits, dif_neg h]
  congr 1
  rw [Lib.decDigits, dif_pos (Nat.mod_lt _ (by decide))]
theorem digits_one {n : Nat} (h : n < 10) : Lib.itoa (n : Int) = [UInt8.ofNat (48 + n)] := by
  unfold Lib.itoa
  rw [if_neg (by omega), Int.toNat_natCast, Lib.decDigits, dif_pos h]
set_option maxHeartbeats 2000000 in
set_option maxRecDepth 20000 in
theorem number_small (n : Nat) (h : n < 10) (w : World) : Calls Tryz.prog 27 #[.int .i64 n] w fun e w' => e = .returned (.string ⟨(Lib.itoa (n : Int)).toArray⟩) ∧ Gr w w' := by
  rw [digits_one h]
  have hd := dig_at n h
  have hI : (n : Int) < 10 := by omega
  have hw := IntWalk.i64_in (48 + (n : Int)) (by omega)
  obtain ⟨d, hdd⟩ : ∃ d, UInt8.ofNat (48 + n) = d := ⟨_, rfl⟩
  rw [hdd] at hd ⊢
  have hu : IntKind.u8.wrap (48 + (n : Int)) = d.toNat := by rw [Go.IntKind.wrap_u8]; exact hd
  have hcv : (convert 51 9 (.slice (some ⟨w.heap.size, 0, none⟩) 1 1)).run Tryz.prog (w.alloc (.cells #[.int .u8 d.toNat] 5)) = .ok (.string ⟨#[d]⟩) (w.alloc (.cells #[.int .u8 d.toNat] 5)) := by
    have := run_convert_bytes_back (P := Tryz.prog) (w.alloc (.cells #[.int .u8 d.toNat] 5)) 51 9 5 ⟨w.heap.size, 0, none⟩ 1 [d] Tryz.underlying51 Tryz.underlying5 Tryz.underlying9 (fun j hj => by
      simp at hj
      subst hj
      exact cells_new w [.int .u8 d.toNat] _ 0 _ rfl)
    exact this
  clear hdd h
  go_enter Tryz.func27, Tryz.ntmps27
  go_wp2
  go_ret
  exact ⟨rfl, Gr.alloc _ _⟩
set_option maxHeartbeats 2000000 in
set_option maxRecDepth 20000 in
theorem number_any : ∀ (k n : Nat) (w : World), n ≤ k → n ≤ 1000000 → Calls Tryz.prog 27 #[.int .i64 n] w fun e w' => e = .returned (.string ⟨(Lib.itoa (n : Int)).toArray⟩) ∧ Gr w w' := by
  intro k
  induction k with
  | zero => intro n w h _; exact number_small n (by omega) w
  | succ k ih =>
    intro n w hk hb
    by_cases h : n < 10
    · exact number_small n h w
    · have hI : ¬ (n : Int) < 10 := by omega
      have c1 := Lib.hid (fun W => ih (n / 10) W (by omega) (by omega))
      have c2 := Lib.hid (fun W => number_small (n % 10) (Nat.mod_lt _ (by decide)) W)
      rw [digits_step h]
      have q1 : (n : Int).tdiv 10 = ((n / 10 : Nat) : Int) := rfl
      have q2 : (n : Int).tmod 10 = ((n % 10 : Nat) : Int) := rfl
      obtain ⟨a, ha⟩ : ∃ a, n / 10 = a := ⟨_, rfl⟩
      obtain ⟨b, hb2⟩ : ∃ b, n % 10 = b := ⟨_, rfl⟩
      rw [ha] at q1 c1 ⊢
      rw [hb2] at q2 c2 ⊢
      obtain ⟨la, hla⟩ : ∃ l, Lib.itoa (a : Int) = l := ⟨_, rfl⟩
      obtain ⟨lb, hlb⟩ : ∃ l, Lib.itoa (b : Int) = l := ⟨_, rfl⟩
      have hl1 : la.length ≤ 21 := by rw [← hla]; exact Lib.itoa_length_le _ (by omega) (by omega)
      have hl2 : lb.length ≤ 21 := by rw [← hlb]; exact Lib.itoa_length_le _ (by omega) (by omega)
      rw [hla] at c1 ⊢
      rw [hlb] at c2 ⊢
      have hcat : (⟨la.toArray⟩ : ByteArray) ++ ⟨lb.toArray⟩ = ⟨(la ++ lb).toArray⟩ := cat_mk la lb
      have hz : ¬ 9223372036854775807 < la.length + lb.length := by omega
      have haI : (a : Int) < 1000000 := by omega
      have hbI : (b : Int) < 10 := by omega
      clear ha hb2 hla hlb h ih hk hb
      go_enter Tryz.func27, Tryz.ntmps27
      go_wp2_with fail
      refine (c1.out _).mono ?_
      rintro e w1 ⟨rfl, g1⟩
      have g1' := Lib.hid g1
      clear g1
      go_wp2_with fail
      refine (c2.out _).mono ?_
      rintro e w2 ⟨rfl, g2⟩
      have g2' := Lib.hid (g1'.out.trans g2)
      clear g2
      go_wp2
      go_ret
      exact ⟨rfl, g2'.out⟩
end Go.Proofs.YtfcokldbpjkjpaaGreatDoor
