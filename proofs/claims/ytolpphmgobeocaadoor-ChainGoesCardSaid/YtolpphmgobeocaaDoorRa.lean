/-
  Walks over the chain's reference: texts in small letters, tokens, values, names.
-/
import Derived.Test.YtolpphmgobeocaaDoorC
import Derived.Test.YtolpphmgobeocaaDoorP5
import Derived.Lib.ConvBytes
import Derived.Lib.AtoiErrMem
namespace Go.Proofs.YtolpphmgobeocaaDoor
open Go.RowKit

/-- The bytes of a, the first k in small letters. -/
def lowTo (a : List UInt8) (k : Nat) : List UInt8 := (a.take k).map lower ++ a.drop k
theorem lowTo_length (a : List UInt8) (k : Nat) : (lowTo a k).length = a.length := by simp [lowTo]; omega
theorem lowTo_get (a : List UInt8) (k j : Nat) (hj : j < a.length) : (lowTo a k)[j]'(by rw [lowTo_length]; exact hj) = if j < k then lower a[j] else a[j] := by
  unfold lowTo
  by_cases h : j < k
  · rw [List.getElem_append_left (by simp; omega)]; simp [h]
  · rw [List.getElem_append_right (by simp; omega)]
    simp only [h, if_false]
    simp [show k ≤ a.length by omega, show k + (j - k) = j by omega]

set_option maxHeartbeats 2000000 in
theorem rlow_any (a : List UInt8) (w : World) (ha : a.length ≤ 1000000) :
    Calls Tryd.prog 48 #[.string ⟨a.toArray⟩] w fun e w' => e = .returned (.string ⟨(a.map lower).toArray⟩) ∧ Gr w w' := by
  obtain ⟨g, hgd⟩ : ∃ g, a.map lower = g := ⟨_, rfl⟩
  have hgd' := Lib.hid hgd
  rw [hgd]
  clear hgd
  have hcv : ∀ W : World, (convert 9 92 (.string ⟨a.toArray⟩)).run Tryd.prog W = .ok (.slice (some ⟨W.heap.size, 0, none⟩) (ByteArray.size ⟨a.toArray⟩) (grownCap W (ByteArray.size ⟨a.toArray⟩) 0 5)) (Lib.bytesWorld W 5 ⟨a.toArray⟩) := fun W =>
    Lib.run_convert_string_bytes W _ _ 5 _ Tryd.underlying9 Tryd.underlying92 Tryd.underlying5
  go_enter Tryd.func48, Tryd.ntmps48
  go_wp2_with fail
  obtain ⟨cap, hcap⟩ : ∃ cap, grownCap w a.length 0 5 = cap := ⟨_, rfl⟩
  have hcells : ∀ j, (hj : j < a.length) → (Lib.bytesWorld w 5 ⟨a.toArray⟩).cell? ⟨w.heap.size, j, none⟩ = some (.int .u8 ((lowTo a 0)[j]'(by rw [lowTo_length]; exact hj)).toNat) := fun j hj => by
    rw [Lib.bytesWorld_cell _ _ _ _ (by rw [size_mk]; exact hj), lowTo_get _ _ _ hj]
    simp [List.getD, hj]
  have hfrz : ∀ j, (hj : j < a.length) → (Lib.bytesWorld w 5 ⟨a.toArray⟩).frozen? ⟨w.heap.size, j, none⟩ = false := fun j hj => by
    have : (Lib.bytesCells w 5 ⟨a.toArray⟩).size ≥ a.length := by simp [Lib.bytesCells]
    simp only [World.frozen?, Lib.bytesWorld_at_new]
    simp; omega
  have hgb : Gr w (Lib.bytesWorld w 5 ⟨a.toArray⟩) := Lib.bytesWorld_below _ _ _
  obtain ⟨W0, hW0⟩ : ∃ W0, Lib.bytesWorld w 5 ⟨a.toArray⟩ = W0 := ⟨_, rfl⟩
  rw [hW0] at hcells hfrz hgb ⊢
  rw [hcap]
  clear hcv hW0 hcap
  go_loopw [4] (fun i wr => ∃ k : Nat, k ≤ a.length ∧ i = .int .i64 k ∧ (∀ j, (hj : j < a.length) → wr.cell? ⟨w.heap.size, j, none⟩ = some (.int .u8 ((lowTo a k)[j]'(by rw [lowTo_length]; exact hj)).toNat)) ∧ (∀ j, (hj : j < a.length) → wr.frozen? ⟨w.heap.size, j, none⟩ = false) ∧ Gr w wr) (fun i _ => a.length - (intOf i).toNat)
  case atStart => exact ⟨0, Nat.zero_le _, rfl, hcells, hfrz, hgb⟩
  case round =>
    obtain ⟨k, hk, rfl, hcl, hfz, hg⟩ := hrel
    have hcl' := Lib.hid hcl
    have hfz' := Lib.hid hfz
    by_cases hkl : k < a.length
    · have h1 := hcl k hkl
      rw [lowTo_get _ _ _ hkl, if_neg (Nat.lt_irrefl _)] at h1
      have h2 := hfz k hkl
      obtain ⟨x, hx⟩ : ∃ x, a[k] = x := ⟨_, rfl⟩
      rw [hx] at h1
      clear hcl hfz
      have hux := lower_toNat x
      have hs1 : ∀ (y : UInt8), y = lower x → ∀ j, (hj : j < a.length) → (wr.setCell ⟨w.heap.size, k, none⟩ (.int .u8 y.toNat)).cell? ⟨w.heap.size, j, none⟩ = some (.int .u8 ((lowTo a (k + 1))[j]'(by rw [lowTo_length]; exact hj)).toNat) := fun y hy j hj => by
        by_cases hjk : j = k
        · subst hjk
          rw [cell_set_same h1, lowTo_get _ _ _ hj, if_pos (by omega), hx, hy]
        · rw [World.cell?_setCell_other _ _ _ _ (by intro e; cases e; exact hjk rfl), hcl'.out j hj, lowTo_get _ _ _ hj, lowTo_get _ _ _ hj]
          by_cases h : j < k
          · rw [if_pos h, if_pos (by omega)]
          · rw [if_neg h, if_neg (by omega)]
      have hs2 : lower x = x → ∀ j, (hj : j < a.length) → wr.cell? ⟨w.heap.size, j, none⟩ = some (.int .u8 ((lowTo a (k + 1))[j]'(by rw [lowTo_length]; exact hj)).toNat) := fun hy j hj => by
        rw [hcl'.out j hj, lowTo_get _ _ _ hj, lowTo_get _ _ _ hj]
        by_cases h : j < k
        · rw [if_pos h, if_pos (by omega)]
        · by_cases hjk : j = k
          · subst hjk; rw [if_neg h, if_pos (by omega), hx, hy]
          · rw [if_neg h, if_neg (by omega)]
      have hpl : w.heap.size ≤ w.heap.size := Nat.le_refl _
      have hx8 : (x.toNat : Int) ≤ 255 := by have := x.toNat_lt; omega
      by_cases h97 : 65 ≤ (x.toNat : Int)
      · by_cases h122 : (x.toNat : Int) ≤ 90
        · rw [if_pos ⟨h97, h122⟩] at hux
          have hux' := Lib.hid hux
          clear hux
          go_wp2
          go_roundw
          case rel =>
            refine ⟨k + 1, by omega, by go_num, ?_, fun j hj => by rw [frozen_set]; exact hfz'.out j hj, hg.setCell hpl _⟩
            have e : ((x.toNat : Int) + 32) = ((lower x).toNat : Int) := hux'.out.symm
            first
              | (have := hs1 (lower x) rfl; rw [← e] at this; exact this)
              | (intro j hj; have := hs1 (lower x) rfl j hj; rw [← e] at this; simpa using this)
          case measure => simp [intOf]; omega
        · rw [if_neg (fun h => h122 h.2)] at hux
          have e : lower x = x := UInt8.toNat_inj.1 (by omega)
          have hs3 := hs2 e
          clear hux e hs1 hs2
          go_wp2
          go_roundw
          case rel => exact ⟨k + 1, by omega, by go_num, hs3, hfz'.out, hg⟩
          case measure => simp [intOf]; omega
      · rw [if_neg (fun h => h97 h.1)] at hux
        have e : lower x = x := UInt8.toNat_inj.1 (by omega)
        have hs3 := hs2 e
        clear hux e hs1 hs2
        go_wp2
        go_roundw
        case rel => exact ⟨k + 1, by omega, by go_num, hs3, hfz'.out, hg⟩
        case measure => simp [intOf]; omega
    · obtain rfl : k = a.length := by omega
      have hgl : g.length = a.length := by rw [← hgd'.out]; simp
      have hup : lowTo a a.length = g := by rw [← hgd'.out]; simp [lowTo]
      have hcv : (convert 92 9 (.slice (some ⟨w.heap.size, 0, none⟩) g.length cap)).run Tryd.prog wr = .ok (.string ⟨g.toArray⟩) wr :=
        run_convert_bytes_back _ _ _ 5 ⟨w.heap.size, 0, none⟩ cap g Tryd.underlying92 Tryd.underlying5 Tryd.underlying9 (fun j hj => by
          have := hcl'.out j (by omega)
          simp only [hup] at this
          have e : (Addr.add ⟨w.heap.size, 0, none⟩ j) = ⟨w.heap.size, j, none⟩ := by
            by_cases h0 : j = 0 <;> simp [Addr.add, h0]
          rw [e]; simpa using this)
      rw [hgl] at hcv
      clear hcl hfz hup hgl
      go_wp2
      go_ret
      exact ⟨rfl, hg⟩

theorem tok_cases (c : UInt8) : (isTok c = true ∧ ((97 ≤ c ∧ c ≤ 122) ∨ (65 ≤ c ∧ c ≤ 90) ∨ (48 ≤ c ∧ c ≤ 57) ∨ c = 33 ∨ c = 35 ∨ c = 36 ∨ c = 37 ∨ c = 38 ∨ c = 39 ∨ c = 42 ∨ c = 43 ∨ c = 45 ∨ c = 46 ∨ c = 94 ∨ c = 95 ∨ c = 96 ∨ c = 124 ∨ c = 126)) ∨
    (isTok c = false ∧ isLetter c = false ∧ (∀ d ∈ marksL, c ≠ d)) := by
  cases h : isTok c
  · unfold isTok at h
    rw [Bool.or_eq_false_iff] at h
    refine .inr ⟨rfl, h.1, fun d hd e => ?_⟩
    subst e
    rw [List.contains_iff_mem.2 hd] at h
    exact Bool.noConfusion h.2
  · refine .inl ⟨rfl, ?_⟩
    unfold isTok isLetter at h
    simp [marksL] at h
    rcases h with h | h
    · rcases h with (h | h) | h
      · exact .inl h
      · exact .inr (.inl h)
      · exact .inr (.inr (.inl h))
    · exact .inr (.inr (.inr h))
theorem not_letter {c : UInt8} (h : isLetter c = false) : ¬ (97 ≤ (c.toNat : Int) ∧ (c.toNat : Int) ≤ 122) ∧ ¬ (65 ≤ (c.toNat : Int) ∧ (c.toNat : Int) ≤ 90) ∧ ¬ (48 ≤ (c.toNat : Int) ∧ (c.toNat : Int) ≤ 57) := by
  rw [letter_eq] at h
  simp at h
  omega
theorem beq_no {c d : UInt8} (h : c ≠ d) : ((c.toNat : Int) == (d.toNat : Int)) = false := beq_eq_false_iff_ne.2 fun e => h (UInt8.toNat_inj.1 (by omega))

set_option maxHeartbeats 8000000 in
theorem rtok13_any (l : List UInt8) (w : World) (hl : l.length ≤ 9223372036854775807) :
    Calls Tryd.prog 27 #[.string ⟨l.toArray⟩] w fun e w' => e = .returned (.bool (tokB l)) ∧ w = w' := by
  go_enter Tryd.func27, Tryd.ntmps27
  go_wp2
  go_loop [3] (fun i => ∃ k : Nat, k ≤ l.length ∧ i = .int .i64 k ∧ (l.take k).all isTok = true) (fun i => l.length - (intOf i).toNat)
  case atStart => exact ⟨0, Nat.zero_le _, rfl, rfl⟩
  case round =>
    obtain ⟨k, hk, rfl, hall⟩ := hrel
    have hall' := Lib.hid hall
    clear hall
    by_cases hlt : k < l.length
    · obtain ⟨c, hc⟩ : ∃ c, (⟨l.toArray⟩ : ByteArray)[k]'(by rw [size_mk]; exact hlt) = c := ⟨_, rfl⟩
      have hc' := Lib.hid (show l[k] = c from hc)
      rcases tok_cases c with ⟨ht, hcs⟩ | ⟨ht, hnl, hnm⟩
      · have hnext := Lib.hid (all_take_succ hall'.out hlt (by rw [hc'.out]; exact ht))
        clear ht
        rcases hcs with h | h | h | h | h | h | h | h | h | h | h | h | h | h | h | h | h | h
        · have h1 : (97 : Int) ≤ c.toNat := by have := UInt8.le_iff_toNat_le.1 h.1; have e : (97 : UInt8).toNat = 97 := rfl; omega
          have h2 : (c.toNat : Int) ≤ 122 := by have := UInt8.le_iff_toNat_le.1 h.2; have e : (122 : UInt8).toNat = 122 := rfl; omega
          clear h
          go_wp2
          go_round
          case rel => exact ⟨k + 1, by omega, by go_num, hnext.out⟩
          case measure => simp [intOf]; omega
        · have h1 : (65 : Int) ≤ c.toNat := by have := UInt8.le_iff_toNat_le.1 h.1; have e : (65 : UInt8).toNat = 65 := rfl; omega
          have h2 : (c.toNat : Int) ≤ 90 := by have := UInt8.le_iff_toNat_le.1 h.2; have e : (90 : UInt8).toNat = 90 := rfl; omega
          have h3 : ¬ (97 : Int) ≤ c.toNat := by omega
          clear h
          go_wp2
          go_round
          case rel => exact ⟨k + 1, by omega, by go_num, hnext.out⟩
          case measure => simp [intOf]; omega
        · have h1 : (48 : Int) ≤ c.toNat := by have := UInt8.le_iff_toNat_le.1 h.1; have e : (48 : UInt8).toNat = 48 := rfl; omega
          have h2 : (c.toNat : Int) ≤ 57 := by have := UInt8.le_iff_toNat_le.1 h.2; have e : (57 : UInt8).toNat = 57 := rfl; omega
          have h3 : ¬ (97 : Int) ≤ c.toNat := by omega
          have h4 : ¬ (65 : Int) ≤ c.toNat := by omega
          clear h
          go_wp2
          go_round
          case rel => exact ⟨k + 1, by omega, by go_num, hnext.out⟩
          case measure => simp [intOf]; omega
        all_goals
          subst h
          go_wp2
          go_round
          case rel => exact ⟨k + 1, by omega, by go_num, hnext.out⟩
          case measure => simp [intOf]; omega
      · have hbad := Lib.hid (show tokB l = false by unfold tokB; rw [all_false hlt (by rw [hc'.out]; exact ht)]; simp)
        obtain ⟨n1, n2, n3⟩ := not_letter hnl
        have m0 := beq_no (hnm 33 (by decide))
        have m1 := beq_no (hnm 35 (by decide))
        have m2 := beq_no (hnm 36 (by decide))
        have m3 := beq_no (hnm 37 (by decide))
        have m4 := beq_no (hnm 38 (by decide))
        have m5 := beq_no (hnm 39 (by decide))
        have m6 := beq_no (hnm 42 (by decide))
        have m7 := beq_no (hnm 43 (by decide))
        have m8 := beq_no (hnm 45 (by decide))
        have m9 := beq_no (hnm 46 (by decide))
        have ma := beq_no (hnm 94 (by decide))
        have mb := beq_no (hnm 95 (by decide))
        have mc := beq_no (hnm 96 (by decide))
        have md := beq_no (hnm 124 (by decide))
        have me := beq_no (hnm 126 (by decide))
        have u : ∀ d : UInt8, ((d.toNat : Nat) : Int) = ((d.toNat : Nat) : Int) := fun _ => rfl
        clear ht hnl hnm u
        simp only [show ((33 : UInt8).toNat : Int) = 33 from rfl, show ((35 : UInt8).toNat : Int) = 35 from rfl, show ((36 : UInt8).toNat : Int) = 36 from rfl, show ((37 : UInt8).toNat : Int) = 37 from rfl, show ((38 : UInt8).toNat : Int) = 38 from rfl, show ((39 : UInt8).toNat : Int) = 39 from rfl, show ((42 : UInt8).toNat : Int) = 42 from rfl, show ((43 : UInt8).toNat : Int) = 43 from rfl, show ((45 : UInt8).toNat : Int) = 45 from rfl, show ((46 : UInt8).toNat : Int) = 46 from rfl, show ((94 : UInt8).toNat : Int) = 94 from rfl, show ((95 : UInt8).toNat : Int) = 95 from rfl, show ((96 : UInt8).toNat : Int) = 96 from rfl, show ((124 : UInt8).toNat : Int) = 124 from rfl, show ((126 : UInt8).toNat : Int) = 126 from rfl] at m0 m1 m2 m3 m4 m5 m6 m7 m8 m9 ma mb mc md me
        go_wp2
        all_goals first
          | (exfalso; omega)
          | (go_ret; exact ⟨ret_bool hbad.out.symm, rfl⟩)
    · go_wp2
      go_ret
      refine ⟨ret_bool ?_, rfl⟩
      have h := hall'.out
      rw [List.take_of_length_le (by omega)] at h
      unfold tokB; rw [h]
      cases l <;> simp
end Go.Proofs.YtolpphmgobeocaaDoor
