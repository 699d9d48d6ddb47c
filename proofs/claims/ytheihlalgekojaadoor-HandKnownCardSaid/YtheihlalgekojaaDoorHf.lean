/-
  Walks over the statements' own helpers, of the handshake's statements: sizes, small letters.
-/
import Derived.Test.YtheihlalgekojaaDoorHe
import Derived.Lib.ConvBytes
import Derived.Lib.AtoiErrMem
namespace Go.Proofs.YtheihlalgekojaaDoor
open Go.RowKit
attribute [local go_sem] Oper.semAt_some

def allTo {α : Type} (l : List α) (p : α → Prop) (k : Nat) : Prop := ∀ x ∈ l.take k, p x
theorem allTo_succ {α : Type} {l : List α} {p : α → Prop} {k : Nat} (h : allTo l p k) (hk : k < l.length) (hp : p l[k]) : allTo l p (k + 1) := by
  intro x hx
  rw [List.take_succ_eq_append_getElem hk, List.mem_append] at hx
  rcases hx with hx | hx
  · exact h x hx
  · rw [List.mem_singleton] at hx; rw [hx]; exact hp
theorem allTo_all {α : Type} {l : List α} {p : α → Prop} {k : Nat} (h : allTo l p k) (hk : l.length ≤ k) : ∀ x ∈ l, p x := by
  intro x hx; exact h x (by rw [List.take_of_length_le hk]; exact hx)

def GreatPost (fs : List Fl) (w : World) (e : Ending) (w' : World) : Prop := ∃ b, e = .returned (.bool b) ∧ (b = false → fs.length ≤ 40 ∧ ∀ f ∈ fs, f.1.length ≤ 200 ∧ f.2.length ≤ 200) ∧ Gr w w'
set_option maxHeartbeats 2000000 in
set_option maxRecDepth 20000 in
theorem great_any (sv : Value) (r : Rq) (w : World) (hf : FieldsAt w sv r.fs) (hlf : r.fs.length ≤ 9223372036854775807) :
    Calls Tryd.prog 11 #[r.V sv] w (GreatPost r.fs w) := by
  obtain ⟨q, cap2, rfl, hd⟩ := hf
  have hd' := Lib.hid hd
  clear hd
  obtain ⟨rm, rp, rq, rv, fs, rb, rc⟩ := r
  dsimp only at hd' hlf ⊢
  show Calls Tryd.prog 11 #[.agg #[.string ⟨rm.toArray⟩, .string ⟨rp.toArray⟩, .string ⟨rq.toArray⟩, .int .i64 rv, .slice q fs.length cap2, .string ⟨rb.toArray⟩, .bool rc]] w _
  by_cases hall : fs.length ≤ 40
  · have hsm := Lib.hid hall
    go_enter Tryd.func11, Tryd.ntmps11
    go_wp2
    go_loop [3] (fun i => ∃ k : Nat, k ≤ fs.length ∧ i = .int .i64 k ∧ allTo fs (fun f => f.1.length ≤ 200 ∧ f.2.length ≤ 200) k) (fun i => fs.length - (intOf i).toNat)
    case atStart => exact ⟨0, Nat.zero_le _, rfl, fun x hx => by simp at hx⟩
    case round =>
      obtain ⟨j, hj, rfl, hall⟩ := hrel
      have hall' := Lib.hid hall
      clear hall
      by_cases hlt2 : j < fs.length
      · obtain ⟨b, off, rfl, c1, c2⟩ := hd'.out j hlt2
        have hb := World.block_lt_of_cell? _ _ c1
        (try dsimp only at hb)
        by_cases hs : fs[j].1.length ≤ 200 ∧ fs[j].2.length ≤ 200
        · obtain ⟨hs1, hs2⟩ := hs
          have hnext := Lib.hid (allTo_succ hall'.out hlt2 ⟨hs1, hs2⟩)
          go_wp2
          go_round
          case rel => exact ⟨j + 1, by omega, by go_num, hnext.out⟩
          case measure => simp [intOf]; omega
        · have hor : 200 < fs[j].1.length ∨ (fs[j].1.length ≤ 200 ∧ 200 < fs[j].2.length) := by omega
          clear hs
          rcases hor with hs | ⟨hs1, hs2⟩
          all_goals go_wp2
          all_goals go_ret
          all_goals exact ⟨true, rfl, fun h => Bool.noConfusion h, Gr.alloc _ _⟩
      · have hdone2 := Lib.hid (allTo_all hall'.out (by omega))
        clear hall'
        go_wp2
        go_ret
        exact ⟨false, rfl, fun _ => ⟨hsm.out, hdone2.out⟩, Gr.alloc _ _⟩
  · go_enter Tryd.func11, Tryd.ntmps11
    go_wp2
    go_ret
    exact ⟨true, rfl, fun h => Bool.noConfusion h, Gr.alloc _ _⟩

/-- The bytes of a, the first k in small letters. -/
def lowTo (a : List UInt8) (k : Nat) : List UInt8 := (a.take k).map lower ++ a.drop k
theorem lowTo_length (a : List UInt8) (k : Nat) : (lowTo a k).length = a.length := by simp [lowTo]; omega
theorem lowTo_get (a : List UInt8) (k j : Nat) (hj : j < a.length) : (lowTo a k)[j]'(by rw [lowTo_length]; exact hj) = if j < k then lower a[j] else a[j] := by
  unfold lowTo
  by_cases h : j < k
  · rw [List.getElem_append_left (by simp; omega)]; simp [h]
  · rw [List.getElem_append_right (by simp; omega)]
    simp only [h, if_false]
    simp [show k ≤ a.length by omega, show k + (j - k) = j by omega]

set_option maxHeartbeats 2000000 in
theorem low_any (a : List UInt8) (w : World) (ha : a.length ≤ 1000000) :
    Calls Tryd.prog 12 #[.string ⟨a.toArray⟩] w fun e w' => e = .returned (.string ⟨(a.map lower).toArray⟩) ∧ Gr w w' := by
  obtain ⟨g, hgd⟩ : ∃ g, a.map lower = g := ⟨_, rfl⟩
  have hgd' := Lib.hid hgd
  rw [hgd]
  clear hgd
  have hcv : ∀ W : World, (convert 9 37 (.string ⟨a.toArray⟩)).run Tryd.prog W = .ok (.slice (some ⟨W.heap.size, 0, none⟩) (ByteArray.size ⟨a.toArray⟩) (grownCap W (ByteArray.size ⟨a.toArray⟩) 0 5)) (Lib.bytesWorld W 5 ⟨a.toArray⟩) := fun W =>
    Lib.run_convert_string_bytes W _ _ 5 _ Tryd.underlying9 Tryd.underlying37 Tryd.underlying5
  go_enter Tryd.func12, Tryd.ntmps12
  go_wp2_with fail
  obtain ⟨cap, hcap⟩ : ∃ cap, grownCap w a.length 0 5 = cap := ⟨_, rfl⟩
  have hcells : ∀ j, (hj : j < a.length) → (Lib.bytesWorld w 5 ⟨a.toArray⟩).cell? ⟨w.heap.size, j, none⟩ = some (.int .u8 ((lowTo a 0)[j]'(by rw [lowTo_length]; exact hj)).toNat) := fun j hj => by
    rw [Lib.bytesWorld_cell _ _ _ _ (by rw [size_mk]; exact hj), lowTo_get _ _ _ hj]
    simp [List.getD, hj]
  have hfrz : ∀ j, (hj : j < a.length) → (Lib.bytesWorld w 5 ⟨a.toArray⟩).frozen? ⟨w.heap.size, j, none⟩ = false := fun j hj => by
    have : (Lib.bytesCells w 5 ⟨a.toArray⟩).size ≥ a.length := by simp [Lib.bytesCells]
    simp only [World.frozen?, Lib.bytesWorld_at_new]
    simp; omega
  have hgb : Gr w (Lib.bytesWorld w 5 ⟨a.toArray⟩) := Lib.bytesWorld_below _ _ _
  obtain ⟨W0, hW0⟩ : ∃ W0, Lib.bytesWorld w 5 ⟨a.toArray⟩ = W0 := ⟨_, rfl⟩
  rw [hW0] at hcells hfrz hgb ⊢
  rw [hcap]
  clear hcv hW0 hcap
  go_loopw [4] (fun i wr => ∃ k : Nat, k ≤ a.length ∧ i = .int .i64 k ∧ (∀ j, (hj : j < a.length) → wr.cell? ⟨w.heap.size, j, none⟩ = some (.int .u8 ((lowTo a k)[j]'(by rw [lowTo_length]; exact hj)).toNat)) ∧ (∀ j, (hj : j < a.length) → wr.frozen? ⟨w.heap.size, j, none⟩ = false) ∧ Gr w wr) (fun i _ => a.length - (intOf i).toNat)
  case atStart => exact ⟨0, Nat.zero_le _, rfl, hcells, hfrz, hgb⟩
  case round =>
    obtain ⟨k, hk, rfl, hcl, hfz, hg⟩ := hrel
    have hcl' := Lib.hid hcl
    have hfz' := Lib.hid hfz
    by_cases hkl : k < a.length
    · have h1 := hcl k hkl
      rw [lowTo_get _ _ _ hkl, if_neg (Nat.lt_irrefl _)] at h1
      have h2 := hfz k hkl
      obtain ⟨x, hx⟩ : ∃ x, a[k] = x := ⟨_, rfl⟩
      rw [hx] at h1
      clear hcl hfz
      have hux := lower_toNat x
      have hs1 : ∀ (y : UInt8), y = lower x → ∀ j, (hj : j < a.length) → (wr.setCell ⟨w.heap.size, k, none⟩ (.int .u8 y.toNat)).cell? ⟨w.heap.size, j, none⟩ = some (.int .u8 ((lowTo a (k + 1))[j]'(by rw [lowTo_length]; exact hj)).toNat) := fun y hy j hj => by
        by_cases hjk : j = k
        · subst hjk
          rw [cell_set_same h1, lowTo_get _ _ _ hj, if_pos (by omega), hx, hy]
        · rw [World.cell?_setCell_other _ _ _ _ (by intro e; cases e; exact hjk rfl), hcl'.out j hj, lowTo_get _ _ _ hj, lowTo_get _ _ _ hj]
          by_cases h : j < k
          · rw [if_pos h, if_pos (by omega)]
          · rw [if_neg h, if_neg (by omega)]
      have hs2 : lower x = x → ∀ j, (hj : j < a.length) → wr.cell? ⟨w.heap.size, j, none⟩ = some (.int .u8 ((lowTo a (k + 1))[j]'(by rw [lowTo_length]; exact hj)).toNat) := fun hy j hj => by
        rw [hcl'.out j hj, lowTo_get _ _ _ hj, lowTo_get _ _ _ hj]
        by_cases h : j < k
        · rw [if_pos h, if_pos (by omega)]
        · by_cases hjk : j = k
          · subst hjk; rw [if_neg h, if_pos (by omega), hx, hy]
          · rw [if_neg h, if_neg (by omega)]
      have hpl : w.heap.size ≤ w.heap.size := Nat.le_refl _
      have hx8 : (x.toNat : Int) ≤ 255 := by have := x.toNat_lt; omega
      by_cases h97 : 65 ≤ (x.toNat : Int)
      · by_cases h122 : (x.toNat : Int) ≤ 90
        · rw [if_pos ⟨h97, h122⟩] at hux
          have hux' := Lib.hid hux
          clear hux
          go_wp2
          go_roundw
          case rel =>
            refine ⟨k + 1, by omega, by go_num, ?_, fun j hj => by rw [frozen_set]; exact hfz'.out j hj, hg.setCell hpl _⟩
            have e : ((x.toNat : Int) + 32) = ((lower x).toNat : Int) := hux'.out.symm
            first
              | (have := hs1 (lower x) rfl; rw [← e] at this; exact this)
              | (intro j hj; have := hs1 (lower x) rfl j hj; rw [← e] at this; simpa using this)
          case measure => simp [intOf]; omega
        · rw [if_neg (fun h => h122 h.2)] at hux
          have e : lower x = x := UInt8.toNat_inj.1 (by omega)
          have hs3 := hs2 e
          clear hux e hs1 hs2
          go_wp2
          go_roundw
          case rel => exact ⟨k + 1, by omega, by go_num, hs3, hfz'.out, hg⟩
          case measure => simp [intOf]; omega
      · rw [if_neg (fun h => h97 h.1)] at hux
        have e : lower x = x := UInt8.toNat_inj.1 (by omega)
        have hs3 := hs2 e
        clear hux e hs1 hs2
        go_wp2
        go_roundw
        case rel => exact ⟨k + 1, by omega, by go_num, hs3, hfz'.out, hg⟩
        case measure => simp [intOf]; omega
    · obtain rfl : k = a.length := by omega
      have hgl : g.length = a.length := by rw [← hgd'.out]; simp
      have hup : lowTo a a.length = g := by rw [← hgd'.out]; simp [lowTo]
      have hcv : (convert 37 9 (.slice (some ⟨w.heap.size, 0, none⟩) g.length cap)).run Tryd.prog wr = .ok (.string ⟨g.toArray⟩) wr :=
        run_convert_bytes_back _ _ _ 5 ⟨w.heap.size, 0, none⟩ cap g Tryd.underlying37 Tryd.underlying5 Tryd.underlying9 (fun j hj => by
          have := hcl'.out j (by omega)
          simp only [hup] at this
          have e : (Addr.add ⟨w.heap.size, 0, none⟩ j) = ⟨w.heap.size, j, none⟩ := by
            by_cases h0 : j = 0 <;> simp [Addr.add, h0]
          rw [e]; simpa using this)
      rw [hgl] at hcv
      clear hcl hfz hup hgl
      go_wp2
      go_ret
      exact ⟨rfl, hg⟩
end Go.Proofs.YtheihlalgekojaaDoor
