/-
  The walk over the law's helper that hands steps to the reference.
-/
import Derived.Test.YtolpphmgobeocaaDoorRb
import Derived.Test.YtolpphmgobeocaaDoorRw
import Derived.Test.YtolpphmgobeocaaDoorCc
namespace Go.Proofs.YtolpphmgobeocaaDoor
open Go.RowKit Go.Shelf
attribute [local go_sem] Oper.semAt_some

def scells (s : Stp) : List Value := [.int .i64 s.kind, .string ⟨s.name.toArray⟩, .string ⟨s.value.toArray⟩, .int .i64 s.n]
theorem scells_len (s : Stp) : (scells s).length = 4 := rfl
theorem scells_one (s : Stp) : ∀ u ∈ scells s, u.oneCell' = true := by
  intro u hu
  simp [scells] at hu
  rcases hu with rfl | rfl | rfl | rfl <;> rfl
theorem infoStep : (Tryd.prog.info? 37).map (fun i => (i.zero, i.size, i.bytes)) = some (some (.agg #[.int .i64 0, .string ⟨#[]⟩, .string ⟨#[]⟩, .int .i64 0]), 4, 48) := by kernel_rfl
def OwnS (B : Nat) (w : World) (v : Value) (ss : List Stp) : Prop := w.ownsRow B 37 4 v ss.length (rcells scells ss)
theorem OwnS.cells {B : Nat} {w : World} {v : Value} {ss : List Stp} (h : OwnS B w v ss) (i : Nat) (hi : i < ss.length) : ∃ g cap, v = .slice (some ⟨g, 0, none⟩) ss.length cap ∧
    w.cell? ⟨g, i * 4, none⟩ = some (.int .i64 ss[i].kind) ∧ w.cell? ⟨g, i * 4 + 1, none⟩ = some (.string ⟨ss[i].name.toArray⟩) ∧ w.cell? ⟨g, i * 4 + 2, none⟩ = some (.string ⟨ss[i].value.toArray⟩) ∧ w.cell? ⟨g, i * 4 + 3, none⟩ = some (.int .i64 ss[i].n) := by
  obtain ⟨g, cap, rfl, _, _, hc⟩ := ownsRow_cell h (by omega)
  have key : ∀ j, (hj : j < 4) → w.cell? ⟨g, i * 4 + j, none⟩ = (scells ss[i])[j]? := fun j hj => by
    rw [hc _ (by omega), rcells_get scells_len ss i j hi hj]
  exact ⟨g, cap, rfl, key 0 (by omega), key 1 (by omega), key 2 (by omega), key 3 (by omega)⟩
theorem OwnS.at {B : Nat} {w : World} {v : Value} {ss : List Stp} (h : OwnS B w v ss) : StepsAt w v ss := by
  obtain ⟨p, cap, rfl⟩ := ownsRow_slice h
  refine ⟨p, cap, rfl, fun i hi => ?_⟩
  obtain ⟨g, cap', hv, h0, h1, h2, h3⟩ := h.cells i hi
  injection hv with e1 e2 e3
  subst e1
  exact ⟨g, 0, rfl, by rw [Nat.zero_add]; exact h0, by rw [Nat.zero_add]; exact h1, by rw [Nat.zero_add]; exact h2, by rw [Nat.zero_add]; exact h3⟩
def GivenPost (ss : List Stp) (w : World) (e : Ending) (w' : World) : Prop := ∃ v, e = .returned (.tuple #[v, .bool (ss.all rightB)]) ∧ StepsAt w' v ss ∧ Gr w w'
def GivenRel (B : Nat) (w : World) (ss : List Stp) (k : Nat) (o r : Value) (wr : World) : Prop := r = .bool ((ss.take k).all rightB) ∧ OwnS B wr o (ss.take k) ∧ Gr w wr
theorem rright_is (s : Stp) (b : Bool) (h : rightB s = b) (w : World) (hn : s.name.length ≤ 1000) (hv : s.value.length ≤ 1000) :
    Calls Tryd.prog 13 #[s.V] w fun e w' => e = .returned (.bool b) ∧ Gr w w' := h ▸ rright_any s w hn hv

set_option maxHeartbeats 4000000 in
set_option maxRecDepth 100000 in
theorem given_any (p : Option Addr) (cap : Nat) (ss : List Stp) (w : World) (hx : StepsAt w (.slice p ss.length cap) ss) (hls : ss.length ≤ 1000) (hsl : ∀ s ∈ ss, s.name.length ≤ 1000 ∧ s.value.length ≤ 1000) :
    Calls Tryd.prog 11 #[.slice p ss.length cap] w (GivenPost ss w) := by
  obtain ⟨p', cap', hv, hc⟩ := hx
  injection hv with e1 e2 e3
  subst e1
  have hc' := Lib.hid hc
  have hsl' := Lib.hid hsl
  have hlsI : (ss.length : Int) ≤ 1000 := by omega
  clear hc hsl e2 e3
  go_enter Tryd.func11, Tryd.ntmps11
  go_wp2
  go_loopw [4, 5, 6] (fun o r i wr => ∃ k : Nat, k ≤ ss.length ∧ i = .int .i64 k ∧ GivenRel w.heap.size w ss k o r wr) (fun _ _ i _ => ss.length - (intOf i).toNat)
  case atStart => exact ⟨0, Nat.zero_le _, rfl, rfl, World.ownsRow_nil _ _ _ _, Gr.refl _⟩
  case round =>
    obtain ⟨k, hk, rfl, rfl, hown, hg⟩ := hrel
    obtain ⟨L, hL⟩ : ∃ L, ss.take k = L := ⟨_, rfl⟩
    have hLl : L.length = k := by rw [← hL, List.length_take]; omega
    rw [hL] at hown ⊢
    unfold OwnS at hown
    rw [hLl] at hown
    obtain ⟨pL, cL, rfl⟩ := ownsRow_slice hown
    by_cases hlt : k < ss.length
    · obtain ⟨bb, off, rfl, c0, c1, c2, c3⟩ := hc'.out k hlt
      replace c0 := hg.cell c0
      replace c1 := hg.cell c1
      replace c2 := hg.cell c2
      replace c3 := hg.cell c3
      obtain ⟨s, hs⟩ : ∃ s, ss[k] = s := ⟨_, rfl⟩
      have hmem : s ∈ ss := hs ▸ List.getElem_mem hlt
      have hsb := hsl'.out s hmem
      rw [hs] at c0 c1 c2 c3
      have hnext := Lib.hid (show ss.take (k + 1) = L ++ [s] by rw [List.take_succ_eq_append_getElem hlt, hL, hs])
      have hown' := Lib.hid hown
      have hg' := Lib.hid hg
      have hL' := Lib.hid hLl
      have hz := Below.size hg
      obtain ⟨i0, hi, hz0, hz1, hz2⟩ := info_parts infoStep
      have hoA : ∀ O, (wr.alloc O).ownsRow w.heap.size 37 4 (.slice pL k cL) k (rcells scells L) := fun O => World.ownsRow.alloc hown O
      obtain ⟨b, hb⟩ : ∃ b, L.all rightB = b := ⟨_, rfl⟩
      rw [hb]
      have hb' := Lib.hid hb
      clear hown hg hmem hs hL hLl hb
      go_wp2_with (at_builtin; refine wpList_append_own _ rfl _ _ 30 rfl w.heap.size 37 i0 (.agg #[.int .i64 0, .string ⟨#[]⟩, .string ⟨#[]⟩, .int .i64 0]) 4 48 Tryd.underlying30 hi hz0 hz1 hz2 rfl (by decide) _ _ _ rfl (hoA _) ⟨wr.heap.size, 0, none⟩ 1 1 (scells s) rfl rfl ?qc2 ?qc3 ?qc4 ?qc5 ?qc6 ?_)
      case qc2 => exact cells_new wr (scells s) _
      case qc3 => exact scells_one s
      case qc4 => unfold maxLen; omega
      case qc5 => omega
      case qc6 => simp; omega
      intro v' w3 hown3 hgrow _
      have hown4 : OwnS w.heap.size w3 v' (L ++ [s]) := by
        unfold OwnS; rw [rcells_app, rcells_one1, List.length_append, hL'.out]; exact hown3
      have hg3 := Lib.hid (show Gr w w3 from (hg'.out.alloc1 _).ch (ch_grown hgrow) (fun j e => (hown'.out.lt j e).1))
      obtain ⟨g, cap9, rfl, d0, d1, d2, d3⟩ := hown4.cells k (by rw [List.length_append, hL'.out]; simp)
      have hgk : (L ++ [s])[k]'(by rw [List.length_append, hL'.out]; simp) = s := by have := hL'.out; subst this; simp
      rw [hgk] at d0 d1 d2 d3
      rw [show (L ++ [s]).length = k + 1 by rw [List.length_append, hL'.out]; rfl] at hown4 ⊢
      have hown5 := Lib.hid hown4
      clear hown3 hgrow hown4 hgk c0 c1 c2 c3 hoA hi hz0 hz1 hz2 hz
      cases b
      · have hfin := Lib.hid (show (L ++ [s]).all rightB = false by rw [List.all_append, hb'.out]; rfl)
        go_wp2
        go_roundw
        case rel => exact ⟨k + 1, by omega, by go_num, by rw [hnext.out, hfin.out], by rw [hnext.out]; exact hown5.out, hg3.out⟩
        case measure => simp [intOf]; omega
      · obtain ⟨c, hc⟩ : ∃ c, rightB s = c := ⟨_, rfl⟩
        have hfin := Lib.hid (show (L ++ [s]).all rightB = c by rw [List.all_append, hb'.out]; simp [hc])
        have hcall := Lib.hid (fun W => rright_is s c hc W hsb.1 hsb.2)
        clear hc
        go_wp2_with fail
        refine (hcall.out _).mono ?_
        rintro e w4 ⟨rfl, hb4⟩
        have hg4 := Lib.hid (hg3.out.trans hb4)
        have hown6 := Lib.hid (ownsRow_gr hown5.out hb4)
        clear hb4 d0 d1 d2 d3
        go_wp2
        go_roundw
        case rel => exact ⟨k + 1, by omega, by go_num, by rw [hnext.out, hfin.out], by rw [hnext.out]; exact hown6.out, hg4.out⟩
        case measure => simp [intOf]; omega
    · obtain rfl : k = ss.length := by omega
      rw [List.take_length] at hL
      subst hL
      have hown' := Lib.hid (show OwnS w.heap.size wr (.slice pL ss.length cL) ss from hown)
      clear hown
      go_wp2
      go_ret2
      exact ⟨_, rfl, hown'.out.at, hg⟩
end Go.Proofs.YtolpphmgobeocaaDoor
