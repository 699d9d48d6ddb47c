/-
  Walks over package chain: the names that a step's field may not have.
-/
import Derived.Test.YtolpphmgobeocaaDoorD
import Derived.Test.YtolpphmgobeocaaDoorC
import Derived.Test.YtolpphmgobeocaaDoorSt
import Derived.Test.YtolpphmgobeocaaDoorP5
namespace Go.Proofs.YtolpphmgobeocaaDoor
open Go.RowKit

/-- An index is there if something fits. -/
def Found (b : Bool) (w : World) (e : Ending) (w' : World) : Prop := ∃ n : Int, e = .returned (.int .i64 n) ∧ decide (n ≥ 0) = b ∧ Gr w w'
theorem any_take_succ {α : Type} {l : List α} {p : α → Bool} {k : Nat} (h : (l.take k).any p = false) (hk : k < l.length) (hp : p l[k] = false) : (l.take (k + 1)).any p = false := by
  rw [List.take_succ_eq_append_getElem hk, List.any_append, h]; simp [hp]
theorem any_at {α : Type} {l : List α} {p : α → Bool} {k : Nat} (hk : k < l.length) (hp : p l[k] = true) : l.any p = true :=
  List.any_eq_true.2 ⟨_, List.getElem_mem hk, hp⟩

set_option maxHeartbeats 1000000 in
theorem idxs_any (v u : Value) (xs : List (List UInt8)) (g : Nat) (p : List UInt8 → Bool) (w : World) (eg : ∀ args w, (callFunc g args).run Tryd.prog w = .ok (.enter g args) w)
    (hx : StrsAt w v xs) (hn : xs.length ≤ 9223372036854775807)
    (hp : ∀ x ∈ xs, ∀ W, Gr w W → Calls Tryd.prog g #[.string ⟨x.toArray⟩, u] W fun e W' => e = .returned (.bool (p x)) ∧ Gr W W') :
    Calls Tryd.prog 68 #[v, .func (.func g) #[] #[u]] w (Found (xs.any p) w) := by
  have hp' := Lib.hid hp
  clear hp
  obtain ⟨q, cap, rfl, hc⟩ := hx
  have hc' := Lib.hid hc
  clear hc
  go_enter Tryd.func68, Tryd.ntmps68
  go_wp2
  go_loopw [5, 8] (fun _ i wr => (∃ k : Nat, k ≤ xs.length ∧ i = .int .i64 k ∧ (xs.take k).any p = false) ∧ Gr w wr) (fun _ i _ => xs.length - (intOf i).toNat)
  case atStart => exact ⟨⟨0, Nat.zero_le _, rfl, rfl⟩, Gr.refl _⟩
  case round =>
    obtain ⟨⟨k, hk, rfl, hall⟩, hg⟩ := hrel
    have hall' := Lib.hid hall
    clear hall
    by_cases hlt : k < xs.length
    · obtain ⟨b, off, rfl, h1⟩ := hc'.out k hlt
      have c1 := hg.cell h1
      clear h1
      obtain ⟨x, hxd⟩ : ∃ x, xs[k] = x := ⟨_, rfl⟩
      have hmem : x ∈ xs := hxd ▸ List.getElem_mem hlt
      rw [hxd] at c1
      have hxd' := Lib.hid hxd
      clear hxd
      cases hpk : p x
      all_goals have hpk' := Lib.hid hpk
      all_goals clear hpk
      all_goals go_wp2_with fail
      all_goals refine (hp'.out x hmem _ hg).mono ?_
      all_goals rintro e w2 ⟨rfl, hb⟩
      all_goals rw [hpk'.out]
      all_goals go_wp2
      · go_roundw
        case rel => exact ⟨⟨k + 1, by omega, by go_num, any_take_succ hall'.out hlt (by rw [hxd'.out]; exact hpk'.out)⟩, hg.trans hb⟩
        case measure => simp [intOf]; omega
      · go_ret
        exact ⟨k, rfl, by rw [any_at hlt (by rw [hxd'.out]; exact hpk'.out)]; simp, hg.trans hb⟩
    · go_wp2
      go_ret
      exact ⟨-1, rfl, by rw [show xs.any p = false by rw [← hall'.out, List.take_of_length_le (by omega)]]; rfl, hg⟩

theorem containss_any (v u : Value) (xs : List (List UInt8)) (g : Nat) (p : List UInt8 → Bool) (w : World) (eg : ∀ args w, (callFunc g args).run Tryd.prog w = .ok (.enter g args) w)
    (hx : StrsAt w v xs) (hn : xs.length ≤ 9223372036854775807)
    (hp : ∀ x ∈ xs, ∀ W, Gr w W → Calls Tryd.prog g #[.string ⟨x.toArray⟩, u] W fun e W' => e = .returned (.bool (p x)) ∧ Gr W W') :
    Calls Tryd.prog 41 #[v, .func (.func g) #[] #[u]] w fun e w' => e = .returned (.bool (xs.any p)) ∧ Gr w w' := by
  have hp' := Lib.hid hp
  have hx' := Lib.hid hx
  clear hp hx
  obtain ⟨r, hr⟩ : ∃ r, xs.any p = r := ⟨_, rfl⟩
  have hr' := Lib.hid hr
  rw [hr]
  clear hr
  go_enter Tryd.func41, Tryd.ntmps41
  go_wp2_with fail
  refine (idxs_any v u xs g p _ eg hx'.out hn hp'.out).mono ?_
  rintro e w2 ⟨n, rfl, hd, hb⟩
  rw [hr'.out] at hd
  have hd' := Lib.hid hd
  clear hd
  go_wp2
  go_ret
  exact ⟨ret_bool (by rw [← hd'.out]), hb⟩

set_option maxHeartbeats 1000000 in
theorem own1_any (x name : List UInt8) (b : Nat) (w : World) (hG : G w) (hc : w.cell? ⟨b, 0, none⟩ = some (.string ⟨name.toArray⟩)) (hx : x.length ≤ 9223372036854775807) (hn : name.length ≤ 9223372036854775807) :
    Calls Tryd.prog 42 #[.string ⟨x.toArray⟩, .pointer (some ⟨b, 0, none⟩)] w fun e w' => e = .returned (.bool (alikeB x name)) ∧ Gr w w' := by
  have hG' := Lib.hid hG
  clear hG
  obtain ⟨r, hr⟩ : ∃ r, alikeB x name = r := ⟨_, rfl⟩
  have hr' := Lib.hid hr
  rw [hr]
  clear hr
  go_enter Tryd.func42, Tryd.ntmps42
  go_wp2_with fail
  refine (alike_any x name _ hG'.out hx hn).mono ?_
  rintro e w2 ⟨rfl, hb⟩
  rw [hr'.out]
  go_wp2
  go_ret
  exact ⟨rfl, hb⟩

set_option maxHeartbeats 1000000 in
theorem own_any (name : List UInt8) (w : World) (hG : G w) (hn : name.length ≤ 9223372036854775807) :
    Calls Tryd.prog 24 #[.string ⟨name.toArray⟩] w fun e w' => e = .returned (.bool (ownB name)) ∧ Gr w w' := by
  have hG' := Lib.hid hG
  clear hG
  obtain ⟨r, hr⟩ : ∃ r, ownB name = r := ⟨_, rfl⟩
  have hr' := Lib.hid hr
  rw [hr]
  clear hr
  go_enter Tryd.func24, Tryd.ntmps24
  go_wp2_with fail
  refine (containss_any _ _ ownsL 42 (fun o => alikeB o name) _ (enters_of Tryd.func42 (by kernel_rfl) rfl) ?_ (by decide) ?_).mono ?_
  · refine ⟨some ⟨w.heap.size + 1, 0, none⟩, 7, rfl, fun i hi => ?_⟩
    match i, hi with
    | 0, _ => exact ⟨_, _, rfl, by simp [go_sem]; rfl⟩
    | 1, _ => exact ⟨_, _, rfl, by simp [go_sem]; rfl⟩
    | 2, _ => exact ⟨_, _, rfl, by simp [go_sem]; rfl⟩
    | 3, _ => exact ⟨_, _, rfl, by simp [go_sem]; rfl⟩
    | 4, _ => exact ⟨_, _, rfl, by simp [go_sem]; rfl⟩
    | 5, _ => exact ⟨_, _, rfl, by simp [go_sem]; rfl⟩
    | 6, _ => exact ⟨_, _, rfl, by simp [go_sem]; rfl⟩
  · intro x hx W hW
    refine own1_any x name w.heap.size W (hG'.out.gr (((Gr.alloc _ _).alloc1 _).trans hW)) (hW.cell (by simp [go_sem])) ?_ hn
    have : ownsL.all (fun x => decide (x.length ≤ 30)) = true := by decide
    have := of_decide_eq_true (List.all_eq_true.1 this x hx)
    omega
  · rintro e w2 ⟨rfl, hb⟩
    rw [show (ownsL.any fun o => alikeB o name) = r from hr'.out]
    go_wp2
    go_ret
    exact ⟨rfl, ((Gr.alloc _ _).alloc1 _).trans hb⟩
end Go.Proofs.YtolpphmgobeocaaDoor
