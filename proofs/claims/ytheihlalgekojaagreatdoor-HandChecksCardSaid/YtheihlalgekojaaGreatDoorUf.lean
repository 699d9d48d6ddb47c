/-
  The document's handshake: many, has.
-/
import Derived.Test.YtheihlalgekojaaGreatDoorK
import Derived.Test.YtheihlalgekojaaGreatDoorOw
import Derived.Test.YtheihlalgekojaaGreatDoorP27
import Derived.Test.YtheihlalgekojaaGreatDoorHb
import Derived.IntWalk
namespace Go.Proofs.YtheihlalgekojaaGreatDoor
open Go.RowKit
attribute [local go_sem] Oper.semAt_some

theorem strs_of_own {B : Nat} {W : World} {v : Value} {xs : List (List UInt8)} (h : OwnV 9 B W v (xs.map sv)) : StrsAt W v xs := by
  obtain ⟨p, cap, rfl⟩ := h.slice
  rw [List.length_map] at h ⊢
  refine ⟨p, cap, rfl, fun i hi => ?_⟩
  cases p with
  | none =>
    exfalso
    rcases h with ⟨_, h0⟩ | ⟨g, cap, cur, fz, e, _⟩
    · rw [List.map_eq_nil_iff] at h0; subst h0; cases hi
    · cases e
  | some p =>
    obtain ⟨b, off, f⟩ := p
    obtain ⟨h1, h2⟩ := h.cells
    dsimp only at h1 h2
    subst h1
    have hf : f = none := by
      rcases h with ⟨e, _⟩ | ⟨g, cap, cur, fz, e, _⟩
      · cases e
      · injection e with e1 _ _; injection e1 with e1; injection e1
    subst hf
    refine ⟨b, 0, rfl, ?_⟩
    rw [Nat.zero_add]
    exact h2 i _ (by simp [sv, hi])
theorem many_take (fs : List Fl) (name : List UInt8) (k : Nat) (h : k < fs.length) : manyB (fs.take (k + 1)) name = manyB (fs.take k) name ++ (if alikeB fs[k].1 name = true then [fs[k].2] else []) := by
  unfold manyB
  rw [List.take_succ_eq_append_getElem h, List.filter_append, List.map_append]
  by_cases e : alikeB fs[k].1 name = true <;> simp [e]
theorem many_len (fs : List Fl) (name : List UInt8) : (manyB fs name).length ≤ fs.length := by
  unfold manyB; rw [List.length_map]; exact List.length_filter_le _ _
def ManyPost (fs : List Fl) (name : List UInt8) (w : World) (e : Ending) (w' : World) : Prop := ∃ p cap, e = .returned (.slice p (manyB fs name).length cap) ∧ StrsAt w' (.slice p (manyB fs name).length cap) (manyB fs name) ∧ Gr w w'
set_option maxHeartbeats 2000000 in
set_option maxRecDepth 20000 in
theorem many_any (t : Value) (fs : List Fl) (name : List UInt8) (w : World) (hf : FieldsAt w t fs) (hs : Short fs) (hn : name.length ≤ 1000) :
    Calls Tryz.prog 16 #[t, .string ⟨name.toArray⟩] w (ManyPost fs name w) := by
  obtain ⟨pp, cap0, rfl, hc⟩ := hf
  have hc' := Lib.hid hc
  have hs' := Lib.hid hs
  have hfl : fs.length ≤ 1000000 := hs.1
  clear hc hs
  go_enter Tryz.func16, Tryz.ntmps16
  go_wp2
  go_loopw [5, 6] (fun v i W => ∃ k : Nat, k ≤ fs.length ∧ i = .int .i64 k ∧ (∃ p cap, v = .slice p (manyB (fs.take k) name).length cap) ∧ OwnV 9 w.heap.size W v ((manyB (fs.take k) name).map sv) ∧ Gr w W) (fun _ i _ => fs.length - (intOf i).toNat)
  case atStart => exact ⟨0, Nat.zero_le _, rfl, ⟨none, 0, rfl⟩, OwnV.nil _ _ _, Gr.refl _⟩
  case round =>
    obtain ⟨k, hk, rfl, ⟨p1, cap1, rfl⟩, ho, hg⟩ := hrel
    have ho' := Lib.hid ho
    have hg' := Lib.hid hg
    clear ho
    by_cases hlt : k < fs.length
    · have hltI : (k : Int) < fs.length := by omega
      obtain ⟨b, off, rfl, d1, d2⟩ := hc'.out k hlt
      replace d1 := hg.cell d1
      replace d2 := hg.cell d2
      have hnx := many_take fs name k hlt
      have hml := Nat.le_trans (many_len (fs.take k) name) (by rw [List.length_take]; exact Nat.min_le_right _ _)
      have hxs := hs'.out.2 _ (List.getElem_mem hlt)
      obtain ⟨⟨xn, xv⟩, hx⟩ : ∃ x, fs[k] = x := ⟨_, rfl⟩
      rw [hx] at d1 d2 hnx hxs
      dsimp only at d1 d2 hnx hxs
      have hcall := Lib.hid (fun W => ralike_any xn name W (by omega) (by omega))
      obtain ⟨N, hN⟩ : ∃ N, (manyB (fs.take k) name).length = N := ⟨_, rfl⟩
      rw [hN] at ho' hml ⊢
      have hNl : (((manyB (fs.take k) name).map sv)).length + 1 = N + 1 := by rw [List.length_map, hN]
      have hNb : N + 1 ≤ 1000001 := by omega
      cases ha : alikeB xn name
      · rw [ha] at hnx hcall
        have hnx' := Lib.hid (show manyB (fs.take (k + 1)) name = manyB (fs.take k) name by rw [hnx]; simp)
        have hN' := Lib.hid hN
        clear hnx hx ha hg hN hNl
        go_wp2_with fail
        refine (hcall.out _).mono ?_
        rintro e w1 ⟨rfl, hb⟩
        have ho1 := Lib.hid (ho'.out.gr hb)
        have hg1 := Lib.hid (hg'.out.trans hb)
        clear hb
        go_wp2
        go_roundw
        case rel => exact ⟨k + 1, by omega, by go_num, ⟨p1, cap1, by rw [hnx'.out, hN'.out]⟩, hnx'.out ▸ ho1.out, hg1.out⟩
        case measure => simp [intOf]; omega
      · rw [ha] at hnx hcall
        have hnx' := Lib.hid (show manyB (fs.take (k + 1)) name = manyB (fs.take k) name ++ [xv] by rw [hnx]; simp)
        have hN' := Lib.hid hN
        have hm9 : N + 1 ≤ 1000000 := by have : k + 1 ≤ fs.length := hlt; have h3 : N ≤ k := by rw [← hN]; exact Nat.le_trans (many_len _ _) (by rw [List.length_take]; exact Nat.min_le_left _ _)
                                         omega
        clear hnx hx ha hg hN
        go_wp2_with fail
        refine (hcall.out _).mono ?_
        rintro e w1 ⟨rfl, hb⟩
        have ho1 := Lib.hid (ho'.out.gr hb)
        have hg1 := Lib.hid (hg'.out.trans hb)
        have hsz := Lib.hid (hg1.out.size)
        replace d1 := hb.cell d1
        replace d2 := hb.cell d2
        clear hb
        go_wp2_with (at_builtin; (refine wp_app1 (by rfl) _ _ 42 9 _ (.string ⟨#[]⟩) (.string ⟨xv.toArray⟩) 16 Tryz.underlying42 infoStr rfl rfl w.heap.size _ ((manyB (fs.take k) name).map sv) rfl ho1.out rfl rfl (N + 1) hNl hm9 (by decide) hsz.out ?_); intro p3 cap3 w3 hown3 hb3)
        have hown4 := Lib.hid (show OwnV 9 w.heap.size w3 (.slice p3 (N + 1) cap3) ((manyB (fs.take (k + 1)) name).map sv) from by
          rw [hnx'.out, List.map_append]; exact hown3)
        have hg4 := Lib.hid (Below.trans hg1.out hb3)
        clear hown3 hb3
        go_wp2
        go_roundw
        case rel => exact ⟨k + 1, by omega, by go_num, ⟨p3, cap3, by rw [hnx'.out, List.length_append, hN'.out]; rfl⟩, hown4.out, hg4.out⟩
        case measure => simp [intOf]; omega
    · obtain rfl : k = fs.length := by omega
      rw [List.take_length] at ho' ⊢
      have hst := Lib.hid (strs_of_own ho'.out)
      go_wp2
      go_ret
      exact ⟨_, _, rfl, hst.out, hg'.out⟩
set_option maxHeartbeats 2000000 in
set_option maxRecDepth 20000 in
theorem hasw_any (v : Value) (l : List (List UInt8)) (word : List UInt8) (w : World) (hf : StrsAt w v l) (hl : l.length ≤ 1000000) (hs : ∀ x ∈ l, x.length ≤ 800000) (hn : word.length ≤ 1000) :
    Calls Tryz.prog 17 #[v, .string ⟨word.toArray⟩] w fun e w' => e = .returned (.bool (hasAny l word)) ∧ Gr w w' := by
  obtain ⟨pp, cap0, rfl, hc⟩ := hf
  have hc' := Lib.hid hc
  have hs' := Lib.hid hs
  clear hc hs
  go_enter Tryz.func17, Tryz.ntmps17
  go_wp2
  go_loopw [5] (fun i W => ∃ k : Nat, k ≤ l.length ∧ i = .int .i64 k ∧ (∀ x ∈ l.take k, hasB x word = false) ∧ Gr w W) (fun i _ => l.length - (intOf i).toNat)
  case atStart => exact ⟨0, Nat.zero_le _, rfl, fun x hx => by simp at hx, Gr.refl _⟩
  case round =>
    obtain ⟨k, hk, rfl, hno, hg⟩ := hrel
    have hno' := Lib.hid hno
    have hg' := Lib.hid hg
    clear hno
    by_cases hlt : k < l.length
    · have hltI : (k : Int) < l.length := by omega
      obtain ⟨b, off, rfl, d1⟩ := hc'.out k hlt
      replace d1 := hg.cell d1
      have hxs := hs'.out _ (List.getElem_mem hlt)
      obtain ⟨x, hx⟩ : ∃ x, l[k] = x := ⟨_, rfl⟩
      rw [hx] at d1 hxs
      have hcall := Lib.hid (fun W => rhas_any x word W (by omega) (by omega))
      cases ha : hasB x word
      · rw [ha] at hcall
        have hnx := Lib.hid (show ∀ y ∈ l.take (k + 1), hasB y word = false from fun y hy => by
          rw [List.take_succ_eq_append_getElem hlt, List.mem_append] at hy
          rcases hy with hy | hy
          · exact hno'.out y hy
          · simp only [List.mem_singleton] at hy
            rw [hy, hx, ha])
        clear hx ha hg
        go_wp2_with fail
        refine (hcall.out _).mono ?_
        rintro e w1 ⟨rfl, hb⟩
        have hg1 := Lib.hid (hg'.out.trans hb)
        clear hb
        go_wp2
        go_roundw
        case rel => exact ⟨k + 1, by omega, by go_num, hnx.out, hg1.out⟩
        case measure => simp [intOf]; omega
      · rw [ha] at hcall
        have hany := Lib.hid (show hasAny l word = true by
          unfold hasAny
          rw [List.any_eq_true]
          exact ⟨x, hx ▸ List.getElem_mem hlt, ha⟩)
        clear hx ha hg
        go_wp2_with fail
        refine (hcall.out _).mono ?_
        rintro e w1 ⟨rfl, hb⟩
        have hg1 := Lib.hid (hg'.out.trans hb)
        clear hb
        go_wp2
        go_ret
        exact ⟨by rw [hany.out]; rfl, hg1.out⟩
    · obtain rfl : k = l.length := by omega
      have hany := Lib.hid (show hasAny l word = false by
        have := hno'.out
        rw [List.take_length] at this
        unfold hasAny
        rw [List.any_eq_false]
        intro x hx
        rw [this x hx]; decide)
      go_wp2
      go_ret
      exact ⟨by rw [hany.out]; rfl, hg'.out⟩
end Go.Proofs.YtheihlalgekojaaGreatDoor
