/-
  The walk over the reference's Parse.
-/
import Derived.Test.YtfcokldbpjkjpaaGreatDoorE
namespace Go.Proofs.YtfcokldbpjkjpaaGreatDoor
open Go.RowKit

theorem bare_later (C : World → Prop) (l : List UInt8) (hl : l.length ≤ 9223372036854775807) (x : Later C) : Calls Tryz.prog 52 #[.string ⟨l.toArray⟩] x.w fun e w'' => e = .returned (.string ⟨(trimB l).toArray⟩) ∧ ∃ y : Later C, w'' = y.w :=
  Calls.later ((bare_any l x.w hl).mono fun _ _ ⟨he, hw⟩ => ⟨he, hw ▸ x.ok⟩)

set_option maxHeartbeats 1000000 in
theorem rparse_any (l : List UInt8) (w : World) (hl : l.length ≤ 9223372036854775806) :
    Calls Tryz.prog 31 #[.string ⟨l.toArray⟩] w fun e w' => e = .returned (pVal (parseB l)) ∧ Gr w w' := by
  go_enter Tryz.func31, Tryz.ntmps31
  go_wp2
  go_loop [4] (fun i => ∃ k : Nat, k ≤ l.length ∧ i = .int .i64 k ∧ (l.take k).all isTok = true) (fun i => l.length - (intOf i).toNat)
  case atStart => exact ⟨0, Nat.zero_le _, rfl, rfl⟩
  case round =>
    obtain ⟨k, hk, rfl, hall⟩ := hrel
    have hall' := Lib.hid hall
    clear hall
    by_cases hlt : k < l.length
    · obtain ⟨c, hc⟩ : ∃ c, (⟨l.toArray⟩ : ByteArray)[k]'(by rw [size_mk]; exact hlt) = c := ⟨_, rfl⟩
      have hc2 := Lib.hid (show l[k] = c from hc)
      cases ht : isTok c
      all_goals have ht' := Lib.hid ht
      all_goals clear ht
      · -- the first that is no token's
        by_cases h0 : k = 0
        · subst h0
          have hres := Lib.hid (parse_none hk hall'.out (.inl rfl) (fun h => by rw [hc2.out]; exact ht'.out))
          go_wp2_with (go_at_call 51; refine (tokens_any c _).mono ?_; rintro e w' ⟨rfl, rfl⟩; rw [ht'.out])
          refine bodyPost_ret (v := pVal ([], [], false)) (by simp [results, Tryz.results31, go_sem, pVal]) rfl ⟨by rw [hres.out], ?_⟩
          exact Gr.alloc _ _
        · have hk0 : ((k : Int) == 0) = false := beq_eq_false_iff_ne.2 (by omega)
          have hkl : ((k : Int) == l.length) = false := beq_eq_false_iff_ne.2 (by omega)
          by_cases h58 : (c.toNat : Int) = 58
          · have h58b : ((c.toNat : Int) != 58) = false := by simp [h58]
            have h58' := Lib.hid h58
            clear h58
            go_wp2_with (go_at_call 51; refine (tokens_any c _).mono ?_; rintro e w' ⟨rfl, rfl⟩; rw [ht'.out])
            have hpa := Lib.hid (parse_at hlt hall'.out (by omega) (by rw [hc2.out]; exact UInt8.toNat_inj.1 (by have := h58'.out; show c.toNat = 58; omega)))
            obtain ⟨v, hv⟩ : ∃ v, v = l.drop (k + 1) := ⟨_, rfl⟩
            have hvl : v.length = l.length - (k + 1) := by rw [hv]; simp
            have hvl1 : v.length + (k + 1) ≤ l.length := by omega
            have hvl2 : l.length ≤ v.length + (k + 1) := by omega
            have hv' := Lib.hid hv
            clear hvl hv
            go_loop [5] (fun i => ∃ m : Nat, m ≤ v.length ∧ i = .int .i64 (k + 1 + m : Nat) ∧ (v.take m).all isVal = true) (fun i => l.length - (intOf i).toNat)
            case atStart => exact ⟨0, Nat.zero_le _, rfl, rfl⟩
            case round =>
              obtain ⟨m, hm, rfl, hvm⟩ := hrel
              have hvm' := Lib.hid hvm
              clear hvm
              by_cases hml : m < v.length
              · have hil : k + 1 + m < l.length := by omega
                obtain ⟨d, hd⟩ : ∃ d, (⟨l.toArray⟩ : ByteArray)[k + 1 + m]'(by rw [size_mk]; exact hil) = d := ⟨_, rfl⟩
                have hd2 := Lib.hid (show v[m] = d from by rw [← hd]; show v[m] = l[k + 1 + m]; simp [hv'.out])
                cases hdv : isVal d
                · have hdv' := Lib.hid hdv
                  clear hdv
                  have hres := Lib.hid (show parseB l = ([], [], false) from by rw [hpa.out, ← hv'.out, all_false hml (by rw [hd2.out]; exact hdv'.out)]; rfl)
                  have htests : ((d.toNat : Int) != 9) = true ∧ ((d.toNat : Int) < 32 ∨ (32 ≤ (d.toNat : Int) ∧ ((d.toNat : Int) == 127) = true)) := by
                    have := hdv'.out; rw [val_eq] at this
                    simp at this
                    refine ⟨by rw [bne_iff_ne]; exact this.1, ?_⟩
                    by_cases h32 : (d.toNat : Int) < 32
                    · exact .inl h32
                    · exact .inr ⟨by omega, by rw [beq_iff_eq]; have := this.2 (by omega); omega⟩
                  obtain ⟨t9, (t32 | ⟨t32, t127⟩)⟩ := htests
                  all_goals go_wp2
                  all_goals refine bodyPost_ret (v := pVal ([], [], false)) (by simp [results, Tryz.results31, go_sem, pVal]) rfl ⟨by rw [hres.out], ?_⟩
                  all_goals exact Gr.alloc _ _
                · have hdv' := Lib.hid hdv
                  clear hdv
                  have htests : ((d.toNat : Int) != 9) = false ∨ ((d.toNat : Int) != 9) = true ∧ 32 ≤ (d.toNat : Int) ∧ ((d.toNat : Int) == 127) = false := by
                    have := hdv'.out; rw [val_eq] at this
                    simp only [decide_eq_true_eq] at this
                    rcases this with h | ⟨h1, h2⟩
                    · exact .inl (by simp [h])
                    · exact .inr ⟨by rw [bne_iff_ne]; omega, h1, beq_eq_false_iff_ne.2 h2⟩
                  obtain t9 | ⟨t9, t32, t127⟩ := htests
                  all_goals go_wp2
                  all_goals
                    go_round
                    case rel => exact ⟨m + 1, by omega, by go_num, all_take_succ hvm'.out hml (by rw [hd2.out]; exact hdv'.out)⟩
                    case measure => simp [intOf]; omega
              · have hva := Lib.hid (show v.all isVal = true from by rw [← hvm'.out, List.take_of_length_le (by omega)])
                have hres := Lib.hid (show parseB l = (l.take k, trimB v, true) from by rw [hpa.out, ← hv'.out, hva.out]; rfl)
                have hx1 : (⟨l.toArray⟩ : ByteArray).extract 0 k = ⟨(l.take k).toArray⟩ := by rw [extract_mk]; simp
                have hx2 : (⟨l.toArray⟩ : ByteArray).extract (k + 1) l.length = ⟨v.toArray⟩ := by rw [extract_mk, hv'.out]; simp
                obtain ⟨x1, hx1'⟩ : ∃ x1, l.take k = x1 := ⟨_, rfl⟩
                have hx3 := Lib.hid hx1'
                rw [hx1'] at hx1
                clear hx1'
                go_wp2
                obtain ⟨W, hW⟩ : ∃ W, w.alloc (Obj.cells #[Value.string { data := #[] }, Value.string { data := #[] }] 41) = W := ⟨_, rfl⟩
                rw [hW]
                haveI : Nonempty (Later (Gr W)) := ⟨⟨W, Gr.refl W⟩⟩
                refine wp_region_later_tail (C := Gr W) 9 (by kernel_rfl) (by kernel_rfl) (Gr.drew' _) ?_
                simp only [List.take_succ_cons, List.take_zero, List.drop_succ_cons, List.drop_zero]
                repeat (go_big_quiet_step (exact bare_later (Gr W) v (by omega) _))
                refine wpQuiet_nil ?_
                intro w2 hg2
                obtain ⟨hce, hfr⟩ := hg2.bcell
                subst hW
                go_wp2
                refine bodyPost_ret (v := pVal (x1, trimB v, true)) (by simp [results, Tryz.results31, go_sem, pVal, hce]) rfl ⟨by rw [hres.out, hx3.out], ?_⟩
                exact (((Gr.alloc w _).trans hg2).setCell (Nat.le_refl _) _).setCell (Nat.le_refl _) _
          · have h58b : ((c.toNat : Int) != 58) = true := by rw [bne_iff_ne]; exact h58
            have hres := Lib.hid (parse_none hk hall'.out (.inr (.inr ⟨hlt, fun e => h58 (by rw [hc2.out] at e; rw [e]; rfl), by rw [hc2.out]; exact ht'.out⟩)) (fun h => by rw [hc2.out]; exact ht'.out))
            clear h58
            go_wp2_with (go_at_call 51; refine (tokens_any c _).mono ?_; rintro e w' ⟨rfl, rfl⟩; rw [ht'.out])
            refine bodyPost_ret (v := pVal ([], [], false)) (by simp [results, Tryz.results31, go_sem, pVal]) rfl ⟨by rw [hres.out], ?_⟩
            exact Gr.alloc _ _
      · go_wp2_with (go_at_call 51; refine (tokens_any c _).mono ?_; rintro e w' ⟨rfl, rfl⟩; rw [ht'.out])
        go_round
        case rel => exact ⟨k + 1, by omega, by go_num, all_take_succ hall'.out hlt (by rw [hc2.out]; exact ht'.out)⟩
        case measure => simp [intOf]; omega
    · have hkl : ((k : Int) == l.length) = true := by rw [beq_iff_eq]; omega
      have hres := Lib.hid (parse_none hk hall'.out (.inr (.inl (by omega))) (fun h => absurd h hlt))
      by_cases h0 : k = 0
      · subst h0
        go_wp2
        refine bodyPost_ret (v := pVal ([], [], false)) (by simp [results, Tryz.results31, go_sem, pVal]) rfl ⟨by rw [hres.out], ?_⟩
        exact Gr.alloc _ _
      · have hk0 : ((k : Int) == 0) = false := beq_eq_false_iff_ne.2 (by omega)
        go_wp2
        refine bodyPost_ret (v := pVal ([], [], false)) (by simp [results, Tryz.results31, go_sem, pVal]) rfl ⟨by rw [hres.out], ?_⟩
        exact Gr.alloc _ _
end Go.Proofs.YtfcokldbpjkjpaaGreatDoor
