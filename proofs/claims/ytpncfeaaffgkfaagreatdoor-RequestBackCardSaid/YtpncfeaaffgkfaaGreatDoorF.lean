/-
  The walk over the reference's Parse.
  The reference's Parts and Has.
-/
import Derived.Test.YtpncfeaaffgkfaaGreatDoorYj
import Derived.Test.YtpncfeaaffgkfaaGreatDoorSp
import Derived.Maps.AppendAt
namespace Go.Proofs.YtpncfeaaffgkfaaGreatDoor
open Go.RowKit

theorem bare_later (C : World → Prop) (l : List UInt8) (hl : l.length ≤ 9223372036854775807) (x : Later C) : Calls Tryz.prog 86 #[.string ⟨l.toArray⟩] x.w fun e w'' => e = .returned (.string ⟨(trimB l).toArray⟩) ∧ ∃ y : Later C, w'' = y.w :=
  Calls.later ((bare_any l x.w hl).mono fun _ _ ⟨he, hw⟩ => ⟨he, hw ▸ x.ok⟩)

set_option maxHeartbeats 1000000 in
theorem rparse_any (l : List UInt8) (w : World) (hl : l.length ≤ 9223372036854775806) :
    Calls Tryz.prog 51 #[.string ⟨l.toArray⟩] w fun e w' => e = .returned (pVal (parseB l)) ∧ Gr w w' := by
  go_enter Tryz.func51, Tryz.ntmps51
  go_wp2
  go_loop [4] (fun i => ∃ k : Nat, k ≤ l.length ∧ i = .int .i64 k ∧ (l.take k).all isTok = true) (fun i => l.length - (intOf i).toNat)
  case atStart => exact ⟨0, Nat.zero_le _, rfl, rfl⟩
  case round =>
    obtain ⟨k, hk, rfl, hall⟩ := hrel
    have hall' := Lib.hid hall
    clear hall
    by_cases hlt : k < l.length
    · obtain ⟨c, hc⟩ : ∃ c, (⟨l.toArray⟩ : ByteArray)[k]'(by rw [size_mk]; exact hlt) = c := ⟨_, rfl⟩
      have hc2 := Lib.hid (show l[k] = c from hc)
      cases ht : isTok c
      all_goals have ht' := Lib.hid ht
      all_goals clear ht
      · -- the first that is no token's
        by_cases h0 : k = 0
        · subst h0
          have hres := Lib.hid (parse_none hk hall'.out (.inl rfl) (fun h => by rw [hc2.out]; exact ht'.out))
          go_wp2_with (go_at_call 85; refine (tokens_any c _).mono ?_; rintro e w' ⟨rfl, rfl⟩; rw [ht'.out])
          refine bodyPost_ret (v := pVal ([], [], false)) (by simp [results, Tryz.results51, go_sem, pVal]) rfl ⟨by rw [hres.out], ?_⟩
          exact Gr.alloc _ _
        · have hk0 : ((k : Int) == 0) = false := beq_eq_false_iff_ne.2 (by omega)
          have hkl : ((k : Int) == l.length) = false := beq_eq_false_iff_ne.2 (by omega)
          by_cases h58 : (c.toNat : Int) = 58
          · have h58b : ((c.toNat : Int) != 58) = false := by simp [h58]
            have h58' := Lib.hid h58
            clear h58
            go_wp2_with (go_at_call 85; refine (tokens_any c _).mono ?_; rintro e w' ⟨rfl, rfl⟩; rw [ht'.out])
            have hpa := Lib.hid (parse_at hlt hall'.out (by omega) (by rw [hc2.out]; exact UInt8.toNat_inj.1 (by have := h58'.out; show c.toNat = 58; omega)))
            obtain ⟨v, hv⟩ : ∃ v, v = l.drop (k + 1) := ⟨_, rfl⟩
            have hvl : v.length = l.length - (k + 1) := by rw [hv]; simp
            have hvl1 : v.length + (k + 1) ≤ l.length := by omega
            have hvl2 : l.length ≤ v.length + (k + 1) := by omega
            have hv' := Lib.hid hv
            clear hvl hv
            go_loop [5] (fun i => ∃ m : Nat, m ≤ v.length ∧ i = .int .i64 (k + 1 + m : Nat) ∧ (v.take m).all isVal = true) (fun i => l.length - (intOf i).toNat)
            case atStart => exact ⟨0, Nat.zero_le _, rfl, rfl⟩
            case round =>
              obtain ⟨m, hm, rfl, hvm⟩ := hrel
              have hvm' := Lib.hid hvm
              clear hvm
              by_cases hml : m < v.length
              · have hil : k + 1 + m < l.length := by omega
                obtain ⟨d, hd⟩ : ∃ d, (⟨l.toArray⟩ : ByteArray)[k + 1 + m]'(by rw [size_mk]; exact hil) = d := ⟨_, rfl⟩
                have hd2 := Lib.hid (show v[m] = d from by rw [← hd]; show v[m] = l[k + 1 + m]; simp [hv'.out])
                cases hdv : isVal d
                · have hdv' := Lib.hid hdv
                  clear hdv
                  have hres := Lib.hid (show parseB l = ([], [], false) from by rw [hpa.out, ← hv'.out, all_false hml (by rw [hd2.out]; exact hdv'.out)]; rfl)
                  have htests : ((d.toNat : Int) != 9) = true ∧ ((d.toNat : Int) < 32 ∨ (32 ≤ (d.toNat : Int) ∧ ((d.toNat : Int) == 127) = true)) := by
                    have := hdv'.out; rw [val_eq] at this
                    simp at this
                    refine ⟨by rw [bne_iff_ne]; exact this.1, ?_⟩
                    by_cases h32 : (d.toNat : Int) < 32
                    · exact .inl h32
                    · exact .inr ⟨by omega, by rw [beq_iff_eq]; have := this.2 (by omega); omega⟩
                  obtain ⟨t9, (t32 | ⟨t32, t127⟩)⟩ := htests
                  all_goals go_wp2
                  all_goals refine bodyPost_ret (v := pVal ([], [], false)) (by simp [results, Tryz.results51, go_sem, pVal]) rfl ⟨by rw [hres.out], ?_⟩
                  all_goals exact Gr.alloc _ _
                · have hdv' := Lib.hid hdv
                  clear hdv
                  have htests : ((d.toNat : Int) != 9) = false ∨ ((d.toNat : Int) != 9) = true ∧ 32 ≤ (d.toNat : Int) ∧ ((d.toNat : Int) == 127) = false := by
                    have := hdv'.out; rw [val_eq] at this
                    simp only [decide_eq_true_eq] at this
                    rcases this with h | ⟨h1, h2⟩
                    · exact .inl (by simp [h])
                    · exact .inr ⟨by rw [bne_iff_ne]; omega, h1, beq_eq_false_iff_ne.2 h2⟩
                  obtain t9 | ⟨t9, t32, t127⟩ := htests
                  all_goals go_wp2
                  all_goals
                    go_round
                    case rel => exact ⟨m + 1, by omega, by go_num, all_take_succ hvm'.out hml (by rw [hd2.out]; exact hdv'.out)⟩
                    case measure => simp [intOf]; omega
              · have hva := Lib.hid (show v.all isVal = true from by rw [← hvm'.out, List.take_of_length_le (by omega)])
                have hres := Lib.hid (show parseB l = (l.take k, trimB v, true) from by rw [hpa.out, ← hv'.out, hva.out]; rfl)
                have hx1 : (⟨l.toArray⟩ : ByteArray).extract 0 k = ⟨(l.take k).toArray⟩ := by rw [extract_mk]; simp
                have hx2 : (⟨l.toArray⟩ : ByteArray).extract (k + 1) l.length = ⟨v.toArray⟩ := by rw [extract_mk, hv'.out]; simp
                obtain ⟨x1, hx1'⟩ : ∃ x1, l.take k = x1 := ⟨_, rfl⟩
                have hx3 := Lib.hid hx1'
                rw [hx1'] at hx1
                clear hx1'
                go_wp2
                obtain ⟨W, hW⟩ : ∃ W, w.alloc (Obj.cells #[Value.string { data := #[] }, Value.string { data := #[] }] 45) = W := ⟨_, rfl⟩
                rw [hW]
                haveI : Nonempty (Later (Gr W)) := ⟨⟨W, Gr.refl W⟩⟩
                refine wp_region_later_tail (C := Gr W) 9 (by kernel_rfl) (by kernel_rfl) (Gr.drew' _) ?_
                simp only [List.take_succ_cons, List.take_zero, List.drop_succ_cons, List.drop_zero]
                repeat (go_big_quiet_step (exact bare_later (Gr W) v (by omega) _))
                refine wpQuiet_nil ?_
                intro w2 hg2
                obtain ⟨hce, hfr⟩ := hg2.bcell
                subst hW
                go_wp2
                refine bodyPost_ret (v := pVal (x1, trimB v, true)) (by simp [results, Tryz.results51, go_sem, pVal, hce]) rfl ⟨by rw [hres.out, hx3.out], ?_⟩
                exact (((Gr.alloc w _).trans hg2).setCell (Nat.le_refl _) _).setCell (Nat.le_refl _) _
          · have h58b : ((c.toNat : Int) != 58) = true := by rw [bne_iff_ne]; exact h58
            have hres := Lib.hid (parse_none hk hall'.out (.inr (.inr ⟨hlt, fun e => h58 (by rw [hc2.out] at e; rw [e]; rfl), by rw [hc2.out]; exact ht'.out⟩)) (fun h => by rw [hc2.out]; exact ht'.out))
            clear h58
            go_wp2_with (go_at_call 85; refine (tokens_any c _).mono ?_; rintro e w' ⟨rfl, rfl⟩; rw [ht'.out])
            refine bodyPost_ret (v := pVal ([], [], false)) (by simp [results, Tryz.results51, go_sem, pVal]) rfl ⟨by rw [hres.out], ?_⟩
            exact Gr.alloc _ _
      · go_wp2_with (go_at_call 85; refine (tokens_any c _).mono ?_; rintro e w' ⟨rfl, rfl⟩; rw [ht'.out])
        go_round
        case rel => exact ⟨k + 1, by omega, by go_num, all_take_succ hall'.out hlt (by rw [hc2.out]; exact ht'.out)⟩
        case measure => simp [intOf]; omega
    · have hkl : ((k : Int) == l.length) = true := by rw [beq_iff_eq]; omega
      have hres := Lib.hid (parse_none hk hall'.out (.inr (.inl (by omega))) (fun h => absurd h hlt))
      by_cases h0 : k = 0
      · subst h0
        go_wp2
        refine bodyPost_ret (v := pVal ([], [], false)) (by simp [results, Tryz.results51, go_sem, pVal]) rfl ⟨by rw [hres.out], ?_⟩
        exact Gr.alloc _ _
      · have hk0 : ((k : Int) == 0) = false := beq_eq_false_iff_ne.2 (by omega)
        go_wp2
        refine bodyPost_ret (v := pVal ([], [], false)) (by simp [results, Tryz.results51, go_sem, pVal]) rfl ⟨by rw [hres.out], ?_⟩
        exact Gr.alloc _ _
end Go.Proofs.YtpncfeaaffgkfaaGreatDoor
namespace Go.Proofs.YtpncfeaaffgkfaaGreatDoor
open Go.RowKit

/-- A slice value that holds these texts. -/
def StrsAt (w : World) (v : Value) (xs : List (List UInt8)) : Prop :=
  ∃ p cap, v = .slice p xs.length cap ∧ ∀ i, (hi : i < xs.length) → ∃ b off, p = some ⟨b, off, none⟩ ∧ w.cell? ⟨b, off + i, none⟩ = some (.string ⟨xs[i].toArray⟩)
theorem StrsAt.gr {w w' : World} {v : Value} {xs : List (List UInt8)} (h : StrsAt w v xs) (hb : Gr w w') : StrsAt w' v xs := by
  obtain ⟨p, cap, hv, hc⟩ := h
  exact ⟨p, cap, hv, fun i hi => let ⟨b, off, hp, h1⟩ := hc i hi; ⟨b, off, hp, hb.cell h1⟩⟩
def sv (x : List UInt8) : Value := .string ⟨x.toArray⟩
theorem strsAt_of_owns {w : World} {base : Nat} {e : TypeId} {v : Value} {xs : List (List UInt8)} (h : w.ownsRow base e 1 v xs.length (xs.map sv)) : StrsAt w v xs := by
  obtain ⟨h1, h2⟩ := h
  rcases h2 with ⟨rfl, h0⟩ | ⟨g, cap, cur, rfl, hb, hh, hn, hm, hcs, ht⟩
  · exact ⟨none, 0, by rw [h0], fun i hi => by omega⟩
  · refine ⟨_, cap, rfl, fun i hi => ⟨g, 0, rfl, ?_⟩⟩
    have : w.ownsRow base e 1 (.slice (some ⟨g, 0, none⟩) xs.length cap) xs.length (xs.map sv) := ⟨h1, .inr ⟨g, cap, cur, rfl, hb, hh, hn, hm, hcs, ht⟩⟩
    rw [Nat.zero_add, this.cellAt i (by omega)]
    simp [sv, hi]

def PartsPost (l : List UInt8) (w : World) (e : Ending) (w' : World) : Prop := ∃ v, e = .returned v ∧ StrsAt w' v (partsB l) ∧ Gr w w'
theorem infoStr : (Tryz.prog.info? 9).map (fun i => (i.zero, i.size, i.bytes)) = some (some (.string ⟨#[]⟩), 1, 16) := by kernel_rfl

/-- What the loop of Parts holds. -/
def PartsRel (l : List UInt8) (w : World) (v : Value) (k a : Nat) (wr : World) : Prop :=
  ∃ done, PartsAt l k a done ∧ wr.ownsRow w.heap.size 9 1 v (partsOf done).length ((partsOf done).map sv) ∧ Gr w wr

set_option maxHeartbeats 2000000 in
theorem rparts_any (l : List UInt8) (w : World) (hl : l.length ≤ 1000000000) : Calls Tryz.prog 88 #[.string ⟨l.toArray⟩] w (PartsPost l w) := by
  obtain ⟨i0, hi, hz0, hz1, hz2⟩ := info_parts infoStr
  go_enter Tryz.func88, Tryz.ntmps88
  go_wp2
  go_loopw [3, 4, 5, 6] (fun v at_ i _ wr => ∃ k a : Nat, k ≤ l.length + 1 ∧ a ≤ l.length + 1 ∧ i = .int .i64 k ∧ at_ = .int .i64 a ∧ PartsRel l w v k a wr) (fun _ _ i _ _ => l.length + 1 - (intOf i).toNat)
  case atStart => exact ⟨0, 0, Nat.zero_le _, Nat.zero_le _, rfl, rfl, [], PartsAt.begin l, World.ownsRow_nil _ _ _ _, Gr.refl _⟩
  case round =>
    obtain ⟨k, a, hk, ha, rfl, rfl, done, hpa, hown, hg⟩ := hrel
    have hpa' := Lib.hid hpa
    clear hpa
    by_cases hkl : k ≤ l.length
    · have hak : a ≤ k := by
        rcases hpa'.out with ⟨_, h, _⟩ | ⟨h, _⟩
        · exact h
        · omega
      have hown' := Lib.hid hown
      have hdl := Lib.hid (Nat.le_trans (partsOf_len done) hpa'.out.len)
      clear hown
      obtain ⟨x, hxd⟩ : ∃ x, (l.take k).drop a = x := ⟨_, rfl⟩
      have hx : (⟨l.toArray⟩ : ByteArray).extract a k = ⟨x.toArray⟩ := by rw [extract_mk, hxd]
      have hxl : x.length ≤ 9223372036854775807 := by rw [← hxd]; simp; omega
      have hpn := Lib.hid (show (k = l.length ∨ ∃ hk : k < l.length, l[k] = 44) → PartsAt l (k + 1) (k + 1) (done ++ [x]) from fun h => by rw [← hxd]; exact hpa'.out.piece hkl h)
      obtain ⟨y, hyd⟩ : ∃ y, trimB x = y := ⟨_, rfl⟩
      have hyd' := Lib.hid hyd
      have hbare := bare_any x
      rw [hyd] at hbare
      have hbare' := Lib.hid hbare
      clear hbare hyd hxd
      by_cases hc44 : k = l.length ∨ ∃ hk : k < l.length, l[k] = 44
      · have hpp := Lib.hid (hpn.out hc44)
        have htest : ((k : Int) == l.length) = true ∨ ((k : Int) == l.length) = false ∧ ∃ hk : k < l.length, (((((⟨l.toArray⟩ : ByteArray)[k]'(by rw [size_mk]; exact hk)).toNat : Nat) : Int) == 44) = true := by
          rcases hc44 with h | ⟨h, h2⟩
          · exact .inl (by rw [beq_iff_eq]; omega)
          · refine .inr ⟨beq_eq_false_iff_ne.2 (by omega), h, ?_⟩
            show ((l[k].toNat : Int) == 44) = true
            rw [h2]; rfl
        clear hc44 hpn
        by_cases hye : y = []
        · have e1 : y.isEmpty = true := by simp [hye]
          have hye' := Lib.hid hye
          clear hye
          rcases htest with t1 | ⟨t1, hk2, t2⟩
          all_goals go_wp2_with (go_at_call 86; refine (hbare'.out _ hxl).mono ?_; rintro e w' ⟨rfl, rfl⟩)
          all_goals
            go_roundw
            case rel => exact ⟨k + 1, k + 1, by omega, by omega, by go_num, by go_num, done ++ [x], hpp.out, by rw [partsOf_snoc_0 _ _ (hyd'.out.trans hye'.out)]; exact hown'.out, hg⟩
            case measure => simp [intOf]; omega
        · have e1 : y.isEmpty = false := by simp [hye]
          have hye' := Lib.hid hye
          clear hye
          have hlen := Lib.hid (show (partsOf done).length + 1 ≤ maxLen from by have := hdl.out; unfold maxLen; omega)
          have hby := Lib.hid (show ((partsOf done).length + 1) * 16 ≤ 140737488355328 from by have := hdl.out; omega)
          rcases htest with t1 | ⟨t1, hk2, t2⟩
          all_goals go_wp2_with (first | (go_at_call 86; refine (hbare'.out _ hxl).mono ?_; rintro e w' ⟨rfl, rfl⟩) | (at_builtin; refine wpList_append_own _ rfl _ _ 63 rfl w.heap.size 9 i0 (.string ⟨#[]⟩) 1 16 Tryz.underlying63 hi hz0 hz1 hz2 rfl (by decide) _ _ _ rfl (hown'.out.alloc _) ⟨wr.heap.size, 0, none⟩ 1 1 [.string ⟨y.toArray⟩] rfl rfl (cell_one_new _ _ _) (by simp [Value.oneCell']) (hlen.out) (hby.out) (by have := Below.size hg; simp; omega) ?_; intro v' w1 hown2 hgrow _))
          all_goals
            go_roundw
            case rel =>
              refine ⟨k + 1, k + 1, by omega, by omega, by go_num, by go_num, done ++ [x], hpp.out, ?_, Below.grown (hg.alloc1 _) hgrow (Below.size (hg.alloc1 _)) (fun k e => (hown'.out.lt k e).1)⟩
              rw [partsOf_snoc_s _ _ (by rw [hyd'.out]; exact hye'.out), hyd'.out, List.length_append, List.map_append]
              exact hown2
            case measure => simp [intOf]; omega
      · have htest : ((k : Int) == l.length) = false ∧ ∃ hk : k < l.length, (((((⟨l.toArray⟩ : ByteArray)[k]'(by rw [size_mk]; exact hk)).toNat : Nat) : Int) == 44) = false := by
          have h1 : k ≠ l.length := fun e => hc44 (.inl e)
          refine ⟨beq_eq_false_iff_ne.2 (by omega), by omega, beq_eq_false_iff_ne.2 (fun e => hc44 (.inr ⟨by omega, ?_⟩))⟩
          exact UInt8.toNat_inj.1 (by show l[k].toNat = 44; exact Int.ofNat.inj e)
        obtain ⟨t1, hk2, t2⟩ := htest
        have hps := Lib.hid (hpa'.out.skip hk2 (fun e => hc44 (.inr ⟨hk2, e⟩)))
        clear hc44 hpn
        go_wp2
        go_roundw
        case rel => exact ⟨k + 1, a, by omega, by omega, by go_num, rfl, done, hps.out, hown'.out, hg⟩
        case measure => simp [intOf]; omega
    · go_wp2
      go_ret
      exact ⟨_, rfl, by rw [hpa'.out.fin hkl]; exact strsAt_of_owns hown, hg⟩

set_option maxHeartbeats 1000000 in
theorem rhas_any (l word : List UInt8) (w : World) (hl : l.length ≤ 1000000000) (hw : word.length ≤ 9223372036854775807) :
    Calls Tryz.prog 54 #[.string ⟨l.toArray⟩, .string ⟨word.toArray⟩] w fun e w' => e = .returned (.bool (hasB l word)) ∧ Gr w w' := by
  go_enter Tryz.func54, Tryz.ntmps54
  go_wp2_with (go_at_call 88; refine (rparts_any l _ hl).mono ?_; rintro e w1 ⟨v, rfl, hstr, hg1⟩)
  obtain ⟨p, cap, rfl, hcell⟩ := hstr
  have hcell' := Lib.hid hcell
  clear hcell
  have hpl : (partsB l).length ≤ l.length + 1 := Nat.le_trans (partsOf_len _) (splitB_length 44 l)
  have hall : ∀ x ∈ partsB l, x.length ≤ 9223372036854775807 := fun x hx => by have := partsB_len l x hx; omega
  have hall' := Lib.hid hall
  have hres := Lib.hid (show hasB l word = (partsB l).any (fun p => alikeB p word) from rfl)
  obtain ⟨ps, hps⟩ : ∃ ps, partsB l = ps := ⟨_, rfl⟩
  rw [hps] at hcell' hall' hpl hres
  rw [hps]
  clear hall hps
  go_wp2
  go_loopw [4, 6] (fun _ i wr => (∃ k : Nat, k ≤ ps.length ∧ i = .int .i64 k ∧ (ps.take k).any (fun p => alikeB p word) = false) ∧ Gr w1 wr) (fun _ i _ => ps.length - (intOf i).toNat)
  case atStart => exact ⟨⟨0, Nat.zero_le _, rfl, rfl⟩, Gr.refl _⟩
  case round =>
    obtain ⟨⟨k, hk, rfl, hany⟩, hg⟩ := hrel
    have hany' := Lib.hid hany
    clear hany
    by_cases hlt : k < ps.length
    · obtain ⟨b, off, rfl, h1⟩ := hcell'.out k hlt
      have c1 := hg.cell h1
      clear h1
      obtain ⟨x, hx⟩ : ∃ x, ps[k] = x := ⟨_, rfl⟩
      have hmem : x ∈ ps := hx ▸ List.getElem_mem hlt
      have hts := Lib.hid (List.take_succ_eq_append_getElem hlt)
      rw [hx] at c1 hts
      clear hx
      cases ha : alikeB x word
      all_goals have ha' := Lib.hid ha
      all_goals clear ha
      all_goals go_wp2_with (go_at_call 52; refine (ralike_any x word _ (hall'.out x hmem) hw).mono ?_; rintro e w2 ⟨rfl, hb⟩; rw [ha'.out])
      · go_roundw
        case rel => exact ⟨⟨k + 1, by omega, by go_num, by rw [hts.out, List.any_append, hany'.out]; simp [ha'.out]⟩, hg.trans hb⟩
        case measure => simp [intOf]; omega
      · go_ret
        refine ⟨ret_bool ?_, (hg1.trans hg).trans hb⟩
        rw [hres.out]
        exact (List.any_eq_true.2 ⟨x, hmem, ha'.out⟩).symm
    · go_wp2
      go_ret
      refine ⟨ret_bool ?_, hg1.trans hg⟩
      rw [hres.out, ← hany'.out, List.take_of_length_le (by omega)]
end Go.Proofs.YtpncfeaaffgkfaaGreatDoor
