/-
  The reference's Parts and Has.
-/
import Derived.Test.YtheihlalgekojaaGreatDoorB
import Derived.Test.YtheihlalgekojaaGreatDoorP2
import Derived.Maps.AppendAt
namespace Go.Proofs.YtheihlalgekojaaGreatDoor
open Go.RowKit

/-- A slice value that holds these texts. -/
def StrsAt (w : World) (v : Value) (xs : List (List UInt8)) : Prop :=
  ∃ p cap, v = .slice p xs.length cap ∧ ∀ i, (hi : i < xs.length) → ∃ b off, p = some ⟨b, off, none⟩ ∧ w.cell? ⟨b, off + i, none⟩ = some (.string ⟨xs[i].toArray⟩)
theorem StrsAt.gr {w w' : World} {v : Value} {xs : List (List UInt8)} (h : StrsAt w v xs) (hb : Gr w w') : StrsAt w' v xs := by
  obtain ⟨p, cap, hv, hc⟩ := h
  exact ⟨p, cap, hv, fun i hi => let ⟨b, off, hp, h1⟩ := hc i hi; ⟨b, off, hp, hb.cell h1⟩⟩
def sv (x : List UInt8) : Value := .string ⟨x.toArray⟩
theorem strsAt_of_owns {w : World} {base : Nat} {e : TypeId} {v : Value} {xs : List (List UInt8)} (h : w.ownsRow base e 1 v xs.length (xs.map sv)) : StrsAt w v xs := by
  obtain ⟨h1, h2⟩ := h
  rcases h2 with ⟨rfl, h0⟩ | ⟨g, cap, cur, rfl, hb, hh, hn, hm, hcs, ht⟩
  · exact ⟨none, 0, by rw [h0], fun i hi => by omega⟩
  · refine ⟨_, cap, rfl, fun i hi => ⟨g, 0, rfl, ?_⟩⟩
    have : w.ownsRow base e 1 (.slice (some ⟨g, 0, none⟩) xs.length cap) xs.length (xs.map sv) := ⟨h1, .inr ⟨g, cap, cur, rfl, hb, hh, hn, hm, hcs, ht⟩⟩
    rw [Nat.zero_add, this.cellAt i (by omega)]
    simp [sv, hi]

def PartsPost (l : List UInt8) (w : World) (e : Ending) (w' : World) : Prop := ∃ v, e = .returned v ∧ StrsAt w' v (partsB l) ∧ Gr w w'
theorem infoStr : (Tryz.prog.info? 9).map (fun i => (i.zero, i.size, i.bytes)) = some (some (.string ⟨#[]⟩), 1, 16) := by kernel_rfl

/-- What the loop of Parts holds. -/
def PartsRel (l : List UInt8) (w : World) (v : Value) (k a : Nat) (wr : World) : Prop :=
  ∃ done, PartsAt l k a done ∧ wr.ownsRow w.heap.size 9 1 v (partsOf done).length ((partsOf done).map sv) ∧ Gr w wr

set_option maxHeartbeats 2000000 in
theorem rparts_any (l : List UInt8) (w : World) (hl : l.length ≤ 1000000000) : Calls Tryz.prog 45 #[.string ⟨l.toArray⟩] w (PartsPost l w) := by
  obtain ⟨i0, hi, hz0, hz1, hz2⟩ := info_parts infoStr
  go_enter Tryz.func45, Tryz.ntmps45
  go_wp2
  go_loopw [3, 4, 5, 6] (fun v at_ i _ wr => ∃ k a : Nat, k ≤ l.length + 1 ∧ a ≤ l.length + 1 ∧ i = .int .i64 k ∧ at_ = .int .i64 a ∧ PartsRel l w v k a wr) (fun _ _ i _ _ => l.length + 1 - (intOf i).toNat)
  case atStart => exact ⟨0, 0, Nat.zero_le _, Nat.zero_le _, rfl, rfl, [], PartsAt.begin l, World.ownsRow_nil _ _ _ _, Gr.refl _⟩
  case round =>
    obtain ⟨k, a, hk, ha, rfl, rfl, done, hpa, hown, hg⟩ := hrel
    have hpa' := Lib.hid hpa
    clear hpa
    by_cases hkl : k ≤ l.length
    · have hak : a ≤ k := by
        rcases hpa'.out with ⟨_, h, _⟩ | ⟨h, _⟩
        · exact h
        · omega
      have hown' := Lib.hid hown
      have hdl := Lib.hid (Nat.le_trans (partsOf_len done) hpa'.out.len)
      clear hown
      obtain ⟨x, hxd⟩ : ∃ x, (l.take k).drop a = x := ⟨_, rfl⟩
      have hx : (⟨l.toArray⟩ : ByteArray).extract a k = ⟨x.toArray⟩ := by rw [extract_mk, hxd]
      have hxl : x.length ≤ 9223372036854775807 := by rw [← hxd]; simp; omega
      have hpn := Lib.hid (show (k = l.length ∨ ∃ hk : k < l.length, l[k] = 44) → PartsAt l (k + 1) (k + 1) (done ++ [x]) from fun h => by rw [← hxd]; exact hpa'.out.piece hkl h)
      obtain ⟨y, hyd⟩ : ∃ y, trimB x = y := ⟨_, rfl⟩
      have hyd' := Lib.hid hyd
      have hbare := bare_any x
      rw [hyd] at hbare
      have hbare' := Lib.hid hbare
      clear hbare hyd hxd
      by_cases hc44 : k = l.length ∨ ∃ hk : k < l.length, l[k] = 44
      · have hpp := Lib.hid (hpn.out hc44)
        have htest : ((k : Int) == l.length) = true ∨ ((k : Int) == l.length) = false ∧ ∃ hk : k < l.length, (((((⟨l.toArray⟩ : ByteArray)[k]'(by rw [size_mk]; exact hk)).toNat : Nat) : Int) == 44) = true := by
          rcases hc44 with h | ⟨h, h2⟩
          · exact .inl (by rw [beq_iff_eq]; omega)
          · refine .inr ⟨beq_eq_false_iff_ne.2 (by omega), h, ?_⟩
            show ((l[k].toNat : Int) == 44) = true
            rw [h2]; rfl
        clear hc44 hpn
        by_cases hye : y = []
        · have e1 : y.isEmpty = true := by simp [hye]
          have hye' := Lib.hid hye
          clear hye
          rcases htest with t1 | ⟨t1, hk2, t2⟩
          all_goals go_wp2_with (go_at_call 60; refine (hbare'.out _ hxl).mono ?_; rintro e w' ⟨rfl, rfl⟩)
          all_goals
            go_roundw
            case rel => exact ⟨k + 1, k + 1, by omega, by omega, by go_num, by go_num, done ++ [x], hpp.out, by rw [partsOf_snoc_0 _ _ (hyd'.out.trans hye'.out)]; exact hown'.out, hg⟩
            case measure => simp [intOf]; omega
        · have e1 : y.isEmpty = false := by simp [hye]
          have hye' := Lib.hid hye
          clear hye
          have hlen := Lib.hid (show (partsOf done).length + 1 ≤ maxLen from by have := hdl.out; unfold maxLen; omega)
          have hby := Lib.hid (show ((partsOf done).length + 1) * 16 ≤ 140737488355328 from by have := hdl.out; omega)
          rcases htest with t1 | ⟨t1, hk2, t2⟩
          all_goals go_wp2_with (first | (go_at_call 60; refine (hbare'.out _ hxl).mono ?_; rintro e w' ⟨rfl, rfl⟩) | (at_builtin; refine wpList_append_own _ rfl _ _ 42 rfl w.heap.size 9 i0 (.string ⟨#[]⟩) 1 16 Tryz.underlying42 hi hz0 hz1 hz2 rfl (by decide) _ _ _ rfl (hown'.out.alloc _) ⟨wr.heap.size, 0, none⟩ 1 1 [.string ⟨y.toArray⟩] rfl rfl (cell_one_new _ _ _) (by simp [Value.oneCell']) (hlen.out) (hby.out) (by have := Below.size hg; simp; omega) ?_; intro v' w1 hown2 hgrow _))
          all_goals
            go_roundw
            case rel =>
              refine ⟨k + 1, k + 1, by omega, by omega, by go_num, by go_num, done ++ [x], hpp.out, ?_, Below.grown (hg.alloc1 _) hgrow (Below.size (hg.alloc1 _)) (fun k e => (hown'.out.lt k e).1)⟩
              rw [partsOf_snoc_s _ _ (by rw [hyd'.out]; exact hye'.out), hyd'.out, List.length_append, List.map_append]
              exact hown2
            case measure => simp [intOf]; omega
      · have htest : ((k : Int) == l.length) = false ∧ ∃ hk : k < l.length, (((((⟨l.toArray⟩ : ByteArray)[k]'(by rw [size_mk]; exact hk)).toNat : Nat) : Int) == 44) = false := by
          have h1 : k ≠ l.length := fun e => hc44 (.inl e)
          refine ⟨beq_eq_false_iff_ne.2 (by omega), by omega, beq_eq_false_iff_ne.2 (fun e => hc44 (.inr ⟨by omega, ?_⟩))⟩
          exact UInt8.toNat_inj.1 (by show l[k].toNat = 44; exact Int.ofNat.inj e)
        obtain ⟨t1, hk2, t2⟩ := htest
        have hps := Lib.hid (hpa'.out.skip hk2 (fun e => hc44 (.inr ⟨hk2, e⟩)))
        clear hc44 hpn
        go_wp2
        go_roundw
        case rel => exact ⟨k + 1, a, by omega, by omega, by go_num, rfl, done, hps.out, hown'.out, hg⟩
        case measure => simp [intOf]; omega
    · go_wp2
      go_ret
      exact ⟨_, rfl, by rw [hpa'.out.fin hkl]; exact strsAt_of_owns hown, hg⟩

set_option maxHeartbeats 1000000 in
theorem rhas_any (l word : List UInt8) (w : World) (hl : l.length ≤ 1000000000) (hw : word.length ≤ 9223372036854775807) :
    Calls Tryz.prog 30 #[.string ⟨l.toArray⟩, .string ⟨word.toArray⟩] w fun e w' => e = .returned (.bool (hasB l word)) ∧ Gr w w' := by
  go_enter Tryz.func30, Tryz.ntmps30
  go_wp2_with (go_at_call 45; refine (rparts_any l _ hl).mono ?_; rintro e w1 ⟨v, rfl, hstr, hg1⟩)
  obtain ⟨p, cap, rfl, hcell⟩ := hstr
  have hcell' := Lib.hid hcell
  clear hcell
  have hpl : (partsB l).length ≤ l.length + 1 := Nat.le_trans (partsOf_len _) (splitB_length 44 l)
  have hall : ∀ x ∈ partsB l, x.length ≤ 9223372036854775807 := fun x hx => by have := partsB_len l x hx; omega
  have hall' := Lib.hid hall
  have hres := Lib.hid (show hasB l word = (partsB l).any (fun p => alikeB p word) from rfl)
  obtain ⟨ps, hps⟩ : ∃ ps, partsB l = ps := ⟨_, rfl⟩
  rw [hps] at hcell' hall' hpl hres
  rw [hps]
  clear hall hps
  go_wp2
  go_loopw [4, 6] (fun _ i wr => (∃ k : Nat, k ≤ ps.length ∧ i = .int .i64 k ∧ (ps.take k).any (fun p => alikeB p word) = false) ∧ Gr w1 wr) (fun _ i _ => ps.length - (intOf i).toNat)
  case atStart => exact ⟨⟨0, Nat.zero_le _, rfl, rfl⟩, Gr.refl _⟩
  case round =>
    obtain ⟨⟨k, hk, rfl, hany⟩, hg⟩ := hrel
    have hany' := Lib.hid hany
    clear hany
    by_cases hlt : k < ps.length
    · obtain ⟨b, off, rfl, h1⟩ := hcell'.out k hlt
      have c1 := hg.cell h1
      clear h1
      obtain ⟨x, hx⟩ : ∃ x, ps[k] = x := ⟨_, rfl⟩
      have hmem : x ∈ ps := hx ▸ List.getElem_mem hlt
      have hts := Lib.hid (List.take_succ_eq_append_getElem hlt)
      rw [hx] at c1 hts
      clear hx
      cases ha : alikeB x word
      all_goals have ha' := Lib.hid ha
      all_goals clear ha
      all_goals go_wp2_with (go_at_call 29; refine (ralike_any x word _ (hall'.out x hmem) hw).mono ?_; rintro e w2 ⟨rfl, hb⟩; rw [ha'.out])
      · go_roundw
        case rel => exact ⟨⟨k + 1, by omega, by go_num, by rw [hts.out, List.any_append, hany'.out]; simp [ha'.out]⟩, hg.trans hb⟩
        case measure => simp [intOf]; omega
      · go_ret
        refine ⟨ret_bool ?_, (hg1.trans hg).trans hb⟩
        rw [hres.out]
        exact (List.any_eq_true.2 ⟨x, hmem, ha'.out⟩).symm
    · go_wp2
      go_ret
      refine ⟨ret_bool ?_, hg1.trans hg⟩
      rw [hres.out, ← hany'.out, List.take_of_length_le (by omega)]
end Go.Proofs.YtheihlalgekojaaGreatDoor
