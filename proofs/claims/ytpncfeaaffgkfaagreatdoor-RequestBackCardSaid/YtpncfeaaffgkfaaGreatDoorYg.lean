/-
  Requests: the walk over heads.
-/
import Derived.Test.YtpncfeaaffgkfaaGreatDoorYf
import Derived.Test.YtpncfeaaffgkfaaGreatDoorP41
namespace Go.Proofs.YtpncfeaaffgkfaaGreatDoor
open Go.RowKit
attribute [local go_sem] Oper.semAt_some

theorem PsPost.next {B : Nat} {T T1 : Nat → Prop} {W W1 W2 : World} {p1 p2 : Ps} {fv1 cv1 : Value} (h1 : PsAt B T1 W1 p1 fv1 cv1) (h2 : Ch T W W1) (h3 : (∀ k, T1 k → T k ∨ W.heap.size ≤ k) ∧ ∀ a n c, fv1 = .slice (some a) n c → (∃ n0 c0, W.cell? ⟨B, 7, none⟩ = some (.slice (some a) n0 c0)) ∨ W.heap.size ≤ a.block) (k : PsPost B T1 W1 p2 W2) : PsPost B T W p2 W2 := by
  obtain ⟨T2, fv2, cv2, k1, k2, k3, k4⟩ := k
  obtain ⟨h3, h4⟩ := h3
  have hs := h2.size
  refine ⟨T2, fv2, cv2, k1, ?_, fun j hj => ?_, fun a n c e => (k4 a n c e).elim (fun ⟨n0, c0, e2⟩ => h4 a n0 c0 (Option.some.inj (h1.c7.symm.trans e2))) (fun e => .inr (by omega))⟩
  · refine ⟨k2.os.trans h2.os, k2.tape.trans h2.tape, k2.output.trans h2.output, Nat.le_trans h2.size k2.size, fun j hj hn => ?_⟩
    have : ¬ T1 j := fun e => (h3 j e).elim hn (by omega)
    exact (k2.block j (by omega) this).trans (h2.block j hj hn)
  · rcases k3 j hj with e | e
    · exact h3 j e
    · exact .inr (by omega)
theorem readsP_inp (p : Ps) (ls : List (List UInt8)) : (readsP p ls).inp = p.inp ∧ (readsP p ls).und = p.und := by
  unfold readsP
  cases headQ ls <;> exact ⟨rfl, rfl⟩
set_option maxHeartbeats 8000000 in
set_option maxRecDepth 100000 in
theorem heads_any (B : Nat) (T : Nat → Prop) (p : Ps) (fv cv : Value) (w : World) (hG : G w) (h : PsAt B T w p fv cv) (hl : p.inp.length ≤ 90000) (hu : p.und.length ≤ 90000) :
    Calls Tryz.prog 25 #[.pointer (some ⟨B, 0, none⟩)] w fun e w' => e = .returned (.tuple #[]) ∧ PsPost B T w (headsQ p) w' := by
  have hG' := Lib.hid hG
  have h' := Lib.hid h
  have c0 := h.c0
  have c12 := h.c12
  have fz := h.fz
  have hix := Lib.hid (index_any p.inp eol2 w hG (by omega))
  by_cases h0 : 0 ≤ Lib.index p.inp eol2
  · have hroom := index_le h0
    obtain ⟨k, hk⟩ : ∃ k : Nat, Lib.index p.inp eol2 = k := ⟨_, (Int.toNat_of_nonneg h0).symm⟩
    rw [hk, Int.toNat_natCast] at hroom
    rw [hk] at hix
    by_cases h4 : k + 4 ≤ 2048
    · obtain ⟨x, hx⟩ : ∃ x, p.inp.take k = x := ⟨_, rfl⟩
      have hxl : x.length ≤ 100000 := by rw [← hx, List.length_take]; omega
      have hex : (⟨p.inp.toArray⟩ : ByteArray).extract 0 k = ⟨x.toArray⟩ := by rw [extract_mk, hx]; rfl
      have hqa : headsQ p = if readsN (splitE x) = 0 then takesQ { readsP p (splitE x) with bad := readsN (splitE x), head := true } (k + 4) else { readsP p (splitE x) with bad := readsN (splitE x) } := by
        unfold headsQ
        rw [hk, if_pos (by simp; omega), Int.toNat_natCast, hx, readsQ_eq]
      obtain ⟨i1, i2⟩ := readsP_inp p (splitE x)
      have hrd := Lib.hid (reads_any B T p fv cv x w hG h hxl)
      unfold ReadsPost at hrd
      obtain ⟨n, hn⟩ : ∃ n, readsN (splitE x) = n := ⟨_, rfl⟩
      obtain ⟨p2, hp2⟩ : ∃ p2, readsP p (splitE x) = p2 := ⟨_, rfl⟩
      rw [hn, hp2] at hqa hrd
      rw [hp2] at i1 i2
      have hq := Lib.hid hqa
      have i1' := Lib.hid i1
      have i2' := Lib.hid i2
      have h4I : (k : Int) + 4 ≤ 2048 := by omega
      have hkI : (k : Int) ≤ p.inp.length := by omega
      clear hx hqa i1 i2 hn hp2 hk h0 h
      go_enter Tryz.func25, Tryz.ntmps25
      go_wp2_with fail
      refine hix.out.mono ?_
      rintro e w1 ⟨rfl, rfl⟩
      go_wp2_with fail
      refine hrd.out.mono ?_
      rintro e w2 ⟨rfl, T2, fv2, cv2, hP, hC, hS⟩
      have hP' := Lib.hid hP
      have hC' := Lib.hid hC
      have hS' := Lib.hid hS
      replace c12 := hP.c12
      replace fz := hP.fz
      have c2 := hP.c2
      clear c0 hP hC hS hix hrd hex
      by_cases hn0 : n = 0
      · subst hn0
        rw [show ((0 : Nat) : Int) = 0 from rfl]
        have hP3 := Lib.hid (show PsAt B T2 ((w2.setCell ⟨B, 12, none⟩ (.int .i64 0)).setCell ⟨B, 2, none⟩ (.bool true)) { p2 with bad := 0, head := true } fv2 cv2 from (hP'.out.sbad 0).shead true)
        have htk := Lib.hid (takes_any B T2 { p2 with bad := 0, head := true } fv2 cv2 (k + 4) _ hP3.out (by show k + 4 ≤ p2.inp.length; rw [i1'.out]; exact hroom) (by show p2.inp.length + p2.und.length ≤ _; rw [i1'.out, i2'.out]; omega))
        rw [show ((k + 4 : Nat) : Int) = (k : Int) + 4 by omega] at htk
        go_wp2_with fail
        refine htk.out.mono ?_
        rintro e w3 ⟨rfl, hp3⟩
        have hp3' := Lib.hid hp3
        clear hp3 htk
        go_wp2
        refine bodyPost_ret (v := .tuple #[]) (by simp [results, Tryz.results25, go_sem]) rfl ⟨rfl, ?_⟩
        rw [hq.out]; simp only [if_true]
        exact PsPost.next hP'.out hC'.out hS'.out (PsPost.next hP3.out ((hP'.out.chT _).trans (Ch.setCell _ (a := ⟨B, 2, none⟩) hP'.out.tb _)) ⟨fun _ hk => .inl hk, fun a n c e => .inl ⟨n, c, e ▸ hP'.out.c7⟩⟩ hp3'.out)
      · have hnb : ((n : Int) == 0) = false := beq_eq_false_iff_ne.2 (by omega)
        have hfin := Lib.hid (show PsPost B T w1 (headsQ p) (w2.setCell ⟨B, 12, none⟩ (.int .i64 n)) by
          rw [hq.out, if_neg hn0]
          exact PsPost.next hP'.out hC'.out hS'.out (PsPost.put1 hP'.out _ (hP'.out.sbad n)))
        clear hn0
        go_wp2
        exact bodyPost_ret (v := .tuple #[]) (by simp [results, Tryz.results25, go_sem]) rfl ⟨rfl, hfin.out⟩
    · have hqa : headsQ p = if 2048 ≤ p.inp.length then { p with bad := 431 } else p := by
        unfold headsQ
        rw [hk, if_neg (by simp; omega)]
      have hlong : 2048 ≤ p.inp.length := by omega
      rw [if_pos hlong] at hqa
      have hq := Lib.hid hqa
      have h4I : ¬ (k : Int) + 4 ≤ 2048 := by omega
      have hlI : (2048 : Int) ≤ p.inp.length := by omega
      clear hqa hk h0 h h4
      go_enter Tryz.func25, Tryz.ntmps25
      go_wp2_with fail
      refine hix.out.mono ?_
      rintro e w1 ⟨rfl, rfl⟩
      go_wp2
      go_end0
      exact ⟨rfl, by rw [hq.out]; exact PsPost.put1 h'.out _ (h'.out.sbad 431)⟩
  · have hm : Lib.index p.inp eol2 = -1 := by
      rcases Lib.index_spec p.inp eol2 with ⟨e, _⟩ | ⟨i, e, _⟩
      · exact e
      · omega
    have hqa : headsQ p = if 2048 ≤ p.inp.length then { p with bad := 431 } else p := by
      unfold headsQ
      rw [hm, if_neg (by decide)]
    rw [hm] at hix
    by_cases hlong : 2048 ≤ p.inp.length
    · rw [if_pos hlong] at hqa
      have hq := Lib.hid hqa
      have hlI : (2048 : Int) ≤ p.inp.length := by omega
      clear hqa hm h0 h
      go_enter Tryz.func25, Tryz.ntmps25
      go_wp2_with fail
      refine hix.out.mono ?_
      rintro e w1 ⟨rfl, rfl⟩
      go_wp2
      go_end0
      exact ⟨rfl, by rw [hq.out]; exact PsPost.put1 h'.out _ (h'.out.sbad 431)⟩
    · rw [if_neg hlong] at hqa
      have hq := Lib.hid hqa
      have hlI : ¬ (2048 : Int) ≤ p.inp.length := by omega
      clear hqa hm h0 h
      go_enter Tryz.func25, Tryz.ntmps25
      go_wp2_with fail
      refine hix.out.mono ?_
      rintro e w1 ⟨rfl, rfl⟩
      go_wp2
      go_end0
      exact ⟨rfl, by rw [hq.out]; exact PsPost.of_gr h'.out (Gr.refl _)⟩
end Go.Proofs.YtpncfeaaffgkfaaGreatDoor
