/-
  Replies: the walk over ReplyBack.
-/
import Derived.Test.YtfcokldbpjkjpaaGreatDoorWb
import Derived.IntWalk
namespace Go.Proofs.YtfcokldbpjkjpaaGreatDoor
open Go.RowKit
attribute [local go_sem] Oper.semAt_some

theorem fl_gsum : ∀ (fs : List (List UInt8 × List UInt8)), (∀ f ∈ fs, f.1.length ≤ 70000 ∧ f.2.length ≤ 70000) → (fs.flatMap fline).length ≤ gsum fs + 4 * fs.length
  | [], _ => by simp [gsum]
  | f :: t, h => by
    have := fl_gsum t (fun x hx => h x (by simp [hx]))
    have h1 := h f (by simp)
    simp only [List.flatMap_cons, List.length_append, gsum, List.length_cons]
    have e : (fline f).length = f.1.length + f.2.length + 4 := by simp [fline, eolL]; omega
    omega
theorem head_len {r : Rp} (close : Bool) (h : Small10 r) (hc : 0 ≤ r.code ∧ r.code ≤ 9223372036854775807) : (headR r close).length ≤ 71000 := by
  rw [head_eq]
  have h1 := fl_gsum r.fs h.texts
  have h2 := h.1
  have h3 := h.2.1
  have h4 := h.2.2
  have h5 := Lib.itoa_length_le r.code (by omega) (by omega)
  have h6 := Lib.itoa_length_le r.b.length (by omega) (by omega)
  have h7 := reason_len r.code
  have e1 : (line1 r.code).length ≤ 100 := by simp [line1, aheadL, eolL]; omega
  have e2 : (lineN r).length ≤ 100 := by
    unfold lineN
    split
    · simp
    · simp [kLen, eolL]; omega
  have e3 : (lineC close).length ≤ 100 := by cases close <;> decide
  simp only [List.length_append]
  have e4 : eolL.length = 2 := rfl
  omega
theorem bytes_open {r : Rp} {head close : Bool} : (bytesR r head close = none ∧ (rightR r = false ∨ (rightR r = true ∧ close = true ∧ r.code = 101))) ∨
    (rightR r = true ∧ (close && r.code == 101) = false ∧ bytesR r head close = some (headR r close ++ if head then [] else r.b)) := by
  unfold bytesR
  cases hR : rightR r
  · left; exact ⟨rfl, .inl rfl⟩
  · cases hc : (close && r.code == 101)
    · right; exact ⟨rfl, rfl, rfl⟩
    · left
      simp only [Bool.and_eq_true, beq_iff_eq] at hc
      exact ⟨rfl, .inr ⟨rfl, hc.1, hc.2⟩⟩
theorem small_of {r : Rp} (h : Small10 r ∨ 65536 < r.b.length) (hR : rightR r = true) : Small10 r := by
  rcases h with h | h
  · exact h
  · rw [right_long h] at hR; cases hR
set_option maxHeartbeats 16000000 in
set_option maxRecDepth 100000 in
theorem back10_any (r : Rp) (t : Value) (head close : Bool) (bh : List UInt8) (cut : Int) (w : World) (hG : G w) (hf : FieldsAt w t r.fs) (hlf : r.fs.length ≤ 9223372036854775807) (hlb : r.b.length ≤ 9223372036854775807) (hls : ∀ f ∈ r.fs, f.1.length ≤ 9223372036854775807 ∧ f.2.length ≤ 9223372036854775807) (hcr : -9223372036854775808 ≤ r.code ∧ r.code ≤ 9223372036854775807)
    (hbh : bh.length ≤ 9223372036854775807) (hcut : 0 ≤ cut ∧ cut ≤ 4294967295) :
    Calls Tryz.prog 6 #[r.V t, .bool head, .bool close, .string ⟨bh.toArray⟩, .int .u32 cut] w fun e w' => e = .returned (.bool true) ∧ Gr w w' := by
  have hG' := Lib.hid hG
  have hgt := Lib.hid (fun W (hg : Gr w W) => great11_any r t W (hf.gr hg) hlf hlb hls)
  have hby := Lib.hid (fun W (hg : Gr w W) hs => bytes_of r t head close W (hG.gr hg) (hf.gr hg) hs hlb hcr)
  have hri := Lib.hid (fun W (hg : Gr w W) hs => right_of r t W (hG.gr hg) (hf.gr hg) hs hlb)
  have hopen := Lib.hid (@bytes_open r head close)
  have hbk := Lib.hid (fun h1 h2 => @read_back r head close h1 h2 bh)
  have hct := Lib.hid (fun h1 h2 k hk => @read_cut r head close h1 h2 k hk)
  have hsm := Lib.hid (fun h1 h2 => @small_of r h1 h2)
  have hhl := Lib.hid (fun h1 h2 => @head_len r close h1 h2)
  have hro := Lib.hid (fun h => @rightR_open r h)
  have hlen4 := headR_len r close
  have hfw := Lib.hid hf
  clear hls hcr hG
  obtain ⟨p, cap, rfl, _⟩ := hf
  obtain ⟨c, fs, b⟩ := r
  unfold Rp.V at *
  dsimp only at hgt hby hri hopen hbk hct hsm hhl hro hlf hlb hfw hlen4 ⊢
  have g0 := Lib.hid (Gr.alloc w (.cells #[.int .i64 c, .slice p fs.length cap, .string ⟨b.toArray⟩] 24))
  have n0 : (w.alloc (.cells #[.int .i64 c, .slice p fs.length cap, .string ⟨b.toArray⟩] 24)).cell? ⟨w.heap.size, 0, none⟩ = some (.int .i64 c) := by simp [go_sem]
  have n1 : (w.alloc (.cells #[.int .i64 c, .slice p fs.length cap, .string ⟨b.toArray⟩] 24)).cell? ⟨w.heap.size, 1, none⟩ = some (.slice p fs.length cap) := by simp [go_sem]
  have n2 : (w.alloc (.cells #[.int .i64 c, .slice p fs.length cap, .string ⟨b.toArray⟩] 24)).cell? ⟨w.heap.size, 2, none⟩ = some (.string ⟨b.toArray⟩) := by simp [go_sem]
  go_enter Tryz.func6, Tryz.ntmps6
  go_upto_region 1 with (fail)
  generalize (w.alloc (.cells #[.int .i64 c, .slice p fs.length cap, .string ⟨b.toArray⟩] 24)) = w1 at g0 n0 n1 n2 ⊢
  go_wp2_with fail
  refine (awake10_any _ (hG'.out.gr g0.out)).mono ?_
  rintro e w2 ⟨rfl, hb⟩
  replace n0 := hb.cell n0
  replace n1 := hb.cell n1
  replace n2 := hb.cell n2
  have g2 := Lib.hid (g0.out.trans hb)
  clear hb
  go_wp2_with fail
  refine (hgt.out _ g2.out).mono ?_
  rintro e w3 ⟨q, rfl, hq, hb⟩
  replace n0 := hb.cell n0
  replace n1 := hb.cell n1
  replace n2 := hb.cell n2
  have g3 := Lib.hid (g2.out.trans hb)
  have hq' := Lib.hid hq
  clear hb hq
  cases q with
  | true =>
    go_wp2
    go_ret
    exact ⟨rfl, g3.out⟩
  | false =>
    have hs := Lib.hid (hq'.out rfl)
    clear hq'
    by_cases hbI : (300 : Int) < bh.length
    · go_wp2
      go_ret
      exact ⟨rfl, g3.out⟩
    · go_wp2_with fail
      refine (hby.out _ g3.out hs.out).mono ?_
      rintro e w4 ⟨rfl, hb⟩
      replace n0 := hb.cell n0
      replace n1 := hb.cell n1
      replace n2 := hb.cell n2
      have g4 := Lib.hid (g3.out.trans hb)
      clear hb
      rcases hopen.out with ⟨e9, hw9⟩ | ⟨hR, hc9, e9⟩
      · rw [e9]
        unfold byteV
        dsimp only
        clear e9
        rcases hw9 with hR | ⟨hR, rfl, rfl⟩
        · rw [hR] at hri
          go_wp2_with fail
          refine (hri.out _ g4.out hs.out).mono ?_
          rintro e w5 ⟨rfl, hb⟩
          have g5 := Lib.hid (g4.out.trans hb)
          replace n0 := hb.cell n0
          clear hb hR
          go_wp2
          go_ret
          exact ⟨rfl, g5.out⟩
        · rw [hR] at hri
          go_wp2_with fail
          refine (hri.out _ g4.out hs.out).mono ?_
          rintro e w5 ⟨rfl, hb⟩
          have g5 := Lib.hid (g4.out.trans hb)
          replace n0 := hb.cell n0
          clear hb hR
          go_wp2
          go_ret
          exact ⟨rfl, g5.out⟩
      · rw [e9]
        have hsmall := hsm.out hs.out hR
        obtain ⟨cn, hcn, hc1, hc2, _, hb6, _⟩ := hro.out hR
        have hlh := hhl.out hsmall ⟨by show (0 : Int) ≤ c; omega, by show c ≤ 9223372036854775807; omega⟩
        have hrd := hbk.out hR hc9
        have hcut9 := Lib.hid (fun k hk => hct.out hR hc9 k hk)
        obtain ⟨hd, hhd⟩ : ∃ h, headR ⟨c, fs, b⟩ close = h := ⟨_, rfl⟩
        rw [hhd] at hlh hrd hcut9 hlen4 ⊢
        obtain ⟨bd, hbd, hbdw⟩ : ∃ x : List UInt8, (if head = true then [] else b) = x ∧ ((head = true ∧ x = []) ∨ (head = false ∧ x = b)) := by
          cases head
          · exact ⟨b, rfl, .inr ⟨rfl, rfl⟩⟩
          · exact ⟨[], rfl, .inl ⟨rfl, rfl⟩⟩
        rw [hbd] at hrd hcut9 ⊢
        have hbl : bd.length ≤ 65536 := by
          rcases hbdw with ⟨_, e⟩ | ⟨_, e⟩
          · rw [e]; simp
          · rw [e]; exact hb6
        obtain ⟨s, hsd⟩ : ∃ s, hd ++ bd = s := ⟨_, rfl⟩
        have hsl : s.length ≤ 140000 ∧ 4 ≤ s.length := by rw [← hsd, List.length_append]; omega
        rw [hsd] at hrd hcut9 ⊢
        clear hsmall hcn hc1 hc2 hb6 hlh hhd hbd hsd hR hc9 e9 hlen4 hbl
        unfold byteV
        dsimp only
        have hrdc := Lib.hid (fun W (hg : Gr w W) => read_is (s ++ bh) head _ hrd W (hG'.out.gr hg) (by rw [List.length_append]; omega))
        have hcat : (⟨s.toArray⟩ : ByteArray) ++ ⟨bh.toArray⟩ = ⟨(s ++ bh).toArray⟩ := cat_mk s bh
        have hcl : ¬ 9223372036854775807 < s.length + bh.length := by omega
        clear hrd
        rcases hbdw with ⟨rfl, rfl⟩ | ⟨rfl, rfl⟩
        · have hne1 : ∀ o, (⟨w4.heap.size, o, none⟩ : Addr).block = w4.heap.size := fun _ => rfl
          have a0 : (w4.alloc (.cells #[.int .i64 c, .slice p fs.length cap, .string ⟨#[]⟩] 24)).cell? ⟨w4.heap.size, 0, none⟩ = some (.int .i64 c) := by simp [go_sem]
          have a1 : (w4.alloc (.cells #[.int .i64 c, .slice p fs.length cap, .string ⟨#[]⟩] 24)).cell? ⟨w4.heap.size, 1, none⟩ = some (.slice p fs.length cap) := by simp [go_sem]
          have a2 : (w4.alloc (.cells #[.int .i64 c, .slice p fs.length cap, .string ⟨#[]⟩] 24)).cell? ⟨w4.heap.size, 2, none⟩ = some (.string ⟨#[]⟩) := by simp [go_sem]
          have gw : Gr w4 (w4.alloc (.cells #[.int .i64 c, .slice p fs.length cap, .string ⟨#[]⟩] 24)) := (Gr.alloc w4 _)
          clear hne1
          go_upto_region 11 with (fail)
          generalize (w4.alloc (.cells #[.int .i64 c, .slice p fs.length cap, .string ⟨#[]⟩] 24)) = w5 at a0 a1 a2 gw ⊢
          have g5 := Lib.hid (g4.out.trans gw)
          clear gw
          go_wp2_with fail
          refine (hrdc.out _ g5.out).mono ?_
          rintro e w6 ⟨v, rfl, hF, hb⟩
          replace a0 := hb.cell a0
          replace a1 := hb.cell a1
          replace a2 := hb.cell a2
          have g6 := Lib.hid (g5.out.trans hb)
          have hF6 := Lib.hid (show FieldsAt w6 v fs from hF)
          obtain ⟨pv, cv, rfl, _⟩ := (show FieldsAt w6 v fs from hF)
          clear hb hF hcat hcl
          unfold rdV Rp.V
          dsimp only [rdR, rdC, rdN, rdE]
          have gq := Gr.alloc w6 (.cells #[.int .i64 c, .slice pv fs.length cv, .string ⟨#[]⟩] 24)
          have b0 : (w6.alloc (.cells #[.int .i64 c, .slice pv fs.length cv, .string ⟨#[]⟩] 24)).cell? ⟨w6.heap.size, 0, none⟩ = some (.int .i64 c) := by simp [go_sem]
          have b1 : (w6.alloc (.cells #[.int .i64 c, .slice pv fs.length cv, .string ⟨#[]⟩] 24)).cell? ⟨w6.heap.size, 1, none⟩ = some (.slice pv fs.length cv) := by simp [go_sem]
          have b2 : (w6.alloc (.cells #[.int .i64 c, .slice pv fs.length cv, .string ⟨#[]⟩] 24)).cell? ⟨w6.heap.size, 2, none⟩ = some (.string ⟨#[]⟩) := by simp [go_sem]
          go_upto_region 12 with (fail)
          generalize (w6.alloc (.cells #[.int .i64 c, .slice pv fs.length cv, .string ⟨#[]⟩] 24)) = w7 at gq b0 b1 b2 ⊢
          replace a0 := gq.cell a0
          replace a1 := gq.cell a1
          replace a2 := gq.cell a2
          have g7 := Lib.hid (g6.out.trans gq)
          have hF7 := Lib.hid (hF6.out.gr gq)
          clear gq
          have hsame := Lib.hid (fun W (hg : Gr w7 W) => (show Calls Tryz.prog 20 #[.agg #[.int .i64 c, .slice pv fs.length cv, .string ⟨#[]⟩], .agg #[.int .i64 c, .slice p fs.length cap, .string ⟨#[]⟩]] W fun e w' => e = .returned (.bool true) ∧ Gr W w' from
            same_is ⟨c, fs, []⟩ ⟨c, fs, []⟩ true (sameB_refl _) _ _ W (hF7.out.gr hg) (hfw.out.gr (g7.out.trans hg)) hlf hlf))
          have hse : s.isEmpty = false := by
            cases s with
            | nil => simp at hsl
            | cons _ _ => rfl
          go_wp2_with fail
          refine (hsame.out _ (Gr.refl _)).mono ?_
          rintro e w8 ⟨rfl, hb⟩
          have g8 := Lib.hid (g7.out.trans hb)
          clear hb a0 a1 a2 b0 b1 b2 hsame
          obtain ⟨K, hK, hKs⟩ : ∃ K : Nat, cut.tmod (s.length : Int) = K ∧ K < s.length := by
            refine ⟨cut.toNat % s.length, ?_, Nat.mod_lt _ (by omega)⟩
            rw [Int.tmod_eq_emod_of_nonneg hcut.1, Int.natCast_emod, Int.toNat_of_nonneg hcut.1]
          have hKI : (K : Int) ≤ s.length := by omega
          have hz0 : ((s.length : Int) == 0) = false := beq_eq_false_iff_ne.2 (by omega)
          have hlow : cut ≤ 9223372036854775807 := by omega
          have hex : (⟨s.toArray⟩ : ByteArray).extract 0 K = ⟨(s.take K).toArray⟩ := by rw [extract_mk]; simp
          rcases hcut9.out K hKs with hbad | ⟨h65, hbad⟩
          · skip
            have hrd2 := Lib.hid (fun W (hg : Gr w W) => read_is (s.take K) true _ hbad W (hG'.out.gr hg) (by rw [List.length_take]; omega))
            clear hbad
            go_wp2_with fail
            refine (hrd2.out _ g8.out).mono ?_
            rintro e w9 ⟨v, rfl, hF, hb⟩
            have g9 := Lib.hid (g8.out.trans hb)
            obtain ⟨pv9, cv9, rfl, _⟩ := (show FieldsAt w9 v [] from hF)
            clear hb hF
            unfold rdV Rp.V
            dsimp only [rdR, rdC, rdN, rdE]
            go_wp2
            go_ret
            exact ⟨rfl, g9.out.trans (Gr.alloc _ _)⟩
          · skip
            have hrd2 := Lib.hid (fun W (hg : Gr w W) => read_is (s.take K) true _ hbad W (hG'.out.gr hg) (by rw [List.length_take]; omega))
            clear hbad
            have h65I : (65536 : Int) ≤ K := by omega
            clear h65
            go_wp2_with fail
            refine (hrd2.out _ g8.out).mono ?_
            rintro e w9 ⟨v, rfl, hF, hb⟩
            have g9 := Lib.hid (g8.out.trans hb)
            obtain ⟨pv9, cv9, rfl, _⟩ := (show FieldsAt w9 v [] from hF)
            clear hb hF
            unfold rdV Rp.V
            dsimp only [rdR, rdC, rdN, rdE]
            go_wp2
            go_ret
            exact ⟨rfl, g9.out.trans (Gr.alloc _ _)⟩
        · have hne1 : ∀ o, (⟨w4.heap.size, o, none⟩ : Addr).block = w4.heap.size := fun _ => rfl
          have a0 : (w4.alloc (.cells #[.int .i64 c, .slice p fs.length cap, .string ⟨bd.toArray⟩] 24)).cell? ⟨w4.heap.size, 0, none⟩ = some (.int .i64 c) := by simp [go_sem]
          have a1 : (w4.alloc (.cells #[.int .i64 c, .slice p fs.length cap, .string ⟨bd.toArray⟩] 24)).cell? ⟨w4.heap.size, 1, none⟩ = some (.slice p fs.length cap) := by simp [go_sem]
          have a2 : (w4.alloc (.cells #[.int .i64 c, .slice p fs.length cap, .string ⟨bd.toArray⟩] 24)).cell? ⟨w4.heap.size, 2, none⟩ = some (.string ⟨bd.toArray⟩) := by simp [go_sem]
          have gw : Gr w4 (w4.alloc (.cells #[.int .i64 c, .slice p fs.length cap, .string ⟨bd.toArray⟩] 24)) := (Gr.alloc w4 _)
          clear hne1
          go_upto_region 11 with (fail)
          generalize (w4.alloc (.cells #[.int .i64 c, .slice p fs.length cap, .string ⟨bd.toArray⟩] 24)) = w5 at a0 a1 a2 gw ⊢
          have g5 := Lib.hid (g4.out.trans gw)
          clear gw
          go_wp2_with fail
          refine (hrdc.out _ g5.out).mono ?_
          rintro e w6 ⟨v, rfl, hF, hb⟩
          replace a0 := hb.cell a0
          replace a1 := hb.cell a1
          replace a2 := hb.cell a2
          have g6 := Lib.hid (g5.out.trans hb)
          have hF6 := Lib.hid (show FieldsAt w6 v fs from hF)
          obtain ⟨pv, cv, rfl, _⟩ := (show FieldsAt w6 v fs from hF)
          clear hb hF hcat hcl
          unfold rdV Rp.V
          dsimp only [rdR, rdC, rdN, rdE]
          have gq := Gr.alloc w6 (.cells #[.int .i64 c, .slice pv fs.length cv, .string ⟨bd.toArray⟩] 24)
          have b0 : (w6.alloc (.cells #[.int .i64 c, .slice pv fs.length cv, .string ⟨bd.toArray⟩] 24)).cell? ⟨w6.heap.size, 0, none⟩ = some (.int .i64 c) := by simp [go_sem]
          have b1 : (w6.alloc (.cells #[.int .i64 c, .slice pv fs.length cv, .string ⟨bd.toArray⟩] 24)).cell? ⟨w6.heap.size, 1, none⟩ = some (.slice pv fs.length cv) := by simp [go_sem]
          have b2 : (w6.alloc (.cells #[.int .i64 c, .slice pv fs.length cv, .string ⟨bd.toArray⟩] 24)).cell? ⟨w6.heap.size, 2, none⟩ = some (.string ⟨bd.toArray⟩) := by simp [go_sem]
          go_upto_region 12 with (fail)
          generalize (w6.alloc (.cells #[.int .i64 c, .slice pv fs.length cv, .string ⟨bd.toArray⟩] 24)) = w7 at gq b0 b1 b2 ⊢
          replace a0 := gq.cell a0
          replace a1 := gq.cell a1
          replace a2 := gq.cell a2
          have g7 := Lib.hid (g6.out.trans gq)
          have hF7 := Lib.hid (hF6.out.gr gq)
          clear gq
          have hsame := Lib.hid (fun W (hg : Gr w7 W) => (show Calls Tryz.prog 20 #[.agg #[.int .i64 c, .slice pv fs.length cv, .string ⟨bd.toArray⟩], .agg #[.int .i64 c, .slice p fs.length cap, .string ⟨bd.toArray⟩]] W fun e w' => e = .returned (.bool true) ∧ Gr W w' from
            same_is ⟨c, fs, bd⟩ ⟨c, fs, bd⟩ true (sameB_refl _) _ _ W (hF7.out.gr hg) (hfw.out.gr (g7.out.trans hg)) hlf hlf))
          have hse : s.isEmpty = false := by
            cases s with
            | nil => simp at hsl
            | cons _ _ => rfl
          go_wp2_with fail
          refine (hsame.out _ (Gr.refl _)).mono ?_
          rintro e w8 ⟨rfl, hb⟩
          have g8 := Lib.hid (g7.out.trans hb)
          clear hb a0 a1 a2 b0 b1 b2 hsame
          obtain ⟨K, hK, hKs⟩ : ∃ K : Nat, cut.tmod (s.length : Int) = K ∧ K < s.length := by
            refine ⟨cut.toNat % s.length, ?_, Nat.mod_lt _ (by omega)⟩
            rw [Int.tmod_eq_emod_of_nonneg hcut.1, Int.natCast_emod, Int.toNat_of_nonneg hcut.1]
          have hKI : (K : Int) ≤ s.length := by omega
          have hz0 : ((s.length : Int) == 0) = false := beq_eq_false_iff_ne.2 (by omega)
          have hlow : cut ≤ 9223372036854775807 := by omega
          have hex : (⟨s.toArray⟩ : ByteArray).extract 0 K = ⟨(s.take K).toArray⟩ := by rw [extract_mk]; simp
          rcases hcut9.out K hKs with hbad | ⟨h65, hbad⟩
          · skip
            have hrd2 := Lib.hid (fun W (hg : Gr w W) => read_is (s.take K) false _ hbad W (hG'.out.gr hg) (by rw [List.length_take]; omega))
            clear hbad
            go_wp2_with fail
            refine (hrd2.out _ g8.out).mono ?_
            rintro e w9 ⟨v, rfl, hF, hb⟩
            have g9 := Lib.hid (g8.out.trans hb)
            obtain ⟨pv9, cv9, rfl, _⟩ := (show FieldsAt w9 v [] from hF)
            clear hb hF
            unfold rdV Rp.V
            dsimp only [rdR, rdC, rdN, rdE]
            go_wp2
            go_ret
            exact ⟨rfl, g9.out.trans (Gr.alloc _ _)⟩
          · skip
            have hrd2 := Lib.hid (fun W (hg : Gr w W) => read_is (s.take K) false _ hbad W (hG'.out.gr hg) (by rw [List.length_take]; omega))
            clear hbad
            have h65I : (65536 : Int) ≤ K := by omega
            clear h65
            go_wp2_with fail
            refine (hrd2.out _ g8.out).mono ?_
            rintro e w9 ⟨v, rfl, hF, hb⟩
            have g9 := Lib.hid (g8.out.trans hb)
            obtain ⟨pv9, cv9, rfl, _⟩ := (show FieldsAt w9 v [] from hF)
            clear hb hF
            unfold rdV Rp.V
            dsimp only [rdR, rdC, rdN, rdE]
            go_wp2
            go_ret
            exact ⟨rfl, g9.out.trans (Gr.alloc _ _)⟩
end Go.Proofs.YtfcokldbpjkjpaaGreatDoor
