/-
  The walk over the reference's Reads.
-/
import Derived.Test.YtpncfeaaffgkfaaGreatDoorKo
import Derived.Test.YtpncfeaaffgkfaaGreatDoorKq
import Derived.Test.YtpncfeaaffgkfaaGreatDoorF
namespace Go.Proofs.YtpncfeaaffgkfaaGreatDoor
open Go.RowKit
attribute [local go_sem] Oper.semAt_some

def rsV (x : Nat × List UInt8 × Bool × Nat) : Value := .tuple #[.int .i64 x.1, .string ⟨x.2.1.toArray⟩, .bool x.2.2.1, .int .i64 x.2.2.2]
theorem line_len (lim : Option Nat) : ∀ (rest acc : List UInt8) (i : Nat), (lineR lim acc i rest).1.length ≤ acc.length + rest.length
  | [], acc, i => by unfold lineR; simp
  | c :: t, acc, i => by
    unfold lineR
    have ih := line_len lim t (acc ++ [c]) (i + 1)
    simp only [List.length_append, List.length_cons, List.length_nil] at ih ⊢
    repeat' split
    all_goals (first | (simp; done) | (simp; omega) | omega)
theorem rline_none_is (s : List UInt8) (a : Nat) (t : List UInt8) (nx bad : Nat) (f : Bool) (h : lineR none [] a (s.drop a) = (t, nx, bad, f)) (ha : a ≤ s.length) (hl : s.length ≤ 1000000) (w : World) :
    Calls Tryz.prog 55 #[.string ⟨s.toArray⟩, .int .i64 a, .int .i64 2048, .int .i64 (-1)] w fun e w' => e = .returned (.tuple #[.string ⟨t.toArray⟩, .int .i64 nx, .int .i64 bad, .bool f]) ∧ w = w' := by
  have := rline_none s a ha hl w; rw [h] at this; exact this
theorem rline_some_is (s : List UInt8) (a L : Nat) (t : List UInt8) (nx bad : Nat) (f : Bool) (h : lineR (some L) [] a (s.drop a) = (t, nx, bad, f)) (hL : L ≤ 2000000) (ha : a ≤ s.length) (hl : s.length ≤ 1000000) (w : World) :
    Calls Tryz.prog 55 #[.string ⟨s.toArray⟩, .int .i64 a, .int .i64 (-1), .int .i64 L] w fun e w' => e = .returned (.tuple #[.string ⟨t.toArray⟩, .int .i64 nx, .int .i64 bad, .bool f]) ∧ w = w' := by
  have := rline_some s a L hL ha hl w; rw [h] at this; exact this
theorem rsize_is (s : List UInt8) (o : Option Nat) (h : sizeC s = o) (hl : s.length ≤ 1000000) (w : World) :
    Calls Tryz.prog 56 #[.string ⟨s.toArray⟩] w fun e w' => e = .returned (sizeV o) ∧ w = w' := h ▸ rsize_any s hl w

set_option maxHeartbeats 8000000 in
set_option maxRecDepth 20000 in
theorem rreads_any (s : List UInt8) (hl : s.length ≤ 1000000) (w : World) :
    Calls Tryz.prog 29 #[.string ⟨s.toArray⟩] w fun e w' => e = .returned (rsV (resC (feedC ck0 s))) ∧ Gr w w' := by
  obtain ⟨R, hR⟩ : ∃ R, resC (feedC ck0 s) = R := ⟨_, rfl⟩
  rw [hR]
  have hR' := Lib.hid hR
  clear hR
  go_enter Tryz.func29, Tryz.ntmps29
  go_wp2
  go_loopw [3, 6] (fun d a wr => ∃ (data : List UInt8) (at' : Nat), at' ≤ s.length ∧ data.length ≤ 4096 ∧ d = .string ⟨data.toArray⟩ ∧ a = .int .i64 at' ∧ Now s at' (atHead data) ∧ Gr w wr) (fun _ a _ => s.length - (intOf a).toNat)
  case atStart => exact ⟨[], 0, by omega, by simp, rfl, rfl, Now.begin s, Gr.refl _⟩
  case round =>
    obtain ⟨data, a, ha, hdl, rfl, rfl, hnow, hg⟩ := hrel
    have hg' := Lib.hid hg
    clear hg
    rcases head_line hnow ha with ⟨txt, nx, h1, h2, h3, h4⟩ | ⟨nx, bad, h1, h2, h3, h4⟩
    · have hln := Lib.hid (fun W => rline_none_is s a txt nx 0 true h1 ha hl W)
      have htl := Lib.hid (show txt.length ≤ 1000000 by have := line_len none (s.drop a) [] a; rw [h1, List.length_drop] at this; simp at this; omega)
      have h4' := Lib.hid h4
      clear hnow h1 h4
      cases hs : sizeC txt with
      | none =>
        have hsz := Lib.hid (fun W => rsize_is txt none hs htl.out W)
        have hres := Lib.hid ((head_none h4'.out hs).symm.trans hR'.out)
        clear hs
        go_wp2_with fail
        refine (hln.out _).mono ?_
        rintro e w1 ⟨rfl, rfl⟩
        go_wp2_with fail
        refine (hsz.out _).mono ?_
        rintro e w1 ⟨rfl, rfl⟩
        unfold sizeV
        go_wp2
        refine bodyPost_ret (v := .tuple #[.int .i64 nx, .string ⟨data.toArray⟩, .bool false, .int .i64 400]) (by simp [results, Tryz.results29, go_sem]) rfl ⟨by rw [← hres.out]; rfl, hg'.out⟩
      | some n =>
        have hsz := Lib.hid (fun W => rsize_is txt (some n) hs htl.out W)
        have hdI : (data.length : Int) ≤ 4096 := by omega
        have hnb : n ≤ 4294967295 := by
          unfold sizeC at hs
          split at hs
          · rename_i hc
            simp only [Bool.and_eq_true, decide_eq_true_eq] at hc
            have h6 := hexN_lt _ _ rfl hc.2.2.2
            have h7 : 16 ^ (Lib.cut txt [59]).1.length ≤ 16 ^ 8 := Nat.pow_le_pow_right (by decide) hc.2.2.1
            have e8 : (16 : Nat) ^ 8 = 4294967296 := rfl
            injection hs with hs; omega
          · cases hs
        have hnbI : (n : Int) ≤ 4294967295 := by omega
        by_cases hbig : 4096 < data.length + n
        · have hres := Lib.hid ((head_large h4'.out hs hbig).symm.trans hR'.out)
          have hbI : (4096 : Int) < (data.length : Int) + n := by omega
          clear hs hbig
          go_wp2_with fail
          refine (hln.out _).mono ?_
          rintro e w1 ⟨rfl, rfl⟩
          go_wp2_with fail
          refine (hsz.out _).mono ?_
          rintro e w1 ⟨rfl, rfl⟩
          unfold sizeV
          go_wp2
          refine bodyPost_ret (v := .tuple #[.int .i64 nx, .string ⟨data.toArray⟩, .bool false, .int .i64 413]) (by simp [results, Tryz.results29, go_sem]) rfl ⟨by rw [← hres.out]; rfl, hg'.out⟩
        · have hbI : ¬ (4096 : Int) < (data.length : Int) + n := by omega
          by_cases h0 : n = 0
          · subst h0
            obtain ⟨L, hL⟩ : ∃ L, nx + 2048 = L := ⟨_, rfl⟩
            have hLI : (nx : Int) + 2048 = L := by omega
            have hL' := Lib.hid hL
            have ht0 := Lib.hid (head_zero h4'.out hs hbig)
            have hLb := Lib.hid (show L ≤ 2000000 by omega)
            clear hbig hs hL
            go_wp2_with fail
            refine (hln.out _).mono ?_
            rintro e w1 ⟨rfl, rfl⟩
            go_wp2_with fail
            refine (hsz.out _).mono ?_
            rintro e w1 ⟨rfl, rfl⟩
            unfold sizeV
            go_wp2
            clear hLI
            go_loopw [3, 6, 14] (fun d2 a2 fl wx => ∃ (at2 nf : Nat), nx ≤ at2 ∧ at2 ≤ s.length ∧ nf ≤ 32 ∧ d2 = .string ⟨data.toArray⟩ ∧ a2 = .int .i64 at2 ∧ fl = .int .i64 nf ∧ Gr w wx ∧ Now s at2 (atTail data nf (at2 - nx))) (fun _ a2 _ _ => s.length - (intOf a2).toNat)
            case atStart => exact ⟨nx, 0, by omega, by omega, by omega, rfl, rfl, rfl, hg'.out, ht0.out⟩
            case round =>
              obtain ⟨at2, nf, j1, j2, j3, rfl, rfl, rfl, hg2, hnow⟩ := hrel
              have hg2' := Lib.hid hg2
              clear hg2
              rcases tail_line hnow j1 j2 with ⟨t2, n2, k1, k2, k3, k4⟩ | ⟨n2, bad, k1, k2, k3, k4⟩
              · have hln2 := Lib.hid (fun W => rline_some_is s at2 L t2 n2 0 true (hL'.out ▸ k1) hLb.out j2 hl W)
                have ht2l : t2.length ≤ 1000000 := by have := line_len (some (nx + 2048)) (s.drop at2) [] at2; rw [k1, List.length_drop] at this; simp at this; omega
                have k4' := Lib.hid k4
                clear hnow k1 k4
                by_cases he : t2 = []
                · subst he
                  have hres := Lib.hid ((tail_empty k4'.out).symm.trans hR'.out)
                  go_wp2_with fail
                  refine (hln2.out _).mono ?_
                  rintro e w1 ⟨rfl, rfl⟩
                  go_wp2
                  refine bodyPost_ret (v := .tuple #[.int .i64 n2, .string ⟨data.toArray⟩, .bool true, .int .i64 0]) (by simp [results, Tryz.results29, go_sem]) rfl ⟨by rw [← hres.out]; rfl, hg2'.out⟩
                · obtain ⟨⟨nm, vl, ok⟩, hp⟩ : ∃ x, parseB t2 = x := ⟨_, rfl⟩
                  have hpa := Lib.hid (fun W => rparse_any t2 W (by omega))
                  rw [hp] at hpa
                  have he' := Lib.hid he
                  have hte : t2.isEmpty = false := by simpa using he
                  have hp' := Lib.hid hp
                  clear hp he
                  cases ok with
                  | false =>
                    have hres := Lib.hid ((tail_bad k4'.out he'.out (by rw [hp'.out])).symm.trans hR'.out)
                    go_wp2_with fail
                    refine (hln2.out _).mono ?_
                    rintro e w1 ⟨rfl, rfl⟩
                    go_wp2_with fail
                    refine (hpa.out _).mono ?_
                    rintro e w3 ⟨rfl, hg3⟩
                    have hg3' := Lib.hid (hg2'.out.trans hg3)
                    clear hg3
                    unfold pVal
                    go_wp2
                    refine bodyPost_ret (v := .tuple #[.int .i64 n2, .string ⟨data.toArray⟩, .bool false, .int .i64 400]) (by simp [results, Tryz.results29, go_sem]) rfl ⟨by rw [← hres.out]; rfl, ?_⟩
                    first | exact hg3'.out | exact hg3'.out.alloc1 _
                  | true =>
                    by_cases h32 : nf = 32
                    · subst h32
                      have hres := Lib.hid ((tail_many k4'.out he'.out (by rw [hp'.out]) (by omega)).symm.trans hR'.out)
                      go_wp2_with fail
                      refine (hln2.out _).mono ?_
                      rintro e w1 ⟨rfl, rfl⟩
                      go_wp2_with fail
                      refine (hpa.out _).mono ?_
                      rintro e w3 ⟨rfl, hg3⟩
                      have hg3' := Lib.hid (hg2'.out.trans hg3)
                      clear hg3
                      unfold pVal
                      go_wp2
                      refine bodyPost_ret (v := .tuple #[.int .i64 n2, .string ⟨data.toArray⟩, .bool false, .int .i64 431]) (by simp [results, Tryz.results29, go_sem]) rfl ⟨by rw [← hres.out]; rfl, ?_⟩
                      first | exact hg3'.out | exact hg3'.out.alloc1 _
                    · have hnf : ((nf : Int) == 32) = false := beq_eq_false_iff_ne.2 (by omega)
                      have hmore := Lib.hid (tail_more k4'.out he'.out (by rw [hp'.out]) (show ¬ 32 ≤ nf by omega))
                      go_wp2_with fail
                      refine (hln2.out _).mono ?_
                      rintro e w1 ⟨rfl, rfl⟩
                      go_wp2_with fail
                      refine (hpa.out _).mono ?_
                      rintro e w3 ⟨rfl, hg3⟩
                      have hg3' := Lib.hid (hg2'.out.trans hg3)
                      clear hg3
                      unfold pVal
                      go_wp2
                      go_round
                      case rel => exact ⟨n2, nf + 1, by omega, by omega, by omega, rfl, rfl, by go_num, (by first | exact hg3'.out | exact hg3'.out.alloc1 _), hmore.out⟩
                      case measure => simp [intOf]; omega
              · have hln2 := Lib.hid (fun W => rline_some_is s at2 L [] n2 bad false (hL'.out ▸ k1) hLb.out j2 hl W)
                have hres := Lib.hid (k4.symm.trans hR'.out)
                clear hnow k1 k4
                go_wp2_with fail
                refine (hln2.out _).mono ?_
                rintro e w1 ⟨rfl, rfl⟩
                go_wp2
                refine bodyPost_ret (v := .tuple #[.int .i64 n2, .string ⟨data.toArray⟩, .bool false, .int .i64 bad]) (by simp [results, Tryz.results29, go_sem]) rfl ⟨by rw [← hres.out]; rfl, hg2'.out⟩
          · have h0I : ((n : Int) == 0) = false := beq_eq_false_iff_ne.2 (by omega)
            have hn4 : (n : Int) ≤ 4096 := by omega
            have hnow2 := Lib.hid (head_some h4'.out hs hbig h0)
            by_cases hsh : s.length < nx + n
            · have hres := Lib.hid ((data_short hnow2.out h3 hsh).symm.trans hR'.out)
              have hshI : (s.length : Int) < (nx : Int) + n := by omega
              have hx2 : (⟨s.toArray⟩ : ByteArray).extract nx s.length = ⟨(s.drop nx).toArray⟩ := by rw [extract_mk]; simp
              obtain ⟨sd, hsd⟩ : ∃ l, s.drop nx = l := ⟨_, rfl⟩
              have hsdl : sd.length ≤ 1000000 := by rw [← hsd, List.length_drop]; omega
              rw [hsd] at hx2 hres
              have hcat : (⟨data.toArray⟩ : ByteArray) ++ ⟨sd.toArray⟩ = ⟨(data ++ sd).toArray⟩ := cat_mk data sd
              obtain ⟨da, hda⟩ : ∃ l, data ++ sd = l := ⟨_, rfl⟩
              rw [hda] at hcat hres
              clear hs hbig hsd hda hsh h0
              haveI hne : ∀ W, Nonempty (Later (Gr W)) := fun W => ⟨⟨_, Gr.refl W⟩⟩
              go_wp2_with fail
              refine (hln.out _).mono ?_
              rintro e w1 ⟨rfl, rfl⟩
              go_wp2_with fail
              refine (hsz.out _).mono ?_
              rintro e w1 ⟨rfl, rfl⟩
              unfold sizeV
              go_wp2
              refine wp_region_later (C := Gr _) (by kernel_rfl) (by kernel_rfl) (Gr.drew' _) ?_
              repeat (go_big_quiet_step (fail))
              refine wpQuiet_nil ?_
              intro w9 hg9
              go_wp2
              refine bodyPost_ret (v := .tuple #[.int .i64 s.length, .string ⟨da.toArray⟩, .bool false, .int .i64 0]) (by simp [results, Tryz.results29, go_sem]) rfl ⟨by rw [← hres.out]; rfl, hg'.out.trans hg9⟩
            · have hwh := Lib.hid (data_whole hnow2.out h0 (by omega))
              obtain ⟨x, hx⟩ : ∃ l, (s.drop nx).take n = l := ⟨_, rfl⟩
              obtain ⟨am, ham⟩ : ∃ m, nx + n = m := ⟨_, rfl⟩
              have hamI : (nx : Int) + n = am := by omega
              have hams : am ≤ s.length := by omega
              have hamsI : ¬ (s.length : Int) < am := by omega
              have hamsB : decide (s.length < am) = false := decide_eq_false (by omega)
              have hnam : (nx : Int) ≤ am := by omega
              have hlI : (s.length : Int) ≤ 1000000 := by omega
              have hx2 : (⟨s.toArray⟩ : ByteArray).extract nx am = ⟨x.toArray⟩ := by rw [extract_mk, ← hx, ← ham]; simp [List.drop_take]
              rw [hx, ham] at hwh
              have hxl : x.length = n := by rw [← hx, List.length_take, List.length_drop]; omega
              have hcat : (⟨data.toArray⟩ : ByteArray) ++ ⟨x.toArray⟩ = ⟨(data ++ x).toArray⟩ := cat_mk data x
              obtain ⟨da, hda⟩ : ∃ l, data ++ x = l := ⟨_, rfl⟩
              rw [hda] at hcat hwh
              have hdal : da.length ≤ 4096 := by rw [← hda, List.length_append]; omega
              have k0 : (⟨#[13, 10]⟩ : ByteArray)[0] = 13 := rfl
              have k1 : (⟨#[13, 10]⟩ : ByteArray)[1] = 10 := rfl
              have hanx : a < am := by omega
              have hcl : ¬ 9223372036854775807 < data.length + x.length := by omega
              clear hs hbig hsh h0 hx ham hda hxl hn4
              go_wp2_with fail
              refine (hln.out _).mono ?_
              rintro e w1 ⟨rfl, rfl⟩
              go_wp2_with fail
              refine (hsz.out _).mono ?_
              rintro e w1 ⟨rfl, rfl⟩
              unfold sizeV
              go_wp2
              go_loopw [3, 6, 12] (fun dd at2 j wx => ∃ jj : Nat, jj ≤ 2 ∧ am + jj ≤ s.length ∧ dd = .string ⟨da.toArray⟩ ∧ at2 = .int .i64 (am + jj : Nat) ∧ j = .int .i64 jj ∧ Gr w wx ∧ ((jj = 0 ∧ Now s am (atEnd da)) ∨ (jj = 1 ∧ Now s (am + 1) { atEnd da with line := [13] }) ∨ (jj = 2 ∧ Now s (am + 2) (atHead da)))) (fun _ _ j _ => 2 - (intOf j).toNat)
              case atStart => exact ⟨0, by omega, by omega, rfl, rfl, rfl, hg'.out, .inl ⟨rfl, hwh.out⟩⟩
              case round =>
                obtain ⟨jj, hj2, hjs, rfl, rfl, rfl, hgx, hcase⟩ := hrel
                have hgx' := Lib.hid hgx
                clear hgx
                rcases hcase with ⟨rfl, hN⟩ | ⟨rfl, hN⟩ | ⟨rfl, hN⟩
                · haveI hne : ∀ W, Nonempty (Later (Gr W)) := fun W => ⟨⟨_, Gr.refl W⟩⟩
                  by_cases he : am = s.length
                  · have hres := Lib.hid ((end_none hN (by omega)).symm.trans hR'.out)
                    have heI : ((am : Nat) : Int) == s.length := by rw [beq_iff_eq]; omega
                    have heJ : ((am : Int) == s.length) = true := by rw [beq_iff_eq]; omega
                    clear hN he
                    go_wp2
                    refine bodyPost_ret (v := .tuple #[.int .i64 (am : Nat), .string ⟨da.toArray⟩, .bool false, .int .i64 0]) (by simp [results, Tryz.results29, go_sem]; try omega) rfl ⟨by rw [← hres.out]; rfl, hgx'.out⟩
                  · have hlt : am < s.length := by omega
                    have heJ : ((am : Int) == s.length) = false := beq_eq_false_iff_ne.2 (by omega)
                    obtain ⟨c, hc⟩ : ∃ c, (⟨s.toArray⟩ : ByteArray)[am]'(by rw [size_mk]; exact hlt) = c := ⟨_, rfl⟩
                    by_cases hcc : c = 13
                    · have hcI : ((c.toNat : Int) != 13) = false := by rw [hcc]; rfl
                      have hgood := Lib.hid (end_cr hN hlt ((show s[am] = c from hc).trans hcc))
                      clear hN he hcc
                      go_wp2
                      refine wp_region_later (C := Gr _) (by kernel_rfl) (by kernel_rfl) (Gr.drew' _) ?_
                      repeat (go_big_quiet_step (fail))
                      refine wpQuiet_nil ?_
                      intro w9 hg9
                      go_wp2
                      go_round
                      case rel => exact ⟨1, by omega, by omega, rfl, by go_num, by go_num, hgx'.out.trans hg9, .inr (.inl ⟨rfl, hgood.out⟩)⟩
                      case measure => simp [intOf]
                    · have hcI : ((c.toNat : Int) != 13) = true := by rw [bne_iff_ne]; intro e; exact hcc (UInt8.toNat_inj.1 (by show c.toNat = 13; omega))
                      have hres := Lib.hid ((end_bad hN hlt (by rw [show s[am] = c from hc]; exact hcc)).symm.trans hR'.out)
                      clear hN he hcc
                      go_wp2
                      refine wp_region_later (C := Gr _) (by kernel_rfl) (by kernel_rfl) (Gr.drew' _) ?_
                      repeat (go_big_quiet_step (fail))
                      refine wpQuiet_nil ?_
                      intro w9 hg9
                      go_wp2
                      refine bodyPost_ret (v := .tuple #[.int .i64 (am + 1 : Nat), .string ⟨da.toArray⟩, .bool false, .int .i64 400]) (by simp [results, Tryz.results29, go_sem]; try omega) rfl ⟨by rw [← hres.out]; rfl, hgx'.out.trans hg9⟩
                · haveI hne : ∀ W, Nonempty (Later (Gr W)) := fun W => ⟨⟨_, Gr.refl W⟩⟩
                  by_cases he : (am + 1) = s.length
                  · have hres := Lib.hid ((end2_none hN (by omega)).symm.trans hR'.out)
                    have heI : (((am + 1) : Nat) : Int) == s.length := by rw [beq_iff_eq]; omega
                    have heJ : ((am : Int) + 1 == s.length) = true := by rw [beq_iff_eq]; omega
                    clear hN he
                    go_wp2
                    refine bodyPost_ret (v := .tuple #[.int .i64 ((am + 1) : Nat), .string ⟨da.toArray⟩, .bool false, .int .i64 0]) (by simp [results, Tryz.results29, go_sem]; try omega) rfl ⟨by rw [← hres.out]; rfl, hgx'.out⟩
                  · have hlt : (am + 1) < s.length := by omega
                    have heJ : ((am : Int) + 1 == s.length) = false := beq_eq_false_iff_ne.2 (by omega)
                    obtain ⟨c, hc⟩ : ∃ c, (⟨s.toArray⟩ : ByteArray)[(am + 1)]'(by rw [size_mk]; exact hlt) = c := ⟨_, rfl⟩
                    by_cases hcc : c = 10
                    · have hcI : ((c.toNat : Int) != 10) = false := by rw [hcc]; rfl
                      have hgood := Lib.hid (end2_lf hN hlt ((show s[(am + 1)] = c from hc).trans hcc))
                      clear hN he hcc
                      go_wp2
                      refine wp_region_later (C := Gr _) (by kernel_rfl) (by kernel_rfl) (Gr.drew' _) ?_
                      repeat (go_big_quiet_step (fail))
                      refine wpQuiet_nil ?_
                      intro w9 hg9
                      go_wp2
                      go_round
                      case rel => exact ⟨2, by omega, by omega, rfl, by go_num, by go_num, hgx'.out.trans hg9, .inr (.inr ⟨rfl, hgood.out⟩)⟩
                      case measure => simp [intOf]
                    · have hcI : ((c.toNat : Int) != 10) = true := by rw [bne_iff_ne]; intro e; exact hcc (UInt8.toNat_inj.1 (by show c.toNat = 10; omega))
                      have hres := Lib.hid ((end2_bad hN hlt (by rw [show s[(am + 1)] = c from hc]; exact hcc)).symm.trans hR'.out)
                      clear hN he hcc
                      go_wp2
                      refine wp_region_later (C := Gr _) (by kernel_rfl) (by kernel_rfl) (Gr.drew' _) ?_
                      repeat (go_big_quiet_step (fail))
                      refine wpQuiet_nil ?_
                      intro w9 hg9
                      go_wp2
                      refine bodyPost_ret (v := .tuple #[.int .i64 ((am + 1) + 1 : Nat), .string ⟨da.toArray⟩, .bool false, .int .i64 400]) (by simp [results, Tryz.results29, go_sem]; try omega) rfl ⟨by rw [← hres.out]; rfl, hgx'.out.trans hg9⟩
                · have hN' := Lib.hid hN
                  clear hN
                  go_wp2
                  go_round
                  case rel => exact ⟨da, am + 2, by omega, hdal, rfl, by go_num, hN'.out, hgx'.out⟩
                  case measure => simp [intOf]; omega
    · have hln := Lib.hid (fun W => rline_none_is s a [] nx bad false h1 ha hl W)
      have hres := Lib.hid (h4.symm.trans hR'.out)
      clear hnow h1 h4
      go_wp2_with fail
      refine (hln.out _).mono ?_
      rintro e w1 ⟨rfl, rfl⟩
      go_wp2
      refine bodyPost_ret (v := .tuple #[.int .i64 nx, .string ⟨data.toArray⟩, .bool false, .int .i64 bad]) (by simp [results, Tryz.results29, go_sem]) rfl ⟨by rw [← hres.out]; rfl, hg'.out⟩
end Go.Proofs.YtpncfeaaffgkfaaGreatDoor
