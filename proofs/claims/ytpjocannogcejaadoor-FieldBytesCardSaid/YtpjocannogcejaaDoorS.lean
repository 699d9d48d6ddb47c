/-
  The walks over FieldGets and FieldBytes.
-/
import Derived.Test.YtpjocannogcejaaDoorQ
namespace Go.Proofs.YtpjocannogcejaaDoor
open Go.RowKit

set_option maxHeartbeats 2000000 in
theorem gets_any (v : Value) (fs : List Fl) (name : List UInt8) (w : World) (hG : G w) (hf : FieldsAt w v fs) (hn : fs.length ≤ 9223372036854775807)
    (hl : ∀ f ∈ fs, f.1.length ≤ 9223372036854775807 ∧ f.2.length ≤ 9223372036854775807) (hln : name.length ≤ 9223372036854775807) :
    Calls Tryd.prog 5 #[v, .string ⟨name.toArray⟩] w fun e w' => e = .returned (.bool true) ∧ Gr w w' := by
  have hG' := Lib.hid hG
  have hl' := Lib.hid hl
  clear hG hl
  have hf' := Lib.hid hf
  obtain ⟨p, cap, rfl, hc⟩ := hf
  have hc' := Lib.hid hc
  clear hc
  go_enter Tryd.func5, Tryd.ntmps5
  go_wp2_with fail
  refine (awake_any _ hG'.out).mono ?_
  rintro e w1 ⟨rfl, hg1⟩
  go_wp2_with fail
  go_loopw [5, 6] (fun z i wr => (∃ k : Nat, k ≤ fs.length ∧ k ≤ 101 ∧ i = .int .i64 k ∧ ∃ y : Int, z = .int .i64 y) ∧ Gr w wr) (fun _ i _ => fs.length - (intOf i).toNat)
  case atStart => exact ⟨⟨0, Nat.zero_le _, Nat.zero_le _, rfl, 0, rfl⟩, hg1⟩
  case round =>
    obtain ⟨⟨k, hk, hk1, rfl, y, rfl⟩, hg⟩ := hrel
    by_cases hlt : k < fs.length ∧ k ≤ 100
    · obtain ⟨hlt, hk100⟩ := hlt
      obtain ⟨b, off, rfl, h1, h2⟩ := hc'.out k hlt
      obtain ⟨f, hfd⟩ : ∃ f, fs[k] = f := ⟨_, rfl⟩
      have hmem := hl'.out f (hfd ▸ List.getElem_mem hlt)
      rw [hfd] at h1 h2
      clear hfd
      obtain ⟨hm1, hm2⟩ := hmem
      have c1 : ∀ x : Later (Gr w), x.w.cell? ⟨b, off + k * 2, none⟩ = some (.string ⟨f.1.toArray⟩) := fun x => x.ok.cell h1
      have c2 : ∀ x : Later (Gr w), x.w.cell? ⟨b, off + k * 2 + 1, none⟩ = some (.string ⟨f.2.toArray⟩) := fun x => x.ok.cell h2
      have hgd := hg.trans (Gr.drew' _)
      clear h1 h2
      go_wp2_with fail
      haveI : Nonempty (Later (Gr w)) := ⟨⟨w, Gr.refl w⟩⟩
      refine wp_region_later (C := Gr w) (by kernel_rfl) (by kernel_rfl) hgd ?_
      repeat (go_big_quiet_step (fail))
      refine wpQuiet_nil ?_
      intro w2 hg2
      clear c1 c2 hg
      go_wp2
      go_roundw
      case rel => exact ⟨⟨k + 1, by omega, by omega, by go_num, _, rfl⟩, hg2⟩
      case measure => simp [intOf]; omega
    · have hbig : 101 ≤ fs.length ∧ k = 101 ∨ fs.length ≤ 100 ∧ k = fs.length := by omega
      clear hlt
      by_cases hs : fs.length ≤ 100 ∧ y ≤ 10000 ∧ name.length ≤ 300
      · obtain ⟨hs1, hs2, hs3⟩ := hs
        obtain rfl : k = fs.length := by omega
        clear hbig
        have hh := Lib.hid (fun f hf => (hl'.out f hf).1)
        go_wp2_with fail
        refine (get_any _ fs name _ (hG'.out.gr hg) (hf'.out.gr hg) hn hh.out hln).mono ?_
        rintro e w2 ⟨rfl, hb⟩
        have hg2 := Lib.hid (hg.trans hb)
        clear hb
        go_wp2_with fail
        refine (rget_any _ fs name _ (hf'.out.gr hg2.out) hn hh.out hln).mono ?_
        rintro e w3 ⟨rfl, hb⟩
        have hg3 := Lib.hid (hg2.out.trans hb)
        clear hb
        go_wp2_with fail
        go_ret
        exact ⟨rfl, hg3.out⟩
      · have hor : (100 < fs.length ∧ k = 101) ∨ (fs.length ≤ 100 ∧ k = fs.length ∧ (10000 < y ∨ (y ≤ 10000 ∧ 300 < name.length))) := by omega
        clear hbig hs
        rcases hor with ⟨h1, rfl⟩ | ⟨h1, rfl, h3 | ⟨h3, h4⟩⟩
        all_goals go_wp2
        all_goals go_ret
        all_goals exact ⟨rfl, hg⟩

set_option maxHeartbeats 2000000 in
theorem bytes_any (c : UInt8) (s : List UInt8) (w : World) (hG : G w) (hs : s.length ≤ 9223372036854775807) :
    Calls Tryd.prog 6 #[.int .u8 c.toNat, .string ⟨s.toArray⟩] w fun e w' => e = .returned (.bool true) ∧ Gr w w' := by
  have hG' := Lib.hid hG
  clear hG
  go_enter Tryd.func6, Tryd.ntmps6
  go_wp2_with fail
  refine (awake_any _ hG'.out).mono ?_
  rintro e w1 ⟨rfl, hb⟩
  have hg1 := Lib.hid hb
  clear hb
  by_cases hl : s.length ≤ 200
  · have hcv : ∀ W : World, (convert 38 9 (.slice (some ⟨W.heap.size, 0, none⟩) 1 1)).run Tryd.prog (W.alloc (.cells #[.int .u8 c.toNat] 5)) = .ok (.string ⟨#[c]⟩) (W.alloc (.cells #[.int .u8 c.toNat] 5)) := fun W =>
      run_convert_bytes_back _ _ _ 5 ⟨W.heap.size, 0, none⟩ 1 [c] Tryd.underlying38 Tryd.underlying5 Tryd.underlying9 (fun j hj => by
        have : j = 0 := by simpa using hj
        subst this
        simp [Addr.add, go_sem])
    have e1 : (⟨#[110]⟩ : ByteArray) ++ ⟨#[c]⟩ = ⟨#[110, c]⟩ := cat_mk [110] [c]
    have e2 : (⟨#[110, c]⟩ : ByteArray) ++ ⟨#[58, 118]⟩ = ⟨#[110, c, 58, 118]⟩ := cat_mk [110, c] [58, 118]
    have e3 : (⟨#[110, 58, 118]⟩ : ByteArray) ++ ⟨#[c]⟩ = ⟨#[110, 58, 118, c]⟩ := cat_mk [110, 58, 118] [c]
    have e4 : (⟨#[110, 58, 118, c]⟩ : ByteArray) ++ ⟨#[118]⟩ = ⟨#[110, 58, 118, c, 118]⟩ := cat_mk [110, 58, 118, c] [118]
    have e5 : (⟨#[97, 44]⟩ : ByteArray) ++ ⟨#[c]⟩ = ⟨#[97, 44, c]⟩ := cat_mk [97, 44] [c]
    obtain ⟨a, ha⟩ : ∃ a, c :: s = a := ⟨_, rfl⟩
    obtain ⟨b, hb⟩ : ∃ b, s ++ [c] = b := ⟨_, rfl⟩
    have e6 : (⟨#[c]⟩ : ByteArray) ++ ⟨s.toArray⟩ = ⟨a.toArray⟩ := ha ▸ cat_mk [c] s
    have e7 : (⟨s.toArray⟩ : ByteArray) ++ ⟨#[c]⟩ = ⟨b.toArray⟩ := hb ▸ cat_mk s [c]
    have hal : a.length ≤ 9223372036854775807 := by rw [← ha]; simp; omega
    have hbl : b.length ≤ 9223372036854775807 := by rw [← hb]; simp; omega
    clear ha hb
    go_wp2_with fail
    refine (reads_any [c] s _ (hG'.out.gr (hg1.out.alloc1 _)) (by simp) hs).mono ?_
    rintro e w2 ⟨rfl, hb⟩
    have hg2 := Lib.hid ((hg1.out.alloc1 _).trans hb)
    clear hb hcv
    go_wp2_with fail
    refine (reads_any [110, c, 58, 118] [c] _ (hG'.out.gr hg2.out) (by simp) (by simp)).mono ?_
    rintro e w3 ⟨rfl, hb⟩
    have hg3 := Lib.hid (hg2.out.trans hb)
    clear hb
    go_wp2_with fail
    refine (reads_any [110, 58, 118, c, 118] [78] _ (hG'.out.gr hg3.out) (by simp) (by simp)).mono ?_
    rintro e w4 ⟨rfl, hb⟩
    have hg4 := Lib.hid (hg3.out.trans hb)
    clear hb
    go_wp2_with fail
    refine (reads_any [97, 44, c] [c] _ (hG'.out.gr hg4.out) (by simp) (by simp)).mono ?_
    rintro e w5 ⟨rfl, hb⟩
    have hg5 := Lib.hid (hg4.out.trans hb)
    clear hb
    go_wp2_with fail
    refine (reads_any a b _ (hG'.out.gr hg5.out) hal hbl).mono ?_
    rintro e w6 ⟨rfl, hb⟩
    have hg6 := Lib.hid (hg5.out.trans hb)
    clear hb
    go_wp2_with fail
    go_ret
    exact ⟨rfl, hg6.out⟩
  · go_wp2
    go_ret
    exact ⟨rfl, hg1.out⟩
end Go.Proofs.YtpjocannogcejaaDoor
