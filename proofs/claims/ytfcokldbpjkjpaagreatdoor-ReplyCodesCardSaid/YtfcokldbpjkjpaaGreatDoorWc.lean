/-
  Replies: the walks over ReplyWrites, ReplyReads.
-/
import Derived.Test.YtfcokldbpjkjpaaGreatDoorWr
namespace Go.Proofs.YtfcokldbpjkjpaaGreatDoor
open Go.RowKit
attribute [local go_sem] Oper.semAt_some

theorem byteV_form (o : Option (List UInt8)) : ∃ (s : ByteArray) (e : Int), byteV o = .tuple #[.string s, .int .i64 e] := by
  cases o with
  | none => exact ⟨_, _, rfl⟩
  | some l => exact ⟨_, _, rfl⟩
set_option maxHeartbeats 8000000 in
set_option maxRecDepth 100000 in
theorem writes10_any (r : Rp) (t : Value) (head close : Bool) (w : World) (hG : G w) (hf : FieldsAt w t r.fs) (hlf : r.fs.length ≤ 9223372036854775807) (hlb : r.b.length ≤ 9223372036854775807) (hls : ∀ f ∈ r.fs, f.1.length ≤ 9223372036854775807 ∧ f.2.length ≤ 9223372036854775807) (hcr : -9223372036854775808 ≤ r.code ∧ r.code ≤ 9223372036854775807) :
    Calls Tryz.prog 3 #[r.V t, .bool head, .bool close] w fun e w' => e = .returned (.bool true) ∧ Gr w w' := by
  have hG' := Lib.hid hG
  have hgt := Lib.hid (fun W (hg : Gr w W) => great11_any r t W (hf.gr hg) hlf hlb hls)
  have hby := Lib.hid (fun W (hg : Gr w W) hs => bytes_of r t head close W (hG.gr hg) (hf.gr hg) hs hlb hcr)
  have hrb := Lib.hid (fun W (hg : Gr w W) hs => rbytes_of r t head close W (hf.gr hg) hs hlb)
  have hri := Lib.hid (fun W (hg : Gr w W) hs => right_of r t W (hG.gr hg) (hf.gr hg) hs hlb)
  have hrr := Lib.hid (fun W (hg : Gr w W) hs => rright_of r t W (hf.gr hg) hs hlb)
  have hre := Lib.hid (fun W => reason_any r.code W)
  have hrre := Lib.hid (fun W => rreason_any r.code W)
  obtain ⟨sv, ev, hbv⟩ := byteV_form (bytesR r head close)
  rw [hbv] at hby hrb
  obtain ⟨R, hR⟩ : ∃ R, rightR r = R := ⟨_, rfl⟩
  rw [hR] at hri hrr
  obtain ⟨x, hx⟩ : ∃ x, reasonL r.code = x := ⟨_, rfl⟩
  rw [hx] at hre hrre
  clear hbv hR hx hls hcr hG
  obtain ⟨p, cap, rfl, _⟩ := hf
  obtain ⟨c, fs, b⟩ := r
  unfold Rp.V at *
  dsimp only at hgt hby hrb hri hrr hre hrre hlf hlb ⊢
  have g0 := Lib.hid (Gr.alloc w (.cells #[.int .i64 c, .slice p fs.length cap, .string ⟨b.toArray⟩] 24))
  have n0 : (w.alloc (.cells #[.int .i64 c, .slice p fs.length cap, .string ⟨b.toArray⟩] 24)).cell? ⟨w.heap.size, 0, none⟩ = some (.int .i64 c) := by simp [go_sem]
  have n1 : (w.alloc (.cells #[.int .i64 c, .slice p fs.length cap, .string ⟨b.toArray⟩] 24)).cell? ⟨w.heap.size, 1, none⟩ = some (.slice p fs.length cap) := by simp [go_sem]
  have n2 : (w.alloc (.cells #[.int .i64 c, .slice p fs.length cap, .string ⟨b.toArray⟩] 24)).cell? ⟨w.heap.size, 2, none⟩ = some (.string ⟨b.toArray⟩) := by simp [go_sem]
  go_enter Tryz.func3, Tryz.ntmps3
  go_upto_region 1 with (fail)
  generalize (w.alloc (.cells #[.int .i64 c, .slice p fs.length cap, .string ⟨b.toArray⟩] 24)) = w1 at g0 n0 n1 n2 ⊢
  go_wp2_with fail
  refine (awake10_any _ (hG'.out.gr g0.out)).mono ?_
  rintro e w2 ⟨rfl, hb⟩
  replace n0 := hb.cell n0
  replace n1 := hb.cell n1
  replace n2 := hb.cell n2
  have g2 := Lib.hid (g0.out.trans hb)
  clear hb
  go_wp2_with fail
  refine (hgt.out _ g2.out).mono ?_
  rintro e w3 ⟨q, rfl, hq, hb⟩
  replace n0 := hb.cell n0
  replace n1 := hb.cell n1
  replace n2 := hb.cell n2
  have g3 := Lib.hid (g2.out.trans hb)
  have hq' := Lib.hid hq
  clear hb hq
  cases q with
  | true =>
    go_wp2
    go_ret
    exact ⟨rfl, g3.out⟩
  | false =>
    have hs := Lib.hid (hq'.out rfl)
    clear hq'
    go_wp2_with fail
    refine (hby.out _ g3.out hs.out).mono ?_
    rintro e w4 ⟨rfl, hb⟩
    replace n0 := hb.cell n0
    replace n1 := hb.cell n1
    replace n2 := hb.cell n2
    have g4 := Lib.hid (g3.out.trans hb)
    clear hb
    go_wp2_with fail
    refine (hrb.out _ g4.out hs.out).mono ?_
    rintro e w5 ⟨rfl, hb⟩
    replace n0 := hb.cell n0
    replace n1 := hb.cell n1
    replace n2 := hb.cell n2
    have g5 := Lib.hid (g4.out.trans hb)
    clear hb
    haveI : Nonempty (Later (Gr w5)) := ⟨⟨w5, Gr.refl w5⟩⟩
    have t0 : ∀ x : Later (Gr w5), x.w.cell? ⟨w.heap.size, 0, none⟩ = some (.int .i64 c) := fun x => x.ok.cell n0
    have t1 : ∀ x : Later (Gr w5), x.w.cell? ⟨w.heap.size, 1, none⟩ = some (.slice p fs.length cap) := fun x => x.ok.cell n1
    have t2 : ∀ x : Later (Gr w5), x.w.cell? ⟨w.heap.size, 2, none⟩ = some (.string ⟨b.toArray⟩) := fun x => x.ok.cell n2
    have l1 := Lib.hid (fun x : Later (Gr w5) => Calls.later ((hri.out x.w (g5.out.trans x.ok) hs.out).mono fun _ _ ⟨he, hw⟩ => ⟨he, x.ok.trans hw⟩))
    have l2 := Lib.hid (fun x : Later (Gr w5) => Calls.later ((hrr.out x.w (g5.out.trans x.ok) hs.out).mono fun _ _ ⟨he, hw⟩ => ⟨he, x.ok.trans hw⟩))
    have l3 := Lib.hid (fun x : Later (Gr w5) => Calls.later ((hre.out x.w).mono fun _ _ ⟨he, hw⟩ => ⟨he, hw ▸ x.ok⟩))
    have l4 := Lib.hid (fun x : Later (Gr w5) => Calls.later ((hrre.out x.w).mono fun _ _ ⟨he, hw⟩ => ⟨he, x.ok.trans hw⟩))
    go_upto_region 7 with (fail)
    refine wp_region_later (C := Gr w5) (by kernel_rfl) (by kernel_rfl) (Gr.drew' _) ?_
    repeat (go_big_quiet_step (first | with_reducible exact l1.out _ | with_reducible exact l2.out _ | with_reducible exact l3.out _ | with_reducible exact l4.out _))
    refine wpQuiet_nil ?_
    intro w9 hg9
    have g9 := Lib.hid (g5.out.trans hg9)
    clear hg9 t0 t1 t2
    go_wp2
    go_ret
    exact ⟨rfl, g9.out⟩
set_option maxHeartbeats 8000000 in
set_option maxRecDepth 100000 in
theorem reads10_any (s : List UInt8) (head : Bool) (w : World) (hG : G w) (hs : s.length ≤ 9223372036854775807) :
    Calls Tryz.prog 4 #[.string ⟨s.toArray⟩, .bool head] w fun e w' => e = .returned (.bool true) ∧ Gr w w' := by
  have hG' := Lib.hid hG
  clear hG
  by_cases hl : s.length ≤ 70000
  · have hlI : ¬ (70000 : Int) < s.length := by omega
    have hrd := Lib.hid (fun W hGW => read_any s head W hGW (by omega))
    have hrr := Lib.hid (fun W => rread_any s head W (by omega))
    have hfl := readR_len s head
    obtain ⟨x, hx⟩ : ∃ x, readR s head = x := ⟨_, rfl⟩
    rw [hx] at hrd hrr hfl
    clear hx
    unfold ReadPost rdV at hrd hrr
    obtain ⟨⟨c, fs, b⟩, hr9⟩ : ∃ y, rdR x = y := ⟨_, rfl⟩
    obtain ⟨cl, hcl⟩ : ∃ y, rdC x = y := ⟨_, rfl⟩
    obtain ⟨n, hn⟩ : ∃ y, rdN x = y := ⟨_, rfl⟩
    obtain ⟨ee, hee⟩ : ∃ y, rdE x = y := ⟨_, rfl⟩
    rw [hr9, hcl, hn, hee] at hrd hrr
    rw [hr9] at hfl
    dsimp only at hfl
    clear hr9 hcl hn hee
    have hsm := Lib.hid (fun s' t' W (h1 : FieldsAt W s' fs) (h2 : FieldsAt W t' fs) => same_is ⟨c, fs, b⟩ ⟨c, fs, b⟩ true (sameB_refl _) s' t' W h1 h2 (by show fs.length ≤ _; omega) (by show fs.length ≤ _; omega))
    unfold Rp.V at hrd hrr hsm
    dsimp only at hrd hrr hsm
    clear hl
    go_enter Tryz.func4, Tryz.ntmps4
    go_wp2_with fail
    refine (awake10_any _ hG'.out).mono ?_
    rintro e w1 ⟨rfl, hb⟩
    have g1 := Lib.hid hb
    clear hb
    go_wp2_with fail
    refine (hrd.out _ (hG'.out.gr g1.out)).mono ?_
    rintro e w2 ⟨v, rfl, hF, hb⟩
    have g2 := Lib.hid (g1.out.trans hb)
    obtain ⟨pv, cv, rfl, _⟩ := id hF
    have hF' := Lib.hid hF
    clear hb hF
    go_upto_region 5 with (fail)
    have a0 : (w2.alloc (.cells #[.int .i64 c, .slice pv fs.length cv, .string ⟨b.toArray⟩] 24)).cell? ⟨w2.heap.size, 0, none⟩ = some (.int .i64 c) := by simp [go_sem]
    have a1 : (w2.alloc (.cells #[.int .i64 c, .slice pv fs.length cv, .string ⟨b.toArray⟩] 24)).cell? ⟨w2.heap.size, 1, none⟩ = some (.slice pv fs.length cv) := by simp [go_sem]
    have a2 : (w2.alloc (.cells #[.int .i64 c, .slice pv fs.length cv, .string ⟨b.toArray⟩] 24)).cell? ⟨w2.heap.size, 2, none⟩ = some (.string ⟨b.toArray⟩) := by simp [go_sem]
    have g3 := Lib.hid (Gr.alloc w2 (.cells #[.int .i64 c, .slice pv fs.length cv, .string ⟨b.toArray⟩] 24))
    generalize (w2.alloc (.cells #[.int .i64 c, .slice pv fs.length cv, .string ⟨b.toArray⟩] 24)) = w3 at g3 a0 a1 a2 ⊢
    have hF3 := Lib.hid (hF'.out.gr g3.out)
    have g4 := Lib.hid (g2.out.trans g3.out)
    clear g3
    go_wp2_with fail
    refine (hrr.out _).mono ?_
    rintro e w4 ⟨v, rfl, hF, hb⟩
    replace a0 := hb.cell a0
    replace a1 := hb.cell a1
    replace a2 := hb.cell a2
    have g5 := Lib.hid (g4.out.trans hb)
    have hF5 := Lib.hid (hF3.out.gr hb)
    obtain ⟨pv2, cv2, rfl, _⟩ := id hF
    have hF6 := Lib.hid hF
    clear hb hF
    have gq := Gr.alloc w4 (.cells #[.int .i64 c, .slice pv2 fs.length cv2, .string ⟨b.toArray⟩] 24)
    have b0 : (w4.alloc (.cells #[.int .i64 c, .slice pv2 fs.length cv2, .string ⟨b.toArray⟩] 24)).cell? ⟨w4.heap.size, 0, none⟩ = some (.int .i64 c) := by simp [go_sem]
    have b1 : (w4.alloc (.cells #[.int .i64 c, .slice pv2 fs.length cv2, .string ⟨b.toArray⟩] 24)).cell? ⟨w4.heap.size, 1, none⟩ = some (.slice pv2 fs.length cv2) := by simp [go_sem]
    have b2 : (w4.alloc (.cells #[.int .i64 c, .slice pv2 fs.length cv2, .string ⟨b.toArray⟩] 24)).cell? ⟨w4.heap.size, 2, none⟩ = some (.string ⟨b.toArray⟩) := by simp [go_sem]
    replace a0 := gq.cell a0
    replace a1 := gq.cell a1
    replace a2 := gq.cell a2
    have g6 := Lib.hid (g5.out.trans gq)
    have hF7 := Lib.hid (hF5.out.gr gq)
    have hF8 := Lib.hid (hF6.out.gr gq)
    clear gq
    go_upto_region 7 with (fail)
    generalize (w4.alloc (.cells #[.int .i64 c, .slice pv2 fs.length cv2, .string ⟨b.toArray⟩] 24)) = w5 at g6 a0 a1 a2 b0 b1 b2 hF7 hF8 ⊢
    go_wp2_with fail
    refine (hsm.out _ _ _ hF7.out hF8.out).mono ?_
    rintro e w6 ⟨rfl, hb⟩
    have g7 := Lib.hid (g6.out.trans hb)
    clear hb
    go_wp2
    go_ret
    exact ⟨rfl, g7.out⟩
  · have hlI : (70000 : Int) < s.length := by omega
    clear hl
    go_enter Tryz.func4, Tryz.ntmps4
    go_wp2_with fail
    refine (awake10_any _ hG'.out).mono ?_
    rintro e w1 ⟨rfl, hb⟩
    have g1 := Lib.hid hb
    clear hb
    go_wp2
    go_ret
    exact ⟨rfl, g1.out⟩
end Go.Proofs.YtfcokldbpjkjpaaGreatDoor
