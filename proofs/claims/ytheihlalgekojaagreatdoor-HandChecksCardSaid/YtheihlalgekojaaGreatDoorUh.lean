/-
  The document's handshake: Answer, and the statement HandChecks.
-/
import Derived.Test.YtheihlalgekojaaGreatDoorUg
namespace Go.Proofs.YtheihlalgekojaaGreatDoor
open Go.RowKit
attribute [local go_sem] Oper.semAt_some

set_option maxHeartbeats 8000000 in
set_option maxRecDepth 20000 in
theorem ranswer_any (r : Rq) (t : Value) (w : World) (hf : FieldsAt w t r.fs) (h40 : r.fs.length ≤ 40) (hs : ∀ f ∈ r.fs, f.1.length ≤ 200 ∧ f.2.length ≤ 200) :
    Calls Tryz.prog 9 #[r.V t] w (AnsPost w (answerB (checkB r))) := by
  have hck := Lib.hid (fun W (hg : Gr w W) => rcheck_any r t W (hf.gr hg) h40 hs)
  have hcode := check_code r
  obtain ⟨⟨a, c⟩, hR⟩ : ∃ R, checkB r = R := ⟨_, rfl⟩
  rw [hR] at hck hcode ⊢
  dsimp only at hcode
  obtain ⟨p, cap, ht, _⟩ := hf
  subst ht
  clear hR hs h40
  unfold Rq.V at hck ⊢
  obtain ⟨m, pp, q, ver, fs, bd, cl⟩ := r
  dsimp only at hck ⊢
  go_enter Tryz.func9, Tryz.ntmps9
  go_wp2_with fail
  have g0 := Lib.hid (((Gr.alloc w (.cells #[.string ⟨m.toArray⟩, .string ⟨pp.toArray⟩, .string ⟨q.toArray⟩, .int .i64 ver, .slice p fs.length cap, .string ⟨bd.toArray⟩, .bool cl] 24)).alloc1 (.cells #[.int .i64 0, .slice none 0 0, .string ⟨#[]⟩] 30)))
  have n0 : ((w.alloc (.cells #[.string ⟨m.toArray⟩, .string ⟨pp.toArray⟩, .string ⟨q.toArray⟩, .int .i64 ver, .slice p fs.length cap, .string ⟨bd.toArray⟩, .bool cl] 24)).alloc (.cells #[.int .i64 0, .slice none 0 0, .string ⟨#[]⟩] 30)).cell? ⟨w.heap.size + 1, 0, none⟩ = some (.int .i64 0) := by simp [go_sem]
  have n1 : ((w.alloc (.cells #[.string ⟨m.toArray⟩, .string ⟨pp.toArray⟩, .string ⟨q.toArray⟩, .int .i64 ver, .slice p fs.length cap, .string ⟨bd.toArray⟩, .bool cl] 24)).alloc (.cells #[.int .i64 0, .slice none 0 0, .string ⟨#[]⟩] 30)).cell? ⟨w.heap.size + 1, 1, none⟩ = some (.slice none 0 0) := by simp [go_sem]
  have n2 : ((w.alloc (.cells #[.string ⟨m.toArray⟩, .string ⟨pp.toArray⟩, .string ⟨q.toArray⟩, .int .i64 ver, .slice p fs.length cap, .string ⟨bd.toArray⟩, .bool cl] 24)).alloc (.cells #[.int .i64 0, .slice none 0 0, .string ⟨#[]⟩] 30)).cell? ⟨w.heap.size + 1, 2, none⟩ = some (.string ⟨#[]⟩) := by simp [go_sem]
  have z : ∀ o, ((w.alloc (.cells #[.string ⟨m.toArray⟩, .string ⟨pp.toArray⟩, .string ⟨q.toArray⟩, .int .i64 ver, .slice p fs.length cap, .string ⟨bd.toArray⟩, .bool cl] 24)).alloc (.cells #[.int .i64 0, .slice none 0 0, .string ⟨#[]⟩] 30)).frozen? ⟨w.heap.size + 1, o, none⟩ = false := fun o => World.frozen?_alloc_at _ _ _ _ (by simp)
  refine (hck.out _ g0.out).mono ?_
  rintro e w1 ⟨rfl, hb⟩
  have g1 := Lib.hid (g0.out.trans hb)
  replace n0 := hb.cell n0
  replace n1 := hb.cell n1
  replace n2 := hb.cell n2
  have z0 : w1.frozen? ⟨w.heap.size + 1, 0, none⟩ = false := (Below.frozen hb (p := ⟨w.heap.size + 1, 0, none⟩) (by simp)).trans (z 0)
  have z1 : w1.frozen? ⟨w.heap.size + 1, 1, none⟩ = false := (Below.frozen hb (p := ⟨w.heap.size + 1, 1, none⟩) (by simp)).trans (z 1)
  have z2 : w1.frozen? ⟨w.heap.size + 1, 2, none⟩ = false := (Below.frozen hb (p := ⟨w.heap.size + 1, 2, none⟩) (by simp)).trans (z 2)
  have hbl : w.heap.size + 1 < w1.heap.size := cell_lt n0
  clear hb z
  unfold ckV
  have hbb := Lib.hid (show w.heap.size ≤ w.heap.size + 1 by omega)
  rcases hcode with rfl | rfl | rfl
  · have hr := Lib.hid (show answerB (a, 400) = (⟨400, [], kBadH⟩, false) from rfl)
    go_upto_region 11 with (fail)
    have gx : Gr w1 (w1.alloc (.cells #[.int .i64 400, .slice none 0 0, .string ⟨#[98, 97, 100, 32, 104, 97, 110, 100, 115, 104, 97, 107, 101]⟩] 30)) := Gr.alloc _ _
    have x0 : (w1.alloc (.cells #[.int .i64 400, .slice none 0 0, .string ⟨#[98, 97, 100, 32, 104, 97, 110, 100, 115, 104, 97, 107, 101]⟩] 30)).cell? ⟨w1.heap.size, 0, none⟩ = some (.int .i64 400) := cell_new7 w1 [.int .i64 400, .slice none 0 0, .string ⟨#[98, 97, 100, 32, 104, 97, 110, 100, 115, 104, 97, 107, 101]⟩] _ 0 _ rfl
    have x1 : (w1.alloc (.cells #[.int .i64 400, .slice none 0 0, .string ⟨#[98, 97, 100, 32, 104, 97, 110, 100, 115, 104, 97, 107, 101]⟩] 30)).cell? ⟨w1.heap.size, 1, none⟩ = some (.slice none 0 0) := cell_new7 w1 [.int .i64 400, .slice none 0 0, .string ⟨#[98, 97, 100, 32, 104, 97, 110, 100, 115, 104, 97, 107, 101]⟩] _ 1 _ rfl
    have x2 : (w1.alloc (.cells #[.int .i64 400, .slice none 0 0, .string ⟨#[98, 97, 100, 32, 104, 97, 110, 100, 115, 104, 97, 107, 101]⟩] 30)).cell? ⟨w1.heap.size, 2, none⟩ = some (.string ⟨#[98, 97, 100, 32, 104, 97, 110, 100, 115, 104, 97, 107, 101]⟩) := cell_new7 w1 [.int .i64 400, .slice none 0 0, .string ⟨#[98, 97, 100, 32, 104, 97, 110, 100, 115, 104, 97, 107, 101]⟩] _ 2 _ rfl
    generalize (w1.alloc (.cells #[.int .i64 400, .slice none 0 0, .string ⟨#[98, 97, 100, 32, 104, 97, 110, 100, 115, 104, 97, 107, 101]⟩] 30)) = W9 at gx x0 x1 x2 ⊢
    replace n0 := gx.cell n0
    replace n1 := gx.cell n1
    replace n2 := gx.cell n2
    replace z0 := (Below.frozen gx (p := ⟨w.heap.size + 1, 0, none⟩) hbl).trans z0
    replace z1 := (Below.frozen gx (p := ⟨w.heap.size + 1, 1, none⟩) hbl).trans z1
    replace z2 := (Below.frozen gx (p := ⟨w.heap.size + 1, 2, none⟩) hbl).trans z2
    have g9 := Lib.hid (g1.out.trans gx)
    clear gx
    go_wp2
    rw [hr.out]
    refine bodyPost_ret (v := .tuple #[((⟨400, [], kBadH⟩, false) : Rp × Bool).1.V (.slice none 0 0), .bool ((⟨400, [], kBadH⟩, false) : Rp × Bool).2]) ?_ rfl ⟨_, rfl, fieldsAt_none _ _, ((g9.out.setCell hbb.out _).setCell hbb.out _).setCell hbb.out _⟩
    simp [results, Tryz.results9, go_sem, n0, n1, n2, Rp.V, kBadH]
  · have hr := Lib.hid (show answerB (a, 426) = (⟨426, [(kVer, k13)], kBadV⟩, false) from rfl)
    go_upto_region 11 with (fail)
    have gx : Gr w1 ((w1.alloc (.cells #[.int .i64 426, .slice (some ⟨w1.heap.size + 1, 0, none⟩) 1 1, .string ⟨#[98, 97, 100, 32, 118, 101, 114, 115, 105, 111, 110]⟩] 30)).alloc (.cells #[.string ⟨#[83, 101, 99, 45, 87, 101, 98, 83, 111, 99, 107, 101, 116, 45, 86, 101, 114, 115, 105, 111, 110]⟩, .string ⟨#[49, 51]⟩] 35)) := (Gr.alloc _ _).alloc1 _
    have x0 : ((w1.alloc (.cells #[.int .i64 426, .slice (some ⟨w1.heap.size + 1, 0, none⟩) 1 1, .string ⟨#[98, 97, 100, 32, 118, 101, 114, 115, 105, 111, 110]⟩] 30)).alloc (.cells #[.string ⟨#[83, 101, 99, 45, 87, 101, 98, 83, 111, 99, 107, 101, 116, 45, 86, 101, 114, 115, 105, 111, 110]⟩, .string ⟨#[49, 51]⟩] 35)).cell? ⟨w1.heap.size, 0, none⟩ = some (.int .i64 426) := (Gr.alloc _ _).cell (cell_new7 w1 [.int .i64 426, .slice (some ⟨w1.heap.size + 1, 0, none⟩) 1 1, .string ⟨#[98, 97, 100, 32, 118, 101, 114, 115, 105, 111, 110]⟩] _ 0 _ rfl)
    have x1 : ((w1.alloc (.cells #[.int .i64 426, .slice (some ⟨w1.heap.size + 1, 0, none⟩) 1 1, .string ⟨#[98, 97, 100, 32, 118, 101, 114, 115, 105, 111, 110]⟩] 30)).alloc (.cells #[.string ⟨#[83, 101, 99, 45, 87, 101, 98, 83, 111, 99, 107, 101, 116, 45, 86, 101, 114, 115, 105, 111, 110]⟩, .string ⟨#[49, 51]⟩] 35)).cell? ⟨w1.heap.size, 1, none⟩ = some (.slice (some ⟨w1.heap.size + 1, 0, none⟩) 1 1) := (Gr.alloc _ _).cell (cell_new7 w1 [.int .i64 426, .slice (some ⟨w1.heap.size + 1, 0, none⟩) 1 1, .string ⟨#[98, 97, 100, 32, 118, 101, 114, 115, 105, 111, 110]⟩] _ 1 _ rfl)
    have x2 : ((w1.alloc (.cells #[.int .i64 426, .slice (some ⟨w1.heap.size + 1, 0, none⟩) 1 1, .string ⟨#[98, 97, 100, 32, 118, 101, 114, 115, 105, 111, 110]⟩] 30)).alloc (.cells #[.string ⟨#[83, 101, 99, 45, 87, 101, 98, 83, 111, 99, 107, 101, 116, 45, 86, 101, 114, 115, 105, 111, 110]⟩, .string ⟨#[49, 51]⟩] 35)).cell? ⟨w1.heap.size, 2, none⟩ = some (.string ⟨#[98, 97, 100, 32, 118, 101, 114, 115, 105, 111, 110]⟩) := (Gr.alloc _ _).cell (cell_new7 w1 [.int .i64 426, .slice (some ⟨w1.heap.size + 1, 0, none⟩) 1 1, .string ⟨#[98, 97, 100, 32, 118, 101, 114, 115, 105, 111, 110]⟩] _ 2 _ rfl)
    have hfa : FieldsAt ((w1.alloc (.cells #[.int .i64 426, .slice (some ⟨w1.heap.size + 1, 0, none⟩) 1 1, .string ⟨#[98, 97, 100, 32, 118, 101, 114, 115, 105, 111, 110]⟩] 30)).alloc (.cells #[.string ⟨#[83, 101, 99, 45, 87, 101, 98, 83, 111, 99, 107, 101, 116, 45, 86, 101, 114, 115, 105, 111, 110]⟩, .string ⟨#[49, 51]⟩] 35)) (.slice (some ⟨w1.heap.size + 1, 0, none⟩) 1 1) [(kVer, k13)] := by
      have := fieldsAt_new (w1.alloc (.cells #[.int .i64 426, .slice (some ⟨w1.heap.size + 1, 0, none⟩) 1 1, .string ⟨#[98, 97, 100, 32, 118, 101, 114, 115, 105, 111, 110]⟩] 30)) [(kVer, k13)] 35 1
      rw [World.size_alloc] at this
      exact this
    generalize ((w1.alloc (.cells #[.int .i64 426, .slice (some ⟨w1.heap.size + 1, 0, none⟩) 1 1, .string ⟨#[98, 97, 100, 32, 118, 101, 114, 115, 105, 111, 110]⟩] 30)).alloc (.cells #[.string ⟨#[83, 101, 99, 45, 87, 101, 98, 83, 111, 99, 107, 101, 116, 45, 86, 101, 114, 115, 105, 111, 110]⟩, .string ⟨#[49, 51]⟩] 35)) = W9 at gx x0 x1 x2 hfa ⊢
    replace n0 := gx.cell n0
    replace n1 := gx.cell n1
    replace n2 := gx.cell n2
    replace z0 := (Below.frozen gx (p := ⟨w.heap.size + 1, 0, none⟩) hbl).trans z0
    replace z1 := (Below.frozen gx (p := ⟨w.heap.size + 1, 1, none⟩) hbl).trans z1
    replace z2 := (Below.frozen gx (p := ⟨w.heap.size + 1, 2, none⟩) hbl).trans z2
    have g9 := Lib.hid (g1.out.trans gx)
    have hfa' := Lib.hid hfa
    have hne : (w1.heap.size + 1) ≠ w.heap.size + 1 := by omega
    have hne' := Lib.hid hne
    clear gx hfa hne
    go_wp2
    rw [hr.out]
    refine bodyPost_ret (v := .tuple #[((⟨426, [(kVer, k13)], kBadV⟩, false) : Rp × Bool).1.V (.slice (some ⟨w1.heap.size + 1, 0, none⟩) 1 1), .bool ((⟨426, [(kVer, k13)], kBadV⟩, false) : Rp × Bool).2]) ?_ rfl ⟨_, rfl, ((hfa'.out.put hne'.out _).put hne'.out _).put hne'.out _, ((g9.out.setCell hbb.out _).setCell hbb.out _).setCell hbb.out _⟩
    simp [results, Tryz.results9, go_sem, n0, n1, n2, Rp.V, kBadV]
  · have hr := Lib.hid (show answerB (a, 101) = (⟨101, [(kUpg, kWs), (kConn, kUpg), (kAcc, a)], []⟩, true) from rfl)
    go_upto_region 7 with (fail)
    have gx : Gr w1 ((w1.alloc (.cells #[.int .i64 101, .slice (some ⟨w1.heap.size + 1, 0, none⟩) 3 3, .string ⟨#[]⟩] 30)).alloc (.cells #[.string ⟨#[85, 112, 103, 114, 97, 100, 101]⟩, .string ⟨#[119, 101, 98, 115, 111, 99, 107, 101, 116]⟩, .string ⟨#[67, 111, 110, 110, 101, 99, 116, 105, 111, 110]⟩, .string ⟨#[85, 112, 103, 114, 97, 100, 101]⟩, .string ⟨#[83, 101, 99, 45, 87, 101, 98, 83, 111, 99, 107, 101, 116, 45, 65, 99, 99, 101, 112, 116]⟩, .string ⟨a.toArray⟩] 35)) := (Gr.alloc _ _).alloc1 _
    have x0 : ((w1.alloc (.cells #[.int .i64 101, .slice (some ⟨w1.heap.size + 1, 0, none⟩) 3 3, .string ⟨#[]⟩] 30)).alloc (.cells #[.string ⟨#[85, 112, 103, 114, 97, 100, 101]⟩, .string ⟨#[119, 101, 98, 115, 111, 99, 107, 101, 116]⟩, .string ⟨#[67, 111, 110, 110, 101, 99, 116, 105, 111, 110]⟩, .string ⟨#[85, 112, 103, 114, 97, 100, 101]⟩, .string ⟨#[83, 101, 99, 45, 87, 101, 98, 83, 111, 99, 107, 101, 116, 45, 65, 99, 99, 101, 112, 116]⟩, .string ⟨a.toArray⟩] 35)).cell? ⟨w1.heap.size, 0, none⟩ = some (.int .i64 101) := (Gr.alloc _ _).cell (cell_new7 w1 [.int .i64 101, .slice (some ⟨w1.heap.size + 1, 0, none⟩) 3 3, .string ⟨#[]⟩] _ 0 _ rfl)
    have x1 : ((w1.alloc (.cells #[.int .i64 101, .slice (some ⟨w1.heap.size + 1, 0, none⟩) 3 3, .string ⟨#[]⟩] 30)).alloc (.cells #[.string ⟨#[85, 112, 103, 114, 97, 100, 101]⟩, .string ⟨#[119, 101, 98, 115, 111, 99, 107, 101, 116]⟩, .string ⟨#[67, 111, 110, 110, 101, 99, 116, 105, 111, 110]⟩, .string ⟨#[85, 112, 103, 114, 97, 100, 101]⟩, .string ⟨#[83, 101, 99, 45, 87, 101, 98, 83, 111, 99, 107, 101, 116, 45, 65, 99, 99, 101, 112, 116]⟩, .string ⟨a.toArray⟩] 35)).cell? ⟨w1.heap.size, 1, none⟩ = some (.slice (some ⟨w1.heap.size + 1, 0, none⟩) 3 3) := (Gr.alloc _ _).cell (cell_new7 w1 [.int .i64 101, .slice (some ⟨w1.heap.size + 1, 0, none⟩) 3 3, .string ⟨#[]⟩] _ 1 _ rfl)
    have x2 : ((w1.alloc (.cells #[.int .i64 101, .slice (some ⟨w1.heap.size + 1, 0, none⟩) 3 3, .string ⟨#[]⟩] 30)).alloc (.cells #[.string ⟨#[85, 112, 103, 114, 97, 100, 101]⟩, .string ⟨#[119, 101, 98, 115, 111, 99, 107, 101, 116]⟩, .string ⟨#[67, 111, 110, 110, 101, 99, 116, 105, 111, 110]⟩, .string ⟨#[85, 112, 103, 114, 97, 100, 101]⟩, .string ⟨#[83, 101, 99, 45, 87, 101, 98, 83, 111, 99, 107, 101, 116, 45, 65, 99, 99, 101, 112, 116]⟩, .string ⟨a.toArray⟩] 35)).cell? ⟨w1.heap.size, 2, none⟩ = some (.string ⟨#[]⟩) := (Gr.alloc _ _).cell (cell_new7 w1 [.int .i64 101, .slice (some ⟨w1.heap.size + 1, 0, none⟩) 3 3, .string ⟨#[]⟩] _ 2 _ rfl)
    have hfa : FieldsAt ((w1.alloc (.cells #[.int .i64 101, .slice (some ⟨w1.heap.size + 1, 0, none⟩) 3 3, .string ⟨#[]⟩] 30)).alloc (.cells #[.string ⟨#[85, 112, 103, 114, 97, 100, 101]⟩, .string ⟨#[119, 101, 98, 115, 111, 99, 107, 101, 116]⟩, .string ⟨#[67, 111, 110, 110, 101, 99, 116, 105, 111, 110]⟩, .string ⟨#[85, 112, 103, 114, 97, 100, 101]⟩, .string ⟨#[83, 101, 99, 45, 87, 101, 98, 83, 111, 99, 107, 101, 116, 45, 65, 99, 99, 101, 112, 116]⟩, .string ⟨a.toArray⟩] 35)) (.slice (some ⟨w1.heap.size + 1, 0, none⟩) 3 3) [(kUpg, kWs), (kConn, kUpg), (kAcc, a)] := by
      have := fieldsAt_new (w1.alloc (.cells #[.int .i64 101, .slice (some ⟨w1.heap.size + 1, 0, none⟩) 3 3, .string ⟨#[]⟩] 30)) [(kUpg, kWs), (kConn, kUpg), (kAcc, a)] 35 3
      rw [World.size_alloc] at this
      exact this
    generalize ((w1.alloc (.cells #[.int .i64 101, .slice (some ⟨w1.heap.size + 1, 0, none⟩) 3 3, .string ⟨#[]⟩] 30)).alloc (.cells #[.string ⟨#[85, 112, 103, 114, 97, 100, 101]⟩, .string ⟨#[119, 101, 98, 115, 111, 99, 107, 101, 116]⟩, .string ⟨#[67, 111, 110, 110, 101, 99, 116, 105, 111, 110]⟩, .string ⟨#[85, 112, 103, 114, 97, 100, 101]⟩, .string ⟨#[83, 101, 99, 45, 87, 101, 98, 83, 111, 99, 107, 101, 116, 45, 65, 99, 99, 101, 112, 116]⟩, .string ⟨a.toArray⟩] 35)) = W9 at gx x0 x1 x2 hfa ⊢
    replace n0 := gx.cell n0
    replace n1 := gx.cell n1
    replace n2 := gx.cell n2
    replace z0 := (Below.frozen gx (p := ⟨w.heap.size + 1, 0, none⟩) hbl).trans z0
    replace z1 := (Below.frozen gx (p := ⟨w.heap.size + 1, 1, none⟩) hbl).trans z1
    replace z2 := (Below.frozen gx (p := ⟨w.heap.size + 1, 2, none⟩) hbl).trans z2
    have g9 := Lib.hid (g1.out.trans gx)
    have hfa' := Lib.hid hfa
    have hne : (w1.heap.size + 1) ≠ w.heap.size + 1 := by omega
    have hne' := Lib.hid hne
    clear gx hfa hne
    go_wp2
    rw [hr.out]
    refine bodyPost_ret (v := .tuple #[((⟨101, [(kUpg, kWs), (kConn, kUpg), (kAcc, a)], []⟩, true) : Rp × Bool).1.V (.slice (some ⟨w1.heap.size + 1, 0, none⟩) 3 3), .bool ((⟨101, [(kUpg, kWs), (kConn, kUpg), (kAcc, a)], []⟩, true) : Rp × Bool).2]) ?_ rfl ⟨_, rfl, ((hfa'.out.put hne'.out _).put hne'.out _).put hne'.out _, ((g9.out.setCell hbb.out _).setCell hbb.out _).setCell hbb.out _⟩
    simp [results, Tryz.results9, go_sem, n0, n1, n2, Rp.V, kBadV]
/-- A request in a box. -/
structure RqBox (b : Nat) (W : World) (m p q : List UInt8) (v : Int) (s : Value) (bd : List UInt8) (c : Bool) : Prop where
  c0 : W.cell? ⟨b, 0, none⟩ = some (.string ⟨m.toArray⟩)
  c1 : W.cell? ⟨b, 1, none⟩ = some (.string ⟨p.toArray⟩)
  c2 : W.cell? ⟨b, 2, none⟩ = some (.string ⟨q.toArray⟩)
  c3 : W.cell? ⟨b, 3, none⟩ = some (.int .i64 v)
  c4 : W.cell? ⟨b, 4, none⟩ = some s
  c5 : W.cell? ⟨b, 5, none⟩ = some (.string ⟨bd.toArray⟩)
  c6 : W.cell? ⟨b, 6, none⟩ = some (.bool c)
theorem RqBox.gr {b : Nat} {W W' : World} {m p q : List UInt8} {v : Int} {s : Value} {bd : List UInt8} {c : Bool} (h : RqBox b W m p q v s bd c) (g : Gr W W') : RqBox b W' m p q v s bd c :=
  ⟨g.cell h.c0, g.cell h.c1, g.cell h.c2, g.cell h.c3, g.cell h.c4, g.cell h.c5, g.cell h.c6⟩
theorem rqBox_new (W : World) (m p q : List UInt8) (v : Int) (s : Value) (bd : List UInt8) (c : Bool) (t : TypeId) : RqBox W.heap.size (W.alloc (.cells #[.string ⟨m.toArray⟩, .string ⟨p.toArray⟩, .string ⟨q.toArray⟩, .int .i64 v, s, .string ⟨bd.toArray⟩, .bool c] t)) m p q v s bd c :=
  ⟨cell_new7 W [.string ⟨m.toArray⟩, .string ⟨p.toArray⟩, .string ⟨q.toArray⟩, .int .i64 v, s, .string ⟨bd.toArray⟩, .bool c] t 0 _ rfl, cell_new7 W [.string ⟨m.toArray⟩, .string ⟨p.toArray⟩, .string ⟨q.toArray⟩, .int .i64 v, s, .string ⟨bd.toArray⟩, .bool c] t 1 _ rfl, cell_new7 W [.string ⟨m.toArray⟩, .string ⟨p.toArray⟩, .string ⟨q.toArray⟩, .int .i64 v, s, .string ⟨bd.toArray⟩, .bool c] t 2 _ rfl, cell_new7 W [.string ⟨m.toArray⟩, .string ⟨p.toArray⟩, .string ⟨q.toArray⟩, .int .i64 v, s, .string ⟨bd.toArray⟩, .bool c] t 3 _ rfl, cell_new7 W [.string ⟨m.toArray⟩, .string ⟨p.toArray⟩, .string ⟨q.toArray⟩, .int .i64 v, s, .string ⟨bd.toArray⟩, .bool c] t 4 _ rfl, cell_new7 W [.string ⟨m.toArray⟩, .string ⟨p.toArray⟩, .string ⟨q.toArray⟩, .int .i64 v, s, .string ⟨bd.toArray⟩, .bool c] t 5 _ rfl, cell_new7 W [.string ⟨m.toArray⟩, .string ⟨p.toArray⟩, .string ⟨q.toArray⟩, .int .i64 v, s, .string ⟨bd.toArray⟩, .bool c] t 6 _ rfl⟩
set_option maxHeartbeats 4000000 in
set_option maxRecDepth 20000 in
theorem checks_any (r : Rq) (t : Value) (w : World) (hG : G w) (hf : FieldsAt w t r.fs) (hlf : r.fs.length ≤ 9223372036854775807) :
    Calls Tryz.prog 3 #[r.V t] w fun e w' => e = .returned (.bool true) ∧ Gr w w' := by
  have hG' := Lib.hid hG
  have hf' := Lib.hid hf
  obtain ⟨pp, cap, rfl, hc⟩ := hf
  have hgr := Lib.hid (fun W (hg : Gr w W) => great_any (.slice pp r.fs.length cap) r W (hf'.out.gr hg) hlf)
  have hrr := Lib.hid (rfl : r = r)
  obtain ⟨R, hR⟩ : ∃ R, checkB r = R := ⟨_, rfl⟩
  have c1 := Lib.hid (fun (hs : Short r.fs) W (hg : Gr w W) => check_is hR (.slice pp r.fs.length cap) W (hG.gr hg) (hf'.out.gr hg) hs)
  have c2 := Lib.hid (fun (h40 : r.fs.length ≤ 40) (hs : ∀ f ∈ r.fs, f.1.length ≤ 200 ∧ f.2.length ≤ 200) W (hg : Gr w W) => rcheck_any r (.slice pp r.fs.length cap) W (hf'.out.gr hg) h40 hs)
  have c3 := Lib.hid (fun (hs : Short r.fs) W (hg : Gr w W) => answer_any r (.slice pp r.fs.length cap) W (hG.gr hg) (hf'.out.gr hg) hs)
  have c4 := Lib.hid (fun (h40 : r.fs.length ≤ 40) (hs : ∀ f ∈ r.fs, f.1.length ≤ 200 ∧ f.2.length ≤ 200) W (hg : Gr w W) => ranswer_any r (.slice pp r.fs.length cap) W (hf'.out.gr hg) h40 hs)
  rw [hR] at c2 c3 c4
  obtain ⟨⟨y, ok⟩, hy⟩ : ∃ y, answerB R = y := ⟨_, rfl⟩
  have hyl : y.fs.length ≤ 3 := by
    have h : y = (answerB R).1 := by rw [hy]
    rw [h]; unfold answerB
    split
    · exact Nat.le_refl _
    · split
      · show 1 ≤ 3; decide
      · show 0 ≤ 3; decide
  rw [hy] at c3 c4
  unfold AnsPost at c3 c4
  dsimp only at c3 c4
  have hsame : sameB y y = true := by unfold sameB; simp
  obtain ⟨ra, rc⟩ := R
  obtain ⟨m, pa, qq, ver, fs, bd, cl⟩ := r
  unfold Rq.V at hgr c1 c2 c3 c4 ⊢
  dsimp only at hgr c1 c2 c3 c4 hf' hlf ⊢
  clear hG hR hy hc hrr
  go_enter Tryz.func3, Tryz.ntmps3
  obtain ⟨yc, yf, yb⟩ := y
  unfold Rp.V at c3 c4
  dsimp only at c3 c4 hyl
  go_wp2_with fail
  have rb := Lib.hid (rqBox_new w m pa qq ver (.slice pp fs.length cap) bd cl 24)
  have g0 := Lib.hid (Gr.alloc w (.cells #[.string ⟨m.toArray⟩, .string ⟨pa.toArray⟩, .string ⟨qq.toArray⟩, .int .i64 ver, .slice pp fs.length cap, .string ⟨bd.toArray⟩, .bool cl] 24))
  generalize w.alloc (.cells #[.string ⟨m.toArray⟩, .string ⟨pa.toArray⟩, .string ⟨qq.toArray⟩, .int .i64 ver, .slice pp fs.length cap, .string ⟨bd.toArray⟩, .bool cl] 24) = w0 at rb g0 ⊢
  refine (hgr.out _ g0.out).mono ?_
  rintro e w1 ⟨gr, rfl, hsm, g1⟩
  have g1' := Lib.hid (g0.out.trans g1)
  cases gr with
  | true =>
    go_wp2_with fail
    refine (wakes_any _ (hG'.out.gr g1'.out)).mono ?_
    rintro e w2 ⟨rfl, g2⟩
    go_wp2
    go_ret
    exact ⟨rfl, g1'.out.trans g2⟩
  | false =>
    have hsm' := Lib.hid (hsm rfl)
    have hsh := Lib.hid (show Short fs from ⟨by have := hsm'.out.1; omega, fun f h => by have := hsm'.out.2 f h; omega⟩)
    have r1 := Lib.hid (rb.out.gr g1)
    clear g1 rb hsm
    have d0 := r1.out.c0
    have d1 := r1.out.c1
    have d2 := r1.out.c2
    have d3 := r1.out.c3
    have d4 := r1.out.c4
    have d5 := r1.out.c5
    have d6 := r1.out.c6
    go_wp2_with fail
    refine (c1.out hsh.out _ g1'.out).mono ?_
    rintro e w2 ⟨rfl, hb⟩
    have g2 := Lib.hid (g1'.out.trans hb)
    have r2 := Lib.hid (r1.out.gr hb)
    clear hb d0 d1 d2 d3 d4 d5 d6
    have d0 := r2.out.c0
    have d1 := r2.out.c1
    have d2 := r2.out.c2
    have d3 := r2.out.c3
    have d4 := r2.out.c4
    have d5 := r2.out.c5
    have d6 := r2.out.c6
    unfold ckV
    go_wp2_with fail
    refine (c2.out hsm'.out.1 hsm'.out.2 _ g2.out).mono ?_
    rintro e w3 ⟨rfl, hb⟩
    have g3 := Lib.hid (g2.out.trans hb)
    have r3 := Lib.hid (r2.out.gr hb)
    clear hb d0 d1 d2 d3 d4 d5 d6
    have d0 := r3.out.c0
    have d1 := r3.out.c1
    have d2 := r3.out.c2
    have d3 := r3.out.c3
    have d4 := r3.out.c4
    have d5 := r3.out.c5
    have d6 := r3.out.c6
    unfold ckV
    go_wp2_with fail
    refine (c3.out hsh.out _ g3.out).mono ?_
    rintro e w4 ⟨tx, rfl, hx, hb⟩
    have g4 := Lib.hid (g3.out.trans hb)
    have r4 := Lib.hid (r3.out.gr hb)
    have hx' := Lib.hid hx
    obtain ⟨px, capx, rfl, _⟩ := hx
    clear hb d0 d1 d2 d3 d4 d5 d6
    have d0 := r4.out.c0
    have d1 := r4.out.c1
    have d2 := r4.out.c2
    have d3 := r4.out.c3
    have d4 := r4.out.c4
    have d5 := r4.out.c5
    have d6 := r4.out.c6
    go_upto_region 6 with (fail)
    have gx : Gr w4 (w4.alloc (.cells #[.int .i64 yc, .slice px yf.length capx, .string ⟨yb.toArray⟩] 30)) := Gr.alloc _ _
    have x0 : (w4.alloc (.cells #[.int .i64 yc, .slice px yf.length capx, .string ⟨yb.toArray⟩] 30)).cell? ⟨w4.heap.size, 0, none⟩ = some (.int .i64 yc) := cell_new7 w4 [.int .i64 yc, .slice px yf.length capx, .string ⟨yb.toArray⟩] _ 0 _ rfl
    have x1 : (w4.alloc (.cells #[.int .i64 yc, .slice px yf.length capx, .string ⟨yb.toArray⟩] 30)).cell? ⟨w4.heap.size, 1, none⟩ = some (.slice px yf.length capx) := cell_new7 w4 [.int .i64 yc, .slice px yf.length capx, .string ⟨yb.toArray⟩] _ 1 _ rfl
    have x2 : (w4.alloc (.cells #[.int .i64 yc, .slice px yf.length capx, .string ⟨yb.toArray⟩] 30)).cell? ⟨w4.heap.size, 2, none⟩ = some (.string ⟨yb.toArray⟩) := cell_new7 w4 [.int .i64 yc, .slice px yf.length capx, .string ⟨yb.toArray⟩] _ 2 _ rfl
    generalize w4.alloc (.cells #[.int .i64 yc, .slice px yf.length capx, .string ⟨yb.toArray⟩] 30) = w5 at gx x0 x1 x2 ⊢
    have g5 := Lib.hid (g4.out.trans gx)
    have r5 := Lib.hid (r4.out.gr gx)
    have hx5 := Lib.hid (hx'.out.gr gx)
    clear gx d0 d1 d2 d3 d4 d5 d6
    have d0 := r5.out.c0
    have d1 := r5.out.c1
    have d2 := r5.out.c2
    have d3 := r5.out.c3
    have d4 := r5.out.c4
    have d5 := r5.out.c5
    have d6 := r5.out.c6
    go_wp2_with fail
    refine (c4.out hsm'.out.1 hsm'.out.2 _ g5.out).mono ?_
    rintro e w6 ⟨ty, rfl, hy, hb⟩
    have g6 := Lib.hid (g5.out.trans hb)
    have hx6 := Lib.hid (hx5.out.gr hb)
    have hy' := Lib.hid hy
    obtain ⟨py, capy, rfl, _⟩ := hy
    replace x0 := hb.cell x0
    replace x1 := hb.cell x1
    replace x2 := hb.cell x2
    clear hb d0 d1 d2 d3 d4 d5 d6
    go_upto_region 7 with (fail)
    have gy : Gr w6 (w6.alloc (.cells #[.int .i64 yc, .slice py yf.length capy, .string ⟨yb.toArray⟩] 30)) := Gr.alloc _ _
    have y0 : (w6.alloc (.cells #[.int .i64 yc, .slice py yf.length capy, .string ⟨yb.toArray⟩] 30)).cell? ⟨w6.heap.size, 0, none⟩ = some (.int .i64 yc) := cell_new7 w6 [.int .i64 yc, .slice py yf.length capy, .string ⟨yb.toArray⟩] _ 0 _ rfl
    have y1 : (w6.alloc (.cells #[.int .i64 yc, .slice py yf.length capy, .string ⟨yb.toArray⟩] 30)).cell? ⟨w6.heap.size, 1, none⟩ = some (.slice py yf.length capy) := cell_new7 w6 [.int .i64 yc, .slice py yf.length capy, .string ⟨yb.toArray⟩] _ 1 _ rfl
    have y2 : (w6.alloc (.cells #[.int .i64 yc, .slice py yf.length capy, .string ⟨yb.toArray⟩] 30)).cell? ⟨w6.heap.size, 2, none⟩ = some (.string ⟨yb.toArray⟩) := cell_new7 w6 [.int .i64 yc, .slice py yf.length capy, .string ⟨yb.toArray⟩] _ 2 _ rfl
    generalize w6.alloc (.cells #[.int .i64 yc, .slice py yf.length capy, .string ⟨yb.toArray⟩] 30) = w7 at gy y0 y1 y2 ⊢
    have g7 := Lib.hid (g6.out.trans gy)
    have hx7 := Lib.hid (hx6.out.gr gy)
    have hy7 := Lib.hid (hy'.out.gr gy)
    replace x0 := gy.cell x0
    replace x1 := gy.cell x1
    replace x2 := gy.cell x2
    clear gy
    go_wp2_with fail
    refine (same_any ⟨yc, yf, yb⟩ ⟨yc, yf, yb⟩ _ _ _ hx7.out hy7.out (Nat.le_trans hyl (by decide)) (Nat.le_trans hyl (by decide))).mono ?_
    rintro e w8 ⟨rfl, hb⟩
    have g8 := Lib.hid (g7.out.trans hb)
    rw [hsame]
    clear hb
    go_wp2_with fail
    refine (wakes_any _ (hG'.out.gr g8.out)).mono ?_
    rintro e w9 ⟨rfl, hb⟩
    have g9 := Lib.hid (g8.out.trans hb)
    clear hb
    go_wp2
    go_ret
    exact ⟨rfl, g9.out⟩
end Go.Proofs.YtheihlalgekojaaGreatDoor
