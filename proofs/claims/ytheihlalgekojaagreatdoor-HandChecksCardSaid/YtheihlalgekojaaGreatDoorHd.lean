/-
  The walk over hand.Answer.
-/
import Derived.Test.YtheihlalgekojaaGreatDoorHc
import Derived.Test.YtheihlalgekojaaGreatDoorOf
namespace Go.Proofs.YtheihlalgekojaaGreatDoor
open Go.RowKit
attribute [local go_sem] Oper.semAt_some

/-- A reply that is answered, and whether it becomes a WebSocket. -/
def AnsPost (w : World) (x : Rp × Bool) (e : Ending) (w' : World) : Prop := ∃ t, e = .returned (.tuple #[x.1.V t, .bool x.2]) ∧ FieldsAt w' t x.1.fs ∧ Gr w w'
theorem put3 {W : World} {b : Nat} {u0 u1 u2 : Value} (n0 : W.cell? ⟨b, 0, none⟩ = some u0) (n1 : W.cell? ⟨b, 1, none⟩ = some u1) (n2 : W.cell? ⟨b, 2, none⟩ = some u2) (v0 v1 v2 : Value) (o : Obj) :
    ((((W.setCell ⟨b, 0, none⟩ v0).setCell ⟨b, 1, none⟩ v1).setCell ⟨b, 2, none⟩ v2).alloc o).cell? ⟨b, 0, none⟩ = some v0 ∧ ((((W.setCell ⟨b, 0, none⟩ v0).setCell ⟨b, 1, none⟩ v1).setCell ⟨b, 2, none⟩ v2).alloc o).cell? ⟨b, 1, none⟩ = some v1 ∧ ((((W.setCell ⟨b, 0, none⟩ v0).setCell ⟨b, 1, none⟩ v1).setCell ⟨b, 2, none⟩ v2).alloc o).cell? ⟨b, 2, none⟩ = some v2 :=
  ⟨(Gr.alloc _ _).cell (cell_off (cell_off (cell_set_same n0) (by decide)) (by decide)), (Gr.alloc _ _).cell (cell_off (cell_set_same (cell_off n1 (by decide))) (by decide)), (Gr.alloc _ _).cell (cell_set_same (cell_off (cell_off n2 (by decide)) (by decide)))⟩
theorem put3_size (W : World) (a b c : Addr) (u v x : Value) : (((W.setCell a u).setCell b v).setCell c x).heap.size = W.heap.size := by simp
set_option maxHeartbeats 8000000 in
set_option maxRecDepth 20000 in
theorem answer_any (r : Rq) (t : Value) (w : World) (hG : G w) (hf : FieldsAt w t r.fs) (hs : Short r.fs) :
    Calls Tryz.prog 8 #[r.V t] w (AnsPost w (answerB (checkB r))) := by
  have hck := Lib.hid (fun W (hg : Gr w W) => check_any r t W (hG.gr hg) (hf.gr hg) hs)
  have hcode := check_code r
  obtain ⟨⟨a, c⟩, hR⟩ : ∃ R, checkB r = R := ⟨_, rfl⟩
  rw [hR] at hck hcode ⊢
  dsimp only at hcode
  obtain ⟨p, cap, ht, _⟩ := hf
  subst ht
  clear hR hG hs
  unfold Rq.V at hck ⊢
  obtain ⟨m, pp, q, ver, fs, bd, cl⟩ := r
  dsimp only at hck ⊢
  go_enter Tryz.func8, Tryz.ntmps8
  go_wp2_with fail
  have g0 := Lib.hid (((Gr.alloc w (.cells #[.string ⟨m.toArray⟩, .string ⟨pp.toArray⟩, .string ⟨q.toArray⟩, .int .i64 ver, .slice p fs.length cap, .string ⟨bd.toArray⟩, .bool cl] 24)).alloc1 (.cells #[.int .i64 0, .slice none 0 0, .string ⟨#[]⟩] 30)))
  have n0 : ((w.alloc (.cells #[.string ⟨m.toArray⟩, .string ⟨pp.toArray⟩, .string ⟨q.toArray⟩, .int .i64 ver, .slice p fs.length cap, .string ⟨bd.toArray⟩, .bool cl] 24)).alloc (.cells #[.int .i64 0, .slice none 0 0, .string ⟨#[]⟩] 30)).cell? ⟨w.heap.size + 1, 0, none⟩ = some (.int .i64 0) := by simp [go_sem]
  have n1 : ((w.alloc (.cells #[.string ⟨m.toArray⟩, .string ⟨pp.toArray⟩, .string ⟨q.toArray⟩, .int .i64 ver, .slice p fs.length cap, .string ⟨bd.toArray⟩, .bool cl] 24)).alloc (.cells #[.int .i64 0, .slice none 0 0, .string ⟨#[]⟩] 30)).cell? ⟨w.heap.size + 1, 1, none⟩ = some (.slice none 0 0) := by simp [go_sem]
  have n2 : ((w.alloc (.cells #[.string ⟨m.toArray⟩, .string ⟨pp.toArray⟩, .string ⟨q.toArray⟩, .int .i64 ver, .slice p fs.length cap, .string ⟨bd.toArray⟩, .bool cl] 24)).alloc (.cells #[.int .i64 0, .slice none 0 0, .string ⟨#[]⟩] 30)).cell? ⟨w.heap.size + 1, 2, none⟩ = some (.string ⟨#[]⟩) := by simp [go_sem]
  have z : ∀ o, ((w.alloc (.cells #[.string ⟨m.toArray⟩, .string ⟨pp.toArray⟩, .string ⟨q.toArray⟩, .int .i64 ver, .slice p fs.length cap, .string ⟨bd.toArray⟩, .bool cl] 24)).alloc (.cells #[.int .i64 0, .slice none 0 0, .string ⟨#[]⟩] 30)).frozen? ⟨w.heap.size + 1, o, none⟩ = false := fun o => World.frozen?_alloc_at _ _ _ _ (by simp)
  refine (hck.out _ g0.out).mono ?_
  rintro e w1 ⟨rfl, hb⟩
  have g1 := Lib.hid (g0.out.trans hb)
  replace n0 := hb.cell n0
  replace n1 := hb.cell n1
  replace n2 := hb.cell n2
  have z0 : w1.frozen? ⟨w.heap.size + 1, 0, none⟩ = false := (Below.frozen hb (p := ⟨w.heap.size + 1, 0, none⟩) (by simp)).trans (z 0)
  have z1 : w1.frozen? ⟨w.heap.size + 1, 1, none⟩ = false := (Below.frozen hb (p := ⟨w.heap.size + 1, 1, none⟩) (by simp)).trans (z 1)
  have z2 : w1.frozen? ⟨w.heap.size + 1, 2, none⟩ = false := (Below.frozen hb (p := ⟨w.heap.size + 1, 2, none⟩) (by simp)).trans (z 2)
  have hbl : w.heap.size + 1 < w1.heap.size := cell_lt n0
  clear hb z
  unfold ckV
  have hbb := Lib.hid (show w.heap.size ≤ w.heap.size + 1 by omega)
  rcases hcode with rfl | rfl | rfl
  · go_wp2
    refine bodyPost_ret (v := .tuple #[(answerB (a, 400)).1.V (.slice none 0 0), .bool (answerB (a, 400)).2]) (by simp [results, Tryz.results8, go_sem, n0, n1, n2, Rp.V, answerB, kBadH, kBadV]) rfl ⟨_, rfl, fieldsAt_none _ _, ((g1.out.setCell hbb.out _).setCell hbb.out _).setCell hbb.out _⟩
  · go_wp2
    rw [show answerB (a, 426) = (⟨426, [(kVer, k13)], kBadV⟩, false) from rfl]
    have kk := put3 n0 n1 n2
    refine bodyPost_ret (v := .tuple #[((⟨426, [(kVer, k13)], kBadV⟩, false) : Rp × Bool).1.V (.slice (some ⟨w1.heap.size, 0, none⟩) 1 1), .bool ((⟨426, [(kVer, k13)], kBadV⟩, false) : Rp × Bool).2]) ?_ rfl ⟨_, rfl, ?_, (((g1.out.setCell hbb.out _).setCell hbb.out _).setCell hbb.out _).alloc1 _⟩
    · simp [results, Tryz.results8, go_sem, kk, Rp.V, kBadV]
    · have := fieldsAt_new (((w1.setCell ⟨w.heap.size + 1, 0, none⟩ (.int .i64 426)).setCell ⟨w.heap.size + 1, 1, none⟩ (.slice (some ⟨w1.heap.size, 0, none⟩) 1 1)).setCell ⟨w.heap.size + 1, 2, none⟩ (.string ⟨kBadV.toArray⟩)) [(kVer, k13)] 35 1
      rw [put3_size] at this
      exact this
  · go_wp2
    rw [show answerB (a, 101) = (⟨101, [(kUpg, kWs), (kConn, kUpg), (kAcc, a)], []⟩, true) from rfl]
    have kk := put3 n0 n1 n2
    refine bodyPost_ret (v := .tuple #[((⟨101, [(kUpg, kWs), (kConn, kUpg), (kAcc, a)], []⟩, true) : Rp × Bool).1.V (.slice (some ⟨w1.heap.size, 0, none⟩) 3 3), .bool ((⟨101, [(kUpg, kWs), (kConn, kUpg), (kAcc, a)], []⟩, true) : Rp × Bool).2]) ?_ rfl ⟨_, rfl, ?_, (((g1.out.setCell hbb.out _).setCell hbb.out _).setCell hbb.out _).alloc1 _⟩
    · simp [results, Tryz.results8, go_sem, kk, Rp.V, kBadV]
    · have := fieldsAt_new (((w1.setCell ⟨w.heap.size + 1, 0, none⟩ (.int .i64 101)).setCell ⟨w.heap.size + 1, 1, none⟩ (.slice (some ⟨w1.heap.size, 0, none⟩) 3 3)).setCell ⟨w.heap.size + 1, 2, none⟩ (.string ⟨#[]⟩)) [(kUpg, kWs), (kConn, kUpg), (kAcc, a)] 35 3
      rw [put3_size] at this
      exact this
end Go.Proofs.YtheihlalgekojaaGreatDoor
