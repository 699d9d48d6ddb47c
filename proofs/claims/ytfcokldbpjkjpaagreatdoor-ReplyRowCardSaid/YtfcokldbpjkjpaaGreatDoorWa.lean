/-
  Replies: the walk over awake.
-/
import Derived.Test.YtfcokldbpjkjpaaGreatDoorVj
import Derived.Test.YtfcokldbpjkjpaaGreatDoorVe
import Derived.Test.YtfcokldbpjkjpaaGreatDoorSm
import Derived.Test.YtfcokldbpjkjpaaGreatDoorP32
namespace Go.Proofs.YtfcokldbpjkjpaaGreatDoor
open Go.RowKit
attribute [local go_sem] Oper.semAt_some

def exR : Rp := ⟨200, [([65], [98])], [104, 105]⟩
def ExPost (w : World) (e : Ending) (w' : World) : Prop := ∃ N : Nat, e = .returned (exR.V (.slice (some ⟨N, 0, none⟩) 1 1)) ∧ FieldsAt w' (.slice (some ⟨N, 0, none⟩) 1 1) exR.fs ∧ Gr w w'
theorem example_any (w : World) : Calls Tryz.prog 22 #[] w (ExPost w) := by
  go_enter Tryz.func22, Tryz.ntmps22
  go_wp2
  refine bodyPost_ret (v := exR.V (.slice (some ⟨w.heap.size + 1, 0, none⟩) 1 1)) ?_ rfl ⟨w.heap.size + 1, rfl, ?_, ?_⟩
  · simp [results, Tryz.results22, go_sem, exR, Rp.V]
  · refine ⟨_, 1, rfl, fun i hi => ?_⟩
    obtain rfl : i = 0 := by simp [exR] at hi; omega
    exact ⟨w.heap.size + 1, 0, rfl, by simp [go_sem, exR], by simp [go_sem, exR]⟩
  · exact (Gr.alloc w _).alloc1 _
theorem bytes_is (r : Rp) (t : Value) (head close : Bool) (o : Option (List UInt8)) (h : bytesR r head close = o) (w : World) (hG : G w) (hf : FieldsAt w t r.fs) (hlf : r.fs.length ≤ 1000000) (hs : ∀ f ∈ r.fs, f.1.length ≤ 1000000 ∧ f.2.length ≤ 1000000) (hlb : r.b.length ≤ 1000000) (hcr : -9223372036854775808 ≤ r.code ∧ r.code ≤ 9223372036854775807) :
    Calls Tryz.prog 12 #[r.V t, .bool head, .bool close] w fun e w' => e = .returned (byteV o) ∧ Gr w w' := h ▸ bytes_any r t head close w hG hf hlf hs hlb hcr
theorem right_is (r : Rp) (t : Value) (b : Bool) (h : rightR r = b) (w : World) (hG : G w) (hf : FieldsAt w t r.fs) (hlf : r.fs.length ≤ 1000000) (hs : ∀ f ∈ r.fs, f.1.length ≤ 1000000 ∧ f.2.length ≤ 1000000) (hlb : r.b.length ≤ 9223372036854775807) :
    Calls Tryz.prog 14 #[r.V t] w fun e w' => e = .returned (.bool b) ∧ Gr w w' := h ▸ right_any r t w hG hf hlf hs hlb
theorem read_is (s : List UInt8) (head : Bool) (x : Rd10) (h : readR s head = x) (w : World) (hG : G w) (hl : s.length ≤ 800000) :
    Calls Tryz.prog 18 #[.string ⟨s.toArray⟩, .bool head] w (ReadPost x w) := h ▸ read_any s head w hG hl
theorem same_is (x y : Rp) (b : Bool) (h : sameB x y = b) (s t : Value) (w : World) (hx : FieldsAt w s x.fs) (hy : FieldsAt w t y.fs) (hlx : x.fs.length ≤ 9223372036854775807) (hly : y.fs.length ≤ 9223372036854775807) :
    Calls Tryz.prog 20 #[x.V s, y.V t] w fun e w' => e = .returned (.bool b) ∧ Gr w w' := h ▸ same_any x y s t w hx hy hlx hly
theorem reason_is (c : Int) (s : List UInt8) (h : reasonL c = s) (w : World) : Calls Tryz.prog 16 #[.int .i64 c] w fun e w' => e = .returned (.string ⟨s.toArray⟩) ∧ w = w' := h ▸ reason_any c w
theorem exV (t : Value) : exR.V t = .agg #[.int .i64 200, t, .string ⟨#[104, 105]⟩] := rfl
theorem exLen : exR.fs.length = 1 := rfl
def exL : List UInt8 := List.append [72, 84, 84, 80, 47, 49, 46, 49, 32, 50, 48, 48, 32, 79, 75, 13, 10, 65, 58, 32, 98, 13, 10, 67, 111, 110, 116, 101, 110, 116, 45, 76] [101, 110, 103, 116, 104, 58, 32, 50, 13, 10, 67, 111, 110, 110, 101, 99, 116, 105, 111, 110, 58, 32, 99, 108, 111, 115, 101, 13, 10, 13, 10, 104, 105]
theorem ex_right : rightR exR = true := by decide +kernel
theorem ex_bytes : bytesR exR false true = some exL := by
  unfold bytesR
  rw [ex_right]
  have : headR exR true ++ exR.b = exL := by decide +kernel
  simpa [exR] using this
theorem ex_read (b : List UInt8) : readR (exL ++ b) false = .good exR true 65 := by
  have h := read_back (r := exR) (head := false) (close := true) ex_right (by decide) b
  have e : headR exR true ++ exR.b = exL := by decide +kernel
  simp only [Bool.false_eq_true, if_false] at h
  rw [e] at h
  exact h
set_option maxHeartbeats 8000000 in
set_option maxRecDepth 100000 in
theorem awake10_any (w : World) (hG : G w) : Calls Tryz.prog 10 #[] w fun e w' => e = .returned (.bool true) ∧ Gr w w' := by
  have hG' := Lib.hid hG
  have hsz := Lib.hid (show ∀ f ∈ exR.fs, f.1.length ≤ 1000000 ∧ f.2.length ≤ 1000000 by decide)
  have hby := Lib.hid (fun N W hGW hF => bytes_is exR (.slice (some ⟨N, 0, none⟩) 1 1) false true _ ex_bytes W hGW hF (by decide) hsz.out (by decide) (by decide))
  have hrd := Lib.hid (fun W hGW => read_is (exL ++ [98, 101, 104, 105, 110, 100]) false _ (ex_read _) W hGW (by decide))
  have hcat : (⟨exL.toArray⟩ : ByteArray) ++ ⟨#[98, 101, 104, 105, 110, 100]⟩ = ⟨(exL ++ [98, 101, 104, 105, 110, 100]).toArray⟩ := cat_mk exL _
  have hcl : ¬ 9223372036854775807 < exL.length + 6 := by decide
  clear hG
  go_enter Tryz.func10, Tryz.ntmps10
  go_wp2_with fail
  refine (example_any _).mono ?_
  rintro e w1 ⟨N, rfl, hF, hb⟩
  have g1 := Lib.hid hb
  have hF' := Lib.hid hF
  clear hb hF
  go_wp2_with fail
  refine (hby.out N _ (hG'.out.gr g1.out) hF'.out).mono ?_
  rintro e w2 ⟨rfl, hb⟩
  have g2 := Lib.hid (g1.out.trans hb)
  clear hb
  unfold byteV
  dsimp only
  go_wp2_with fail
  refine (hrd.out _ (hG'.out.gr g2.out)).mono ?_
  rintro e w3 ⟨v, rfl, hF3, hb⟩
  have g3 := Lib.hid (g2.out.trans hb)
  have hF3' := Lib.hid (show FieldsAt w3 v exR.fs from hF3)
  obtain ⟨pv, cv, rfl, _⟩ := (show FieldsAt w3 v exR.fs from hF3)
  unfold rdV
  dsimp only [rdR, rdC, rdN, rdE]
  rw [exLen] at hF3' ⊢
  rw [exV (.slice pv 1 cv)]
  clear hb
  go_upto_region 3 with (fail)
  have c0 : (w3.alloc (.cells #[.int .i64 200, .slice pv 1 cv, .string ⟨#[104, 105]⟩] 24)).cell? ⟨w3.heap.size, 0, none⟩ = some (.int .i64 200) := by simp [go_sem]
  have c1 : (w3.alloc (.cells #[.int .i64 200, .slice pv 1 cv, .string ⟨#[104, 105]⟩] 24)).cell? ⟨w3.heap.size, 1, none⟩ = some (.slice pv 1 cv) := by simp [go_sem]
  have c2 : (w3.alloc (.cells #[.int .i64 200, .slice pv 1 cv, .string ⟨#[104, 105]⟩] 24)).cell? ⟨w3.heap.size, 2, none⟩ = some (.string ⟨#[104, 105]⟩) := by simp [go_sem]
  have g4 := Lib.hid (g3.out.trans (Gr.alloc w3 (.cells #[.int .i64 200, .slice pv 1 cv, .string ⟨#[104, 105]⟩] 24)))
  have hF4 := Lib.hid (hF3'.out.gr (Gr.alloc w3 (.cells #[.int .i64 200, .slice pv 1 cv, .string ⟨#[104, 105]⟩] 24)))
  generalize w3.alloc (.cells #[.int .i64 200, .slice pv 1 cv, .string ⟨#[104, 105]⟩] 24) = w9 at c0 c1 c2 g4 hF4 ⊢
  have hS := Lib.hid (fun (W : World) (hg : Gr w9 W) => (show W.cell? ⟨w3.heap.size, 0, none⟩ = some (.int .i64 200) ∧ W.cell? ⟨w3.heap.size, 1, none⟩ = some (.slice pv 1 cv) ∧ W.cell? ⟨w3.heap.size, 2, none⟩ = some (.string ⟨#[104, 105]⟩) ∧ Gr w9 W from ⟨hg.cell c0, hg.cell c1, hg.cell c2, hg⟩))
  have hsm := Lib.hid (fun W t (hg : Gr w9 W) (ht : FieldsAt W t exR.fs) => (show Calls Tryz.prog 20 #[.agg #[.int .i64 200, .slice pv 1 cv, .string ⟨#[104, 105]⟩], exR.V t] W fun e w' => e = .returned (.bool true) ∧ Gr W w' from same_is exR exR true (sameB_refl _) _ _ W (hF4.out.gr hg) ht (by decide) (by decide)))
  have hrt := Lib.hid (fun W t (hg : Gr w9 W) (ht : FieldsAt W t exR.fs) => right_is exR t true ex_right W (hG'.out.gr (g4.out.trans hg)) ht (by decide) hsz.out (by decide))
  have hrs := Lib.hid (fun W => reason_is 404 [78, 111, 116, 32, 70, 111, 117, 110, 100] (by decide) W)
  have hexl : (exL.length : Int) = 65 := by decide
  clear hF3' hcat hcl g1 g2 g3 hF' hby hrd c0 c1 c2
  unfold exL at hexl ⊢
  go_region_held3 (fun W => W.cell? ⟨w3.heap.size, 0, none⟩ = some (.int .i64 200) ∧ W.cell? ⟨w3.heap.size, 1, none⟩ = some (.slice pv 1 cv) ∧ W.cell? ⟨w3.heap.size, 2, none⟩ = some (.string ⟨#[104, 105]⟩) ∧ Gr w9 W)
    (first
      | exact hS.out _ (Gr.drew' _)
      | exact hS.out _ (Gr.refl _)
      | (refine hS.out _ ?_; assumption))
    (first
      | (go_at_call 22; refine (example_any _).mono ?_; rintro e w5 ⟨N5, rfl, hF5, hb5⟩; have hG5 : Gr w9 w5 := Gr.trans (Gr.drew' _) hb5)
      | (go_at_call 20; refine (hsm.out _ _ hG5 hF5).mono ?_; rintro e w6 ⟨rfl, hb6⟩; have hG6 : Gr w9 w6 := Gr.trans hG5 hb6)
      | (go_at_call 22; refine (example_any _).mono ?_; rintro e w7 ⟨N7, rfl, hF7, hb7⟩; have hG7 : Gr w9 w7 := Gr.trans hG6 hb7)
      | (go_at_call 14; refine (hrt.out _ _ hG7 hF7).mono ?_; rintro e w8 ⟨rfl, hb8⟩; have hG8 : Gr w9 w8 := Gr.trans hG7 hb8)
      | (go_at_call 16; refine (hrs.out _).mono ?_; rintro e w10 ⟨rfl, rfl⟩))
  go_wp2
  go_ret
  exact ⟨rfl, g4.out.trans hG8⟩
end Go.Proofs.YtfcokldbpjkjpaaGreatDoor
