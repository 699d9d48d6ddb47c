/-
  The wake of the statements of package field.
-/
import Derived.Test.YtpjocannogcejaaDoorG
import Derived.Test.YtpjocannogcejaaDoorJ
import Derived.Test.YtpjocannogcejaaDoorK
namespace Go.Proofs.YtpjocannogcejaaDoor
open Go.RowKit

theorem parse_is (l n v : List UInt8) (ok : Bool) (h : parseB l = (n, v, ok)) (w : World) (hG : G w) (hl : l.length < 4294967281) :
    Calls Tryd.prog 10 #[.string ⟨l.toArray⟩] w fun e w' => e = .returned (.tuple #[.agg #[.string ⟨n.toArray⟩, .string ⟨v.toArray⟩], .bool ok]) ∧ Gr w w' := by
  have := parse_any l w hG hl
  rwa [h] at this
theorem get_is (v : Value) (fs : List Fl) (name r : List UInt8) (n : Nat) (h : getB fs name = (r, n)) (w : World) (hG : G w) (hf : FieldsAt w v fs) (hn : fs.length ≤ 9223372036854775807)
    (hl : ∀ f ∈ fs, f.1.length ≤ 9223372036854775807) (hln : name.length ≤ 9223372036854775807) :
    Calls Tryd.prog 12 #[v, .string ⟨name.toArray⟩] w fun e w' => e = .returned (.tuple #[.string ⟨r.toArray⟩, .int .i64 n]) ∧ Gr w w' := by
  have := get_any v fs name w hG hf hn hl hln
  rwa [h] at this
theorem alike_is (a b : List UInt8) (r : Bool) (h : alikeB a b = r) (w : World) (hG : G w) (hla : a.length ≤ 9223372036854775807) (hlb : b.length ≤ 9223372036854775807) :
    Calls Tryd.prog 16 #[.string ⟨a.toArray⟩, .string ⟨b.toArray⟩] w fun e w' => e = .returned (.bool r) ∧ Gr w w' := h ▸ alike_any a b w hG hla hlb
theorem has_is (l word : List UInt8) (r : Bool) (h : hasB l word = r) (w : World) (hG : G w) (hl : l.length ≤ 4611686018427387904) (hw : word.length ≤ 9223372036854775807) :
    Calls Tryd.prog 14 #[.string ⟨l.toArray⟩, .string ⟨word.toArray⟩] w fun e w' => e = .returned (.bool r) ∧ Gr w w' := h ▸ has_any l word w hG hl hw

theorem cAw1 : parseB [72, 111, 115, 116, 58, 32, 97, 32, 98, 32] = ([72, 111, 115, 116], [97, 32, 98], true) := by decide +kernel
theorem cAw2 : getB [([72, 111, 115, 116], [97, 32, 98]), ([72, 79, 83, 84], [121])] [104, 111, 115, 116] = ([97, 32, 98], 2) := by decide +kernel
theorem cAw3 : tokB [72, 111, 115, 116] = true := by decide +kernel
theorem cAw4 : alikeB [104, 79, 83, 84] [72, 111, 115, 116] = true := by decide +kernel
theorem cAw5 : hasB [107, 101, 101, 112, 45, 97, 108, 105, 118, 101, 44, 32, 85, 112, 103, 114, 97, 100, 101] [117, 112, 103, 114, 97, 100, 101] = true := by decide +kernel

set_option maxHeartbeats 1000000 in
theorem awake_any (w : World) (hG : G w) : Calls Tryd.prog 13 #[] w fun e w' => e = .returned (.bool true) ∧ Gr w w' := by
  have hG' := Lib.hid hG
  clear hG
  go_enter Tryd.func13, Tryd.ntmps13
  go_wp2_with fail
  refine (parse_is _ _ _ _ cAw1 _ hG'.out (by decide)).mono ?_
  rintro e w1 ⟨rfl, hb1⟩
  have hg1 := Lib.hid hb1
  clear hb1
  go_wp2_with fail
  refine (get_is _ [([72, 111, 115, 116], [97, 32, 98]), ([72, 79, 83, 84], [121])] _ _ _ cAw2 _ (hG'.out.gr ((hg1.out.alloc1 _).alloc1 _)) ⟨some ⟨w1.heap.size + 1, 0, none⟩, 2, rfl, fun i hi => ?_⟩ (by decide) (by decide) (by decide)).mono ?_
  · match i, hi with
    | 0, _ => exact ⟨_, _, rfl, by simp [go_sem], by simp [go_sem]⟩
    | 1, _ => exact ⟨_, _, rfl, by simp [go_sem], by simp [go_sem]⟩
  rintro e w2 ⟨rfl, hb2⟩
  obtain ⟨hce, hfr⟩ := hb2.bcell
  have hg2 := Lib.hid (((hg1.out.alloc1 _).alloc1 _).trans hb2)
  clear hb2
  go_wp2_with fail
  refine (token_is _ _ cAw3 _ (by decide)).mono ?_
  rintro e w' ⟨rfl, rfl⟩
  clear hce hfr
  go_wp2_with fail
  refine (alike_is _ _ _ cAw4 _ (hG'.out.gr hg2.out) (by decide) (by decide)).mono ?_
  rintro e w3 ⟨rfl, hb3⟩
  have hg3 := Lib.hid (hg2.out.trans hb3)
  clear hb3
  go_wp2_with fail
  refine (has_is _ _ _ cAw5 _ (hG'.out.gr hg3.out) (by decide) (by decide)).mono ?_
  rintro e w4 ⟨rfl, hb4⟩
  have hg4 := Lib.hid (hg3.out.trans hb4)
  clear hb4
  go_wp2_with fail
  go_ret
  exact ⟨rfl, hg4.out⟩
end Go.Proofs.YtpjocannogcejaaDoor
