/-
  What a law that returned true gives its row.
-/
import Derived.Test.YtglocckckdjalaaGreatDoorNl
import Derived.PinnedBridge
import Derived.Lib.LaidU8
import Derived.Lib.LaidIn
import Derived.Deep.DeepHandedRow
import Derived.Deep.DeepWitnessRowRef
import Derived.ProofKit
import Derived.Carry
import Derived.ShutString
import Derived.OpenShut
import Derived.Deep.Slices
import Derived.Deep.Fields
import Derived.ChangeSame
namespace Go.Proofs.YtglocckckdjalaaGreatDoor
open Go.RowKit Go.Lib

section
open Go.ChangeShapes Go.WideShapes Go.Deep
variable {H : Type} {enc : TypeId × Value → H}
theorem laidOut : laidOutB Tryz.prog = true := by kernel_rfl
/-- What was read before a call that leaves what lay as it was reads so behind it. -/
theorem trodAll_below {W W' : World} (hg : Gr W W') : ∀ (ts : List TypeId) (vs : List Value) (ds : List (DataW H)) (ps : List MemPlace), (∀ t ∈ ts, Tryz.prog.readableRec t = true ∧ t < Tryz.prog.types.size) →
    DataW.TrodAll enc Tryz.prog W 0 (fun _ => true) true ts vs ds ps → (∀ x ∈ ps, x.block < W.heap.size) → DataW.TrodAll enc Tryz.prog W' 0 (fun b => decide (b < W.heap.size)) true ts vs ds ps
  | [], _, _, _, _, h, _ => by
    obtain ⟨rfl, rfl, rfl⟩ := trodAll_nil h
    exact trodAll_mk0
  | t :: ts, vs, ds, ps, ht, h, hlt => by
    obtain ⟨v, vs', d, ds', p, q, rfl, rfl, rfl, h1, h2⟩ := trodAll_cons h
    obtain ⟨hr, hs⟩ := ht t (by simp)
    exact trodAll_cons_mk (Below.trod laidOut hr hs h1 hg (fun x hx => hlt x (by simp [hx]))) (trodAll_below hg ts vs' ds' q (fun u hu => ht u (by simp [hu])) h2 (fun x hx => hlt x (by simp [hx])))
/-- A law that returned true and left what lay as it was: what its row asks. -/
theorem law_post {W W' : World} {fn : Func} {s : ChangeSpec} {args : Array Value} {ds : List (DataW H)} {before : List MemPlace}
    (hW : DataW.Whole enc Tryz.prog fn.params.toList s.vars false W args.toList ds [] before) (hv : s.vars = []) (hres : (s.fn H (ds ++ [])).results = [.lit (.bool true)]) (hargs : (s.fn H (ds ++ [])).args = ds) (hvars : (s.fn H (ds ++ [])).vars = [])
    (hrt : fn.resultTypes = #[4]) (hread : (fn.params.toList.all fun t => Tryz.prog.readableRec t && decide (t < Tryz.prog.types.size)) = true) (hg : Gr W W') :
    s.post enc Tryz.prog fn false true false false W args (.bool true) W' := by
  have hlt := hW.lt
  have hW' := hW
  obtain ⟨p, q, hA, hV, rfl, _, _⟩ := hW
  refine ⟨ds, [], _, [], p, [], hW', ?_, ?_, ?_, Below.frame hg _, fun h => by cases h⟩
  · rw [hres, hrt]; exact trodAll_mk1 (shut_bool Tryz.underlying4 true)
  · rw [hargs]
    refine trodAll_below hg _ _ _ _ (fun t ht => ?_) hA (fun x hx => ?_)
    · have := List.all_eq_true.1 hread t ht
      simpa using this
    · exact hlt x (by simp [hx])
  · rw [hvars, hv]; rfl

theorem byte_of {x : Int} (h : (Lit.int .u8 x).wf = true) : ∃ c : UInt8, x = (c.toNat : Int) := by
  have hb : 0 ≤ x ∧ x ≤ 255 := by simpa [Lit.wf, IntKind.min, IntKind.max, IntKind.signed, IntKind.bits] using h
  exact ⟨UInt8.ofNat x.toNat, by simp; omega⟩
end
end Go.Proofs.YtglocckckdjalaaGreatDoor
