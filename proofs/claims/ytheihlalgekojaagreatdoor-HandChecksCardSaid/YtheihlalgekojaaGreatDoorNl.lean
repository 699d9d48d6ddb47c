/-
  What the rows' lists give, and a world for the witness.
  What a law that returned true gives its row.
  Arguments that are fields.
  The frame of the laws.
-/
import Derived.Test.YtheihlalgekojaaGreatDoorRows
import Derived.Test.YtheihlalgekojaaGreatDoorGd
import Derived.PinnedBridge
import Derived.Lib.LaidU8
import Derived.Lib.LaidIn
import Derived.Deep.DeepHandedRow
import Derived.Deep.DeepWitnessRowRef
import Derived.ProofKit
import Derived.Carry
import Derived.ShutString
import Derived.OpenShut
import Derived.Deep.Slices
import Derived.Deep.Fields
import Derived.ChangeSame
import Derived.Test.YtheihlalgekojaaGreatDoorG
namespace Go.Proofs.YtheihlalgekojaaGreatDoor
open Go.RowKit Go.Lib

theorem own : ownKnob Tryz.prog.godebug = none := by kernel_rfl
def laidL : List (String × DataW Unit) := [("unicode/utf8.acceptRanges", Rows.laid_unicode_utf8_acceptRanges), ("unicode/utf8.first", Rows.laid_unicode_utf8_first)]
theorem accept_eq : (Rows.laid_unicode_utf8_acceptRanges : DataW Unit) = acceptData := by kernel_rfl
theorem first_eq : Rows.laid_unicode_utf8_first = firstData := Pinned.utf8First_eq
/-- What the list gives the walks. -/
theorem G_of {W : World} (hL : laidMetH Tryz.prog laidL W) (hsh : W.ShapedOpen Tryz.prog) : G W := by
  refine ⟨Tryz.laysM219.s1_3 W hsh, ?_⟩
  have h1 := Lib.laidMet.reads (n := "unicode/utf8.first") (d := Rows.laid_unicode_utf8_first) hL (.tail _ (.head _))
  have h2 := Lib.laidMet.reads (n := "unicode/utf8.acceptRanges") (d := Rows.laid_unicode_utf8_acceptRanges) hL (.head _)
  rw [first_eq] at h1
  rw [accept_eq] at h2
  exact utf8Tabs_of_reads (ρ := Tryz.lays230_ren) { Tryz.lays230 with } ⟨by kernel_rfl, by kernel_rfl, by kernel_rfl, by kernel_rfl, by kernel_rfl, by kernel_rfl, by kernel_rfl⟩ h1 h2

/-- A world for the witness: the settled one, the two tables holding what their initialisers lay. -/
noncomputable def laidWorld (os : Os) : World :=
  let w0 := World.holding Tryz.prog os ⟨#[], #[], []⟩
  let put (h : Array Obj) (g : Nat) (cs : Array Value) : Array Obj := h.modify g fun
    | .cells _ t frozen => .cells cs t frozen
    | o => o
  let h1 := put w0.heap 1 (Lib.firstTab.map fun z => Value.int .u8 z).toArray
  let h2 := put h1 2 ((List.range 16).flatMap fun i => [Value.int .u8 (Lib.accLo i), Value.int .u8 (Lib.accHi i)]).toArray
  { w0 with heap := h2 }
theorem laid_met (os : Os) (args : Array Value) : laidMet Tryz.prog laidL ((laidWorld os).forCall (fun _ _ => 0) ⟨#[], args, []⟩).memory :=
  laidMet_of_run' 8 (by kernel_rfl) (by kernel_rfl)

end Go.Proofs.YtheihlalgekojaaGreatDoor
namespace Go.Proofs.YtheihlalgekojaaGreatDoor
open Go.RowKit Go.Lib

section
open Go.ChangeShapes Go.WideShapes Go.Deep
variable {H : Type} {enc : TypeId × Value → H}
theorem laidOut : laidOutB Tryz.prog = true := by kernel_rfl
/-- What was read before a call that leaves what lay as it was reads so behind it. -/
theorem trodAll_below {W W' : World} (hg : Gr W W') : ∀ (ts : List TypeId) (vs : List Value) (ds : List (DataW H)) (ps : List MemPlace), (∀ t ∈ ts, Tryz.prog.readableRec t = true ∧ t < Tryz.prog.types.size) →
    DataW.TrodAll enc Tryz.prog W 0 (fun _ => true) true ts vs ds ps → (∀ x ∈ ps, x.block < W.heap.size) → DataW.TrodAll enc Tryz.prog W' 0 (fun b => decide (b < W.heap.size)) true ts vs ds ps
  | [], _, _, _, _, h, _ => by
    obtain ⟨rfl, rfl, rfl⟩ := trodAll_nil h
    exact trodAll_mk0
  | t :: ts, vs, ds, ps, ht, h, hlt => by
    obtain ⟨v, vs', d, ds', p, q, rfl, rfl, rfl, h1, h2⟩ := trodAll_cons h
    obtain ⟨hr, hs⟩ := ht t (by simp)
    exact trodAll_cons_mk (Below.trod laidOut hr hs h1 hg (fun x hx => hlt x (by simp [hx]))) (trodAll_below hg ts vs' ds' q (fun u hu => ht u (by simp [hu])) h2 (fun x hx => hlt x (by simp [hx])))
/-- A law that returned true and left what lay as it was: what its row asks. -/
theorem law_post {W W' : World} {fn : Func} {s : ChangeSpec} {args : Array Value} {ds : List (DataW H)} {before : List MemPlace}
    (hW : DataW.Whole enc Tryz.prog fn.params.toList s.vars false W args.toList ds [] before) (hv : s.vars = []) (hres : (s.fn H (ds ++ [])).results = [.lit (.bool true)]) (hargs : (s.fn H (ds ++ [])).args = ds) (hvars : (s.fn H (ds ++ [])).vars = [])
    (hrt : fn.resultTypes = #[4]) (hread : (fn.params.toList.all fun t => Tryz.prog.readableRec t && decide (t < Tryz.prog.types.size)) = true) (hg : Gr W W') :
    s.post enc Tryz.prog fn false true false false W args (.bool true) W' := by
  have hlt := hW.lt
  have hW' := hW
  obtain ⟨p, q, hA, hV, rfl, _, _⟩ := hW
  refine ⟨ds, [], _, [], p, [], hW', ?_, ?_, ?_, Below.frame hg _, fun h => by cases h⟩
  · rw [hres, hrt]; exact trodAll_mk1 (shut_bool Tryz.underlying4 true)
  · rw [hargs]
    refine trodAll_below hg _ _ _ _ (fun t ht => ?_) hA (fun x hx => ?_)
    · have := List.all_eq_true.1 hread t ht
      simpa using this
    · exact hlt x (by simp [hx])
  · rw [hvars, hv]; rfl

theorem byte_of {x : Int} (h : (Lit.int .u8 x).wf = true) : ∃ c : UInt8, x = (c.toNat : Int) := by
  have hb : 0 ≤ x ∧ x ≤ 255 := by simpa [Lit.wf, IntKind.min, IntKind.max, IntKind.signed, IntKind.bits] using h
  exact ⟨UInt8.ofNat x.toNat, by simp; omega⟩
end
end Go.Proofs.YtheihlalgekojaaGreatDoor
namespace Go.Proofs.YtheihlalgekojaaGreatDoor
open Go.RowKit Go.Lib

section
open Go.ChangeShapes Go.WideShapes Go.Deep
variable {H : Type} {enc : TypeId × Value → H}
section
variable {P : Program} {w : World} {base : Nat} {spare : Nat → Bool} {held : Bool}
/-- A slice of structs whose fields are one cell each, cell by cell. -/
theorem open_slice_fields {t e : TypeId} {fs : Array Field} {fuel : Nat} {cs : List Value} {x : DataW H × List MemPlace} (ht : P.underlying t = some (.slice e)) (he : P.underlying e = some (.struct fs))
    (hone : oneCellFields P fs = true) (hC : P.cellsOf e = fs.size) (h : DataW.trod enc P w base spare held fuel t cs = some x) :
    cs = [.slice none 0 0] ∨ ∃ (a : Addr) (len cap : Nat), cs = [.slice (some a) len cap] ∧ len ≤ maxLen ∧
      ∀ i, i < len → ∀ (j : Nat) (f : Field), fs[j]? = some f → ∃ (v : Value) (y : DataW H × List MemPlace) (n : Nat), w.cell? (a.add (i * fs.size + j)) = some v ∧ DataW.trod enc P w base spare held n f.type [v] = some y := by
  rcases open_slice ht h with h0 | ⟨a, len, cap, m, n, D, Pl, hcs, _, hl, hm, hmm, hx, hi⟩
  · exact .inl h0.1
  · refine .inr ⟨a, len, cap, hcs, Nat.le_trans hl hm, fun i him j f hj => ?_⟩
    obtain ⟨cs', hc, ht'⟩ := hi i (by rw [hmm]; split <;> omega)
    rw [hC] at hc
    obtain ⟨ys, n', _, hy, hlen, hyl, hf⟩ := DataW.trod_struct he ht'
    obtain ⟨_, hcl, hat⟩ := World.cells?_some hc
    obtain ⟨ho, hk⟩ := hone_of hone j f hj
    have hjl : j < fs.size := (Array.getElem?_eq_some_iff.1 hj).1
    have hcell := hat j hjl
    have hv : cs'[j]? = some (cs'[j]'(by omega)) := List.getElem?_eq_getElem (by omega)
    have h1 := hf j f hj
    rw [ho, hk] at h1
    have hone' : (cs'.drop j).take 1 = [cs'[j]'(by omega)] := by
      rw [List.drop_eq_getElem_cons (by omega)]
      rfl
    rw [hone'] at h1
    have hys : ys[j]? = some (ys[j]'(by omega)) := List.getElem?_eq_getElem (by omega)
    exact ⟨_, _, _, by rw [← Go.Deep.add_add, hcell, hv], h1.trans hys⟩
end
theorem fieldStruct : ∃ f0 f1, Tryz.prog.underlying 35 = some (.struct #[f0, f1]) ∧ f0.type = 9 ∧ f1.type = 9 ∧ oneCellFields Tryz.prog #[f0, f1] = true := ⟨_, _, Tryz.underlying35, rfl, rfl, by kernel_rfl⟩
set_option maxRecDepth 100000 in
/-- An argument of fields, read cell by cell. -/
theorem fields_at {W : World} {fuel : Nat} {v : Value} {x : DataW H × List MemPlace} (hf : DataW.trod enc Tryz.prog W 0 (fun _ => true) true fuel 22 [v] = some x) :
    ∃ fs : List Fl, FieldsAt W v fs ∧ fs.length ≤ 9223372036854775807 ∧ ∀ f ∈ fs, f.1.length ≤ 9223372036854775807 ∧ f.2.length ≤ 9223372036854775807 := by
  obtain ⟨f0, f1, hst, ht0, ht1, hone⟩ := fieldStruct
  rcases open_slice_fields Tryz.underlying22 hst hone (by kernel_rfl) hf with h0 | ⟨a, len0, cap0, h0, hm, hc⟩
  · rw [List.cons.injEq] at h0
    obtain ⟨rfl, _⟩ := h0
    exact ⟨[], ⟨none, 0, rfl, fun i hi => absurd hi (Nat.not_lt_zero _)⟩, by simp, fun f hf => by cases hf⟩
  · rw [List.cons.injEq] at h0
    obtain ⟨rfl, _⟩ := h0
    have key : ∀ i, i < len0 → ∃ x : Fl, W.cell? (a.add (i * 2)) = some (.string ⟨x.1.toArray⟩) ∧ W.cell? (a.add (i * 2 + 1)) = some (.string ⟨x.2.toArray⟩) ∧ x.1.length ≤ 9223372036854775807 ∧ x.2.length ≤ 9223372036854775807 := fun i hi => by
      obtain ⟨v0, y0, n0, c0, t0⟩ := hc i hi 0 f0 rfl
      obtain ⟨v1, y1, n1, c1, t1⟩ := hc i hi 1 f1 rfl
      rw [ht0] at t0
      rw [ht1] at t1
      obtain ⟨s0, e0, _, l0⟩ := DataW.trod_string Tryz.underlying9 t0
      obtain ⟨s1, e1, _, l1⟩ := DataW.trod_string Tryz.underlying9 t1
      simp at e0 e1
      subst e0 e1
      refine ⟨(s0.data.toList, s1.data.toList), ?_, ?_, ?_, ?_⟩
      · rw [show (⟨(s0.data.toList).toArray⟩ : ByteArray) = s0 from Lib.mk_data s0]; exact c0
      · rw [show (⟨(s1.data.toList).toArray⟩ : ByteArray) = s1 from Lib.mk_data s1]; exact c1
      · have := size_mk s0.data.toList; rw [Lib.mk_data] at this; rw [← this]; exact l0
      · have := size_mk s1.data.toList; rw [Lib.mk_data] at this; rw [← this]; exact l1
    have key2 : ∀ i : Fin len0, ∃ x : Fl, W.cell? (a.add (i.1 * 2)) = some (.string ⟨x.1.toArray⟩) ∧ W.cell? (a.add (i.1 * 2 + 1)) = some (.string ⟨x.2.toArray⟩) ∧ x.1.length ≤ 9223372036854775807 ∧ x.2.length ≤ 9223372036854775807 := fun i => key i.1 i.2
    let g : Fin len0 → Fl := fun i => Classical.choose (key2 i)
    have hg : ∀ i, _ := fun i => Classical.choose_spec (key2 i)
    refine ⟨List.ofFn g, ⟨some a, cap0, by simp, fun i hi => ?_⟩, by simp; exact hm, fun f hf => ?_⟩
    · have hi' : i < len0 := by simpa using hi
      obtain ⟨h1, h2, _⟩ := hg ⟨i, hi'⟩
      obtain ⟨x0, h0, _⟩ := key 0 (by omega)
      have hgi : (List.ofFn g)[i]'hi = g ⟨i, hi'⟩ := by simp
      rw [hgi]
      change W.cell? (a.add (i * 2)) = some (.string ⟨(g ⟨i, hi'⟩).1.toArray⟩) at h1
      change W.cell? (a.add (i * 2 + 1)) = some (.string ⟨(g ⟨i, hi'⟩).2.toArray⟩) at h2
      obtain ⟨b, off, spot⟩ := a
      have hsp : spot = none := by
        rw [show (⟨b, off, spot⟩ : Addr).add (0 * 2) = ⟨b, off, spot⟩ from rfl] at h0
        unfold World.cell? at h0
        split at h0
        · cases spot with
          | none => rfl
          | some y => simp at h0
        · cases h0
      subst hsp
      refine ⟨b, off, rfl, ?_, ?_⟩
      · by_cases hi0 : i = 0
        · subst hi0; exact h1
        · rw [show (⟨b, off, none⟩ : Addr).add (i * 2) = ⟨b, off + i * 2, none⟩ from by unfold Addr.add; rw [if_neg (by omega)]] at h1; exact h1
      · rw [show (⟨b, off, none⟩ : Addr).add (i * 2 + 1) = ⟨b, off + i * 2 + 1, none⟩ from by unfold Addr.add; rw [if_neg (by omega)]; rfl] at h2; exact h2
    · obtain ⟨i, rfl⟩ := List.mem_ofFn.1 hf
      exact (hg i).2.2
set_option maxRecDepth 100000 in
/-- An argument of fields. -/
theorem fields_of {W : World} {base : Nat} {v : Value} {d : DataW H} {p : List MemPlace} (hv : Value.okWide Tryz.prog W .any base 22 v) (h : DataW.Trod enc Tryz.prog W 0 (fun _ => true) true 22 v d p) :
    ∃ fs : List Fl, FieldsAt W v fs ∧ fs.length ≤ 9223372036854775807 ∧ ∀ f ∈ fs, f.1.length ≤ 9223372036854775807 ∧ f.2.length ≤ 9223372036854775807 := by
  obtain ⟨a0, len0, cap0, rfl⟩ := okWide_slice Tryz.underlying22 hv
  obtain ⟨fuel, hf⟩ := h
  exact fields_at (fuel := fuel) hf
end
end Go.Proofs.YtheihlalgekojaaGreatDoor
