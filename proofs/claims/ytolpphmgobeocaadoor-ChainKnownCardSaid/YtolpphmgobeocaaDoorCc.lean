/-
  Walks over package chain: copies of fields, a reply with a field more, a reply that refuses.
-/
import Derived.Test.YtolpphmgobeocaaDoorVr
import Derived.Test.YtolpphmgobeocaaDoorG
import Derived.Test.YtolpphmgobeocaaDoorOf
import Derived.Test.YtolpphmgobeocaaDoorP5
import Derived.Maps.AppendAt
import Derived.Lib.Walk
import Derived.Lib.SliceRun
import Derived.Deep.Onto
namespace Go.Proofs.YtolpphmgobeocaaDoor
open Go.RowKit Go.Shelf
attribute [local go_sem] Oper.semAt_some

/-- What a copy of fields comes to. -/
def ClonePost (fs : List Fl) (w : World) (e : Ending) (w' : World) : Prop := ∃ v, e = .returned v ∧ OwnF w.heap.size w' v fs ∧ Gr w w'
set_option maxHeartbeats 1000000 in
theorem clone_any (v : Value) (fs : List Fl) (w : World) (hf : FieldsAt w v fs) (hn : fs.length ≤ 1000000) :
    Calls Tryd.prog 33 #[v] w (ClonePost fs w) := by
  obtain ⟨i0, hi, hz0, hz1, hz2⟩ := info_parts infoField
  have q22 : ∀ (w : World) (a : Option Addr) (n c n' c' : Nat), (binOp .eql 23 (.slice a n c) (.slice none n' c')).run Tryd.prog w = .ok (.bool a.isNone) w := fun w a n c n' c' => Lib.run_eql_slice_nil w _ _ a n c n' c' Tryd.underlying23
  obtain ⟨p, cap, rfl, hc⟩ := hf
  have hc' := Lib.hid hc
  clear hc
  cases p with
  | none =>
    go_enter Tryd.func33, Tryd.ntmps33
    go_wp2
    go_ret
    refine ⟨_, rfl, ?_, Gr.refl _⟩
    have h0 : fs = [] := by
      cases fs with
      | nil => rfl
      | cons f t => obtain ⟨b, off, h, _⟩ := hc'.out 0 (by simp); cases h
    subst h0
    exact World.ownsRow_nil _ _ _ _
  | some ad =>
    have hnews := Lib.hid (show ∀ j u, (fcells fs)[j]? = some u → w.cell? (ad.add j) = some u from fun j u h => by
      obtain ⟨i, hi, h | h⟩ := fcells_mem fs j u h
      · obtain ⟨rfl, rfl⟩ := h
        obtain ⟨b, off, hp, h1, h2⟩ := hc'.out i hi
        cases hp
        rw [Addr.add_lit]; exact h1
      · obtain ⟨rfl, rfl⟩ := h
        obtain ⟨b, off, hp, h1, h2⟩ := hc'.out i hi
        cases hp
        rw [Addr.add_lit]; exact h2)
    clear hc'
    go_enter Tryd.func33, Tryd.ntmps33
    go_wp2_with (at_builtin; refine wpList_append_own _ rfl _ _ 23 rfl w.heap.size 53 i0 (.agg #[.string ⟨#[]⟩, .string ⟨#[]⟩]) 2 32 Tryd.underlying23 hi hz0 hz1 hz2 rfl (by decide) _ _ _ rfl (World.ownsRow_made w #[] 0 (Nat.le_refl _) (Nat.zero_le _) (by simp)) ad fs.length cap (fcells fs) rfl ?qc1 ?qc2 ?qc3 ?qc4 ?qc5 ?qc6 ?_)
    case qc1 => exact fcells_len fs
    case qc2 =>
      intro j u hj
      exact Lib.cell?_alloc_some _ (hnews.out j u hj)
    case qc3 => exact fcells_one fs
    case qc4 => unfold maxLen; omega
    case qc5 => omega
    case qc6 => simp
    intro v' w1 hown hgrow hnil
    go_wp2
    go_ret
    refine ⟨v', rfl, by unfold OwnF; simpa using hown, ?_⟩
    exact ((Below.refl _ w).alloc (Nat.le_refl _) _).grown hgrow (by simp) (by intro k hk; simp [Value.ownBlock] at hk; omega)

/-- A step as a value. -/
def Stp.V (s : Stp) : Value := .agg #[.int .i64 s.kind, .string ⟨s.name.toArray⟩, .string ⟨s.value.toArray⟩, .int .i64 s.n]

/-- A reply with fields more. -/
def Rp.more (x : Rp) (l : List Fl) : Rp := { x with fs := x.fs ++ l }
def AddsPost (y : Rp) (w : World) (e : Ending) (w' : World) : Prop := ∃ t, e = .returned (y.V t) ∧ OwnF w.heap.size w' t y.fs ∧ Gr w w'
set_option maxHeartbeats 1000000 in
set_option maxRecDepth 100000 in
theorem adds_any (x : Rp) (t : Value) (name value : List UInt8) (w : World) (hf : FieldsAt w t x.fs) (hn : x.fs.length ≤ 1000000) :
    Calls Tryd.prog 52 #[x.V t, .string ⟨name.toArray⟩, .string ⟨value.toArray⟩] w (AddsPost (x.more [(name, value)]) w) := by
  obtain ⟨i0, hi, hz0, hz1, hz2⟩ := info_parts infoField
  obtain ⟨code, fs, b⟩ := x
  dsimp only at hf hn
  have hf' := Lib.hid hf
  obtain ⟨p, cap, rfl, _⟩ := hf
  have hn' := Lib.hid hn
  clear hn
  show Calls Tryd.prog 52 #[.agg #[.int .i64 code, .slice p fs.length cap, .string ⟨b.toArray⟩], .string ⟨name.toArray⟩, .string ⟨value.toArray⟩] w _
  go_enter Tryd.func52, Tryd.ntmps52
  go_wp2_with fail
  refine (clone_any _ fs _ (hf'.out.gr ((Gr.alloc _ _).alloc1 _)) hn'.out).mono ?_
  rintro e w1 ⟨v, rfl, hown, hb⟩
  have hown' := Lib.hid hown
  clear hown
  have c0 : w1.cell? ⟨w.heap.size, 0, none⟩ = some (.int .i64 code) := hb.cell (by simp [go_sem])
  have c1 : w1.cell? ⟨w.heap.size, 1, none⟩ = some (.slice p fs.length cap) := hb.cell (by simp [go_sem])
  have c2 : w1.cell? ⟨w.heap.size, 2, none⟩ = some (.string ⟨b.toArray⟩) := hb.cell (by simp [go_sem])
  have d0 : w1.cell? ⟨w.heap.size + 1, 0, none⟩ = some (.int .i64 0) := hb.cell (by simp [go_sem])
  have d1 : w1.cell? ⟨w.heap.size + 1, 1, none⟩ = some (.slice none 0 0) := hb.cell (by simp [go_sem])
  have d2 : w1.cell? ⟨w.heap.size + 1, 2, none⟩ = some (.string ⟨#[]⟩) := hb.cell (by simp [go_sem])
  have f0 : ∀ o, w1.frozen? ⟨w.heap.size, o, none⟩ = false := fun o => (Below.frozen hb (by simp; omega)).trans (by simp [go_sem])
  have f1 : ∀ o, w1.frozen? ⟨w.heap.size + 1, o, none⟩ = false := fun o => (Below.frozen hb (by simp)).trans (by simp [go_sem])
  have hz : w.heap.size + 1 < w1.heap.size := by have := Below.size hb; simp at this; omega
  have hg1 := Lib.hid (((Gr.alloc _ _).alloc1 _).trans hb)
  have hb1 : ∀ k, v.ownBlock = some k → w.heap.size + 2 ≤ k := fun k e => by have := (hown'.out.lt k e).1; simpa using this
  have hb1' := Lib.hid hb1
  clear hb hb1
  go_wp2_with (at_builtin; refine wpList_append_own _ rfl _ _ 23 rfl _ 53 i0 (.agg #[.string ⟨#[]⟩, .string ⟨#[]⟩]) 2 32 Tryd.underlying23 hi hz0 hz1 hz2 rfl (by decide) _ _ _ rfl (World.ownsRow.alloc hown'.out _) ⟨w1.heap.size, 0, none⟩ 1 1 [.string ⟨name.toArray⟩, .string ⟨value.toArray⟩] rfl rfl ?qc2 (by simp [Value.oneCell']) ?qc4 ?qc5 ?qc6 ?_)
  case qc2 => exact cells_two _ _ _ _
  case qc4 => have := hn'.out; unfold maxLen; omega
  case qc5 => have := hn'.out; omega
  case qc6 => simp; omega
  intro v' w2 hown2 hgrow hnil
  have hgro := Ch.of_grown hgrow
  have kk : ∀ {k o u}, k < w.heap.size + 2 → w1.cell? ⟨k, o, none⟩ = some u → w2.cell? ⟨k, o, none⟩ = some u := fun {k o u} hk h =>
    (hgro.cell (p := ⟨k, o, none⟩) (by simp; have := hz; omega) (fun e => by have := hb1'.out _ e; (try dsimp only at this); omega)).trans ((Gr.alloc _ _).cell h)
  have kf : ∀ {k o}, k < w.heap.size + 2 → w1.frozen? ⟨k, o, none⟩ = false → w2.frozen? ⟨k, o, none⟩ = false := fun {k o} hk h =>
    (hgro.frozen (p := ⟨k, o, none⟩) (by simp; have := hz; omega) (fun e => by have := hb1'.out _ e; (try dsimp only at this); omega)).trans ((Below.frozen (Gr.alloc _ _) (show (⟨k, o, none⟩ : Addr).block < w1.heap.size by show k < _; have := hz; omega)).trans h)
  have e0 := kk (by omega) c0
  have e1 := kk (by omega) c1
  have e2 := kk (by omega) c2
  have e3 := kk (by omega) d0
  have e4 := kk (by omega) d1
  have e5 := kk (by omega) d2
  have g0 := fun o => kf (k := w.heap.size) (o := o) (by omega) (f0 o)
  have g1 := fun o => kf (k := w.heap.size + 1) (o := o) (by omega) (f1 o)
  clear c0 c1 c2 d0 d1 d2 f0 f1 kk kf
  have hgrow' := Lib.hid (show Gr w w2 from (hg1.out.alloc1 _).ch hgro (fun k e => by have := hb1'.out _ e; omega))
  have hown3 : OwnF (w.heap.size + 2) w2 v' (fs ++ [(name, value)]) := by
    unfold OwnF; rw [fcells_app, List.length_append]
    exact World.ownsRow.mono hown2 (by simp)
  have hown3' := Lib.hid hown3
  obtain ⟨p2, cap2, rfl, _⟩ := hown3.at
  clear hown2 hgrow hnil hgro hown3
  go_wp2
  refine bodyPost_ret (v := Rp.V (Rp.more ⟨code, fs, b⟩ [(name, value)]) (.slice p2 (fs ++ [(name, value)]).length cap2)) ?_ rfl ⟨_, rfl, ?_, ?_⟩
  · simp [results, Tryd.results52, go_sem, e0, e1, e2, e3, e4, e5, Rp.V, Rp.more]
  · refine World.ownsRow.mono (base := w.heap.size + 2) ?_ (by omega)
    exact (hown3'.out.ch (T := fun k => k = w.heap.size ∨ k = w.heap.size + 1) ((((Ch.setCell _ (.inl rfl) _).trans (Ch.setCell _ (.inr rfl) _)).trans (Ch.setCell _ (.inr rfl) _)).trans (Ch.setCell _ (.inr rfl) _)) (fun k hk => by (try dsimp only at hk); omega))
  · exact (((hgrow'.out.setCell (Nat.le_refl _) _).setCell (Nat.le_succ _) _).setCell (Nat.le_succ _) _).setCell (Nat.le_succ _) _

set_option maxHeartbeats 1000000 in
theorem refuse_any (code : Int) (b : List UInt8) (w : World) :
    Calls Tryd.prog 55 #[.int .i64 code, .string ⟨b.toArray⟩] w fun e w' => e = .returned (Rp.V ⟨code, [], b⟩ (.slice none 0 0)) ∧ Gr w w' := by
  go_enter Tryd.func55, Tryd.ntmps55
  go_wp2
  refine bodyPost_ret (v := Rp.V ⟨code, [], b⟩ (.slice none 0 0)) (by simp [results, Tryd.results55, go_sem, Rp.V]) rfl ⟨rfl, ?_⟩
  first
    | exact (((Gr.alloc _ _).setCell (Nat.le_refl _) _).setCell (Nat.le_refl _) _).setCell (Nat.le_refl _) _
    | exact ((Gr.alloc _ _).setCell (Nat.le_refl _) _).setCell (Nat.le_refl _) _
    | exact (Gr.alloc _ _)
end Go.Proofs.YtolpphmgobeocaaDoor
