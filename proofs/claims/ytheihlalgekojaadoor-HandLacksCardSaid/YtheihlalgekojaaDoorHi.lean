/-
  Walks over the closures of HandKnown: each turns a request.
-/
import Derived.Test.YtheihlalgekojaaDoorHh
namespace Go.Proofs.YtheihlalgekojaaDoor
open Go.RowKit
attribute [local go_sem] Oper.semAt_some

/-- What a turn finds: the request in block b0, its fields in block b1. -/
structure Turnable (b0 b1 : Nat) (W : World) : Prop where
  q : ReqAt b0 W kGET [47, 119, 115] [] 11 (.slice (some ⟨b1, 0, none⟩) 5 5) [] false
  f : FTab b1 W (askFs keyL k13)
  z : ∀ o, W.frozen? ⟨b1, o, none⟩ = false
  o : OwnF b1 W (.slice (some ⟨b1, 0, none⟩) 5 5) (askFs keyL k13)
  lt : b1 < b0
/-- What a turn leaves. -/
def Turned (b0 b1 : Nat) (m : List UInt8) (v : Int) (fs : List Fl) (W : World) (e : Ending) (W' : World) : Prop :=
  e = .returned (.tuple #[]) ∧ (∃ s, ReqAt b0 W' m [47, 119, 115] [] v s [] false ∧ FieldsAt W' s fs) ∧ Below b1 W W'

theorem ReqAt.sets {b : Nat} {W : World} {m p q : List UInt8} {v : Int} {s : Value} {bd : List UInt8} {c : Bool} (h : ReqAt b W m p q v s bd c) (u : Value) : ReqAt b (W.setCell ⟨b, 4, none⟩ u) m p q v u bd c :=
  ⟨cell_off h.c0 (by decide), cell_off h.c1 (by decide), cell_off h.c2 (by decide), cell_off h.c3 (by decide), cell_set_same h.c4, cell_off h.c5 (by decide), cell_off h.c6 (by decide), fun o => frozen_set.trans (h.fz o)⟩
theorem ReqAt.setm {b : Nat} {W : World} {m p q : List UInt8} {v : Int} {s : Value} {bd : List UInt8} {c : Bool} (h : ReqAt b W m p q v s bd c) (u : List UInt8) : ReqAt b (W.setCell ⟨b, 0, none⟩ (.string ⟨u.toArray⟩)) u p q v s bd c :=
  ⟨cell_set_same h.c0, cell_off h.c1 (by decide), cell_off h.c2 (by decide), cell_off h.c3 (by decide), cell_off h.c4 (by decide), cell_off h.c5 (by decide), cell_off h.c6 (by decide), fun o => frozen_set.trans (h.fz o)⟩
theorem ReqAt.setver {b : Nat} {W : World} {m p q : List UInt8} {v : Int} {s : Value} {bd : List UInt8} {c : Bool} (h : ReqAt b W m p q v s bd c) (u : Int) : ReqAt b (W.setCell ⟨b, 3, none⟩ (.int .i64 u)) m p q u s bd c :=
  ⟨cell_off h.c0 (by decide), cell_off h.c1 (by decide), cell_off h.c2 (by decide), cell_set_same h.c3, cell_off h.c4 (by decide), cell_off h.c5 (by decide), cell_off h.c6 (by decide), fun o => frozen_set.trans (h.fz o)⟩
theorem ReqAt.ch {b : Nat} {W W' : World} {m p q : List UInt8} {v : Int} {s : Value} {bd : List UInt8} {c : Bool} {T : Nat → Prop} (h : ReqAt b W m p q v s bd c) (g : Ch T W W') (hT : ¬ T b) : ReqAt b W' m p q v s bd c :=
  have hl : b < W.heap.size := cell_lt h.c0
  ⟨(g.cell (p := ⟨b, 0, none⟩) hl hT).trans h.c0, (g.cell (p := ⟨b, 1, none⟩) hl hT).trans h.c1, (g.cell (p := ⟨b, 2, none⟩) hl hT).trans h.c2, (g.cell (p := ⟨b, 3, none⟩) hl hT).trans h.c3, (g.cell (p := ⟨b, 4, none⟩) hl hT).trans h.c4, (g.cell (p := ⟨b, 5, none⟩) hl hT).trans h.c5, (g.cell (p := ⟨b, 6, none⟩) hl hT).trans h.c6, fun o => (g.frozen (p := ⟨b, o, none⟩) hl hT).trans (h.fz o)⟩
theorem FTab.take {b : Nat} {W : World} {fs : List Fl} (h : FTab b W fs) (n : Nat) (hn : n ≤ fs.length) (cap : Nat) : FieldsAt W (.slice (some ⟨b, 0, none⟩) n cap) (fs.take n) := by
  have h2 : FTab b W (fs.take n) := fun i hi => by
    rw [List.length_take] at hi
    rw [List.getElem_take]
    exact h i (by omega)
  have := h2.at cap
  rwa [List.length_take, Nat.min_eq_left hn] at this
theorem Turnable.set2 {b0 b1 : Nat} {W : World} (h : Turnable b0 b1 W) (k : Nat) (hk : k < 5) (u : List UInt8) {a : Addr} (ha : a = ⟨b1, k * 2 + 1, none⟩) :
    ∃ s, ReqAt b0 (W.setCell a (.string ⟨u.toArray⟩)) kGET [47, 119, 115] [] 11 s [] false ∧ FieldsAt (W.setCell a (.string ⟨u.toArray⟩)) s ((askFs keyL k13).set k ((askFs keyL k13)[k].1, u)) := by
  subst ha
  refine ⟨_, h.q.put (a := ⟨b1, k * 2 + 1, none⟩) (fun e => by have := h.lt; dsimp only at e; omega) _, ?_⟩
  have := (h.f.setv k hk u).at 5
  rwa [List.length_set] at this
set_option maxHeartbeats 2000000 in
set_option maxRecDepth 20000 in
theorem turn1 (b0 b1 : Nat) (W : World) (h : Turnable b0 b1 W) : Calls Tryd.prog 18 #[.pointer (some ⟨b0, 0, none⟩)] W (Turned b0 b1 kGET 11 (askFs keyL k13) W) := by
  go_enter Tryd.func18, Tryd.ntmps18
  go_wp2
  go_end0
  exact ⟨rfl, ⟨_, h.q, h.f.at 5⟩, Below.refl _ _⟩
set_option maxHeartbeats 2000000 in
set_option maxRecDepth 20000 in
theorem turn2 (b0 b1 : Nat) (W : World) (h : Turnable b0 b1 W) : Calls Tryd.prog 19 #[.pointer (some ⟨b0, 0, none⟩)] W (Turned b0 b1 kGET 11 ((askFs keyL k13).set 4 ((askFs keyL k13)[4].1, [56])) W) := by
  have c4 := h.q.c4
  have e : W.cell? ⟨b1, 9, none⟩ = some (.string ⟨(askFs keyL k13)[4].2.toArray⟩) := (h.f 4 (by decide)).2
  have z := h.z 9
  go_enter Tryd.func19, Tryd.ntmps19
  go_wp2
  go_end0
  exact ⟨rfl, h.set2 4 (by decide) [56] rfl, (Below.refl b1 W).setCell (show b1 ≤ b1 from Nat.le_refl _) _⟩
set_option maxHeartbeats 2000000 in
set_option maxRecDepth 20000 in
theorem turn3 (b0 b1 : Nat) (W : World) (h : Turnable b0 b1 W) : Calls Tryd.prog 20 #[.pointer (some ⟨b0, 0, none⟩)] W (Turned b0 b1 kGET 11 ((askFs keyL k13).take 4) W) := by
  have c4 := h.q.c4
  have z := h.q.fz 4
  go_enter Tryd.func20, Tryd.ntmps20
  go_wp2
  go_end0
  refine ⟨rfl, ⟨_, h.q.sets (.slice (some ⟨b1, 0, none⟩) 4 5), ?_⟩, (Below.refl _ _).setCell (show b1 ≤ b0 from Nat.le_of_lt h.lt) _⟩
  exact (h.f.put (a := ⟨b0, 4, none⟩) (fun e => by have := h.lt; dsimp only at e; omega) _).take 4 (by decide) 5
set_option maxHeartbeats 2000000 in
set_option maxRecDepth 20000 in
theorem turn4 (b0 b1 : Nat) (W : World) (h : Turnable b0 b1 W) : Calls Tryd.prog 21 #[.pointer (some ⟨b0, 0, none⟩)] W (Turned b0 b1 [80, 79, 83, 84] 11 (askFs keyL k13) W) := by
  have c0 := h.q.c0
  have z := h.q.fz 0
  go_enter Tryd.func21, Tryd.ntmps21
  go_wp2
  go_end0
  exact ⟨rfl, ⟨_, h.q.setm [80, 79, 83, 84], (h.f.put (a := ⟨b0, 0, none⟩) (fun e => by have := h.lt; dsimp only at e; omega) _).at 5⟩, (Below.refl _ _).setCell (show b1 ≤ b0 from Nat.le_of_lt h.lt) _⟩
set_option maxHeartbeats 2000000 in
set_option maxRecDepth 20000 in
theorem turn5 (b0 b1 : Nat) (W : World) (h : Turnable b0 b1 W) : Calls Tryd.prog 22 #[.pointer (some ⟨b0, 0, none⟩)] W (Turned b0 b1 kGET 10 (askFs keyL k13) W) := by
  have c0 := h.q.c3
  have z := h.q.fz 3
  go_enter Tryd.func22, Tryd.ntmps22
  go_wp2
  go_end0
  exact ⟨rfl, ⟨_, h.q.setver 10, (h.f.put (a := ⟨b0, 3, none⟩) (fun e => by have := h.lt; dsimp only at e; omega) _).at 5⟩, (Below.refl _ _).setCell (show b1 ≤ b0 from Nat.le_of_lt h.lt) _⟩
set_option maxHeartbeats 2000000 in
set_option maxRecDepth 20000 in
theorem turn6 (b0 b1 : Nat) (W : World) (h : Turnable b0 b1 W) : Calls Tryd.prog 23 #[.pointer (some ⟨b0, 0, none⟩)] W (Turned b0 b1 kGET 11 (askFs keyL k13 ++ [([115, 101, 99, 45, 119, 101, 98, 115, 111, 99, 107, 101, 116, 45, 107, 101, 121], [100, 71, 104, 108, 73, 72, 78, 104, 98, 88, 66, 115, 90, 83, 66, 117, 98, 50, 53, 106, 90, 81, 61, 61])]) W) := by
  obtain ⟨i0, hi, hz0, hz1, hz2⟩ := info_parts infoField
  have c4 := h.q.c4
  have z := h.q.fz 4
  have ho := h.o
  unfold OwnF at ho
  have hbl : b0 < W.heap.size := cell_lt h.q.c0
  have hlt := h.lt
  go_enter Tryd.func23, Tryd.ntmps23
  go_wp2_with (at_builtin; refine wpList_append_own_at _ rfl _ _ 25 rfl _ 30 i0 (.agg #[.string ⟨#[]⟩, .string ⟨#[]⟩]) 2 32 Tryd.underlying25 hi hz0 hz1 hz2 rfl (by decide) _ _ _ rfl (World.ownsRow.alloc ho _) ⟨W.heap.size, 0, none⟩ 1 1 [.string ⟨#[115, 101, 99, 45, 119, 101, 98, 115, 111, 99, 107, 101, 116, 45, 107, 101, 121]⟩, .string ⟨#[100, 71, 104, 108, 73, 72, 78, 104, 98, 88, 66, 115, 90, 83, 66, 117, 98, 50, 53, 106, 90, 81, 61, 61]⟩] rfl rfl ?qc2 (by simp [Value.oneCell']) ?qc4 ?qc5 ?qc6 ?_)
  case qc2 => exact cells_two _ _ _ _
  case qc4 => decide
  case qc5 => decide
  case qc6 => simp; omega
  intro v' w2 hown2 hgrow hnil hat
  have hq2 := (h.q.gr (Gr.alloc W _)).ch (Ch.of_grown hgrow) (by show ¬ (some b1 = some b0); intro e; injection e with e; omega)
  have hb2 := Lib.hid (below_append' (by omega) ho hgrow)
  have c5 := hq2.c4
  have z5 := hq2.fz 4
  have hown3 : OwnF b1 w2 v' (askFs keyL k13 ++ [([115, 101, 99, 45, 119, 101, 98, 115, 111, 99, 107, 101, 116, 45, 107, 101, 121], [100, 71, 104, 108, 73, 72, 78, 104, 98, 88, 66, 115, 90, 83, 66, 117, 98, 50, 53, 106, 90, 81, 61, 61])]) := hown2
  obtain ⟨p2, cap2, rfl, _⟩ := hown3.at
  have hnb : (Value.slice p2 6 cap2).ownBlock ≠ some b0 := fun e => by
    rcases hat with h | h
    · have h3 : some b0 = some b1 := e.symm.trans h
      injection h3 with h3; omega
    · have h3 := e.symm.trans h
      injection h3 with h3; omega
  have hnb' := Lib.hid hnb
  have hq2' := Lib.hid hq2
  have hown3' := Lib.hid hown3
  clear hown2 hgrow hnil hown3 hq2 hat hnb
  go_wp2
  go_end0
  exact ⟨rfl, ⟨_, hq2'.out.sets _, (hown3'.out.put (a := ⟨b0, 4, none⟩) hnb'.out _).at⟩, hb2.out.setCell (show b1 ≤ b0 from Nat.le_of_lt h.lt) _⟩
set_option maxHeartbeats 2000000 in
set_option maxRecDepth 20000 in
theorem turn7 (b0 b1 : Nat) (W : World) (h : Turnable b0 b1 W) : Calls Tryd.prog 24 #[.pointer (some ⟨b0, 0, none⟩)] W (Turned b0 b1 kGET 11 ((askFs keyL k13).set 3 ((askFs keyL k13)[3].1, [100, 71, 104, 108, 73, 72, 78, 104, 98, 88, 66, 115, 90, 83, 66, 117, 98, 50, 53, 106, 90, 81, 61])) W) := by
  have c4 := h.q.c4
  have e : W.cell? ⟨b1, 7, none⟩ = some (.string ⟨(askFs keyL k13)[3].2.toArray⟩) := (h.f 3 (by decide)).2
  have z := h.z 7
  go_enter Tryd.func24, Tryd.ntmps24
  go_wp2
  go_end0
  exact ⟨rfl, h.set2 3 (by decide) [100, 71, 104, 108, 73, 72, 78, 104, 98, 88, 66, 115, 90, 83, 66, 117, 98, 50, 53, 106, 90, 81, 61] rfl, (Below.refl b1 W).setCell (show b1 ≤ b1 from Nat.le_refl _) _⟩
set_option maxHeartbeats 2000000 in
set_option maxRecDepth 20000 in
theorem turn8 (b0 b1 : Nat) (W : World) (h : Turnable b0 b1 W) : Calls Tryd.prog 25 #[.pointer (some ⟨b0, 0, none⟩)] W (Turned b0 b1 kGET 11 ((askFs keyL k13).set 3 ((askFs keyL k13)[3].1, [100, 71, 104, 108, 73, 72, 78, 104, 98, 88, 66, 115, 90, 83, 66, 117, 98, 50, 53, 106])) W) := by
  have c4 := h.q.c4
  have e : W.cell? ⟨b1, 7, none⟩ = some (.string ⟨(askFs keyL k13)[3].2.toArray⟩) := (h.f 3 (by decide)).2
  have z := h.z 7
  go_enter Tryd.func25, Tryd.ntmps25
  go_wp2
  go_end0
  exact ⟨rfl, h.set2 3 (by decide) [100, 71, 104, 108, 73, 72, 78, 104, 98, 88, 66, 115, 90, 83, 66, 117, 98, 50, 53, 106] rfl, (Below.refl b1 W).setCell (show b1 ≤ b1 from Nat.le_refl _) _⟩
set_option maxHeartbeats 2000000 in
set_option maxRecDepth 20000 in
theorem turn9 (b0 b1 : Nat) (W : World) (h : Turnable b0 b1 W) : Calls Tryd.prog 26 #[.pointer (some ⟨b0, 0, none⟩)] W (Turned b0 b1 kGET 11 ((askFs keyL k13).set 1 ((askFs keyL k13)[1].1, [104, 50, 99, 44, 32, 87, 101, 98, 83, 111, 99, 107, 101, 116])) W) := by
  have c4 := h.q.c4
  have e : W.cell? ⟨b1, 3, none⟩ = some (.string ⟨(askFs keyL k13)[1].2.toArray⟩) := (h.f 1 (by decide)).2
  have z := h.z 3
  go_enter Tryd.func26, Tryd.ntmps26
  go_wp2
  go_end0
  exact ⟨rfl, h.set2 1 (by decide) [104, 50, 99, 44, 32, 87, 101, 98, 83, 111, 99, 107, 101, 116] rfl, (Below.refl b1 W).setCell (show b1 ≤ b1 from Nat.le_refl _) _⟩
set_option maxHeartbeats 2000000 in
set_option maxRecDepth 20000 in
theorem turn10 (b0 b1 : Nat) (W : World) (h : Turnable b0 b1 W) : Calls Tryd.prog 27 #[.pointer (some ⟨b0, 0, none⟩)] W (Turned b0 b1 kGET 11 ((askFs keyL k13).set 1 ((askFs keyL k13)[1].1, [119, 101, 98, 115, 111, 99, 107, 101, 116, 115])) W) := by
  have c4 := h.q.c4
  have e : W.cell? ⟨b1, 3, none⟩ = some (.string ⟨(askFs keyL k13)[1].2.toArray⟩) := (h.f 1 (by decide)).2
  have z := h.z 3
  go_enter Tryd.func27, Tryd.ntmps27
  go_wp2
  go_end0
  exact ⟨rfl, h.set2 1 (by decide) [119, 101, 98, 115, 111, 99, 107, 101, 116, 115] rfl, (Below.refl b1 W).setCell (show b1 ≤ b1 from Nat.le_refl _) _⟩
set_option maxHeartbeats 2000000 in
set_option maxRecDepth 20000 in
theorem turn11 (b0 b1 : Nat) (W : World) (h : Turnable b0 b1 W) : Calls Tryd.prog 28 #[.pointer (some ⟨b0, 0, none⟩)] W (Turned b0 b1 kGET 11 ((askFs keyL k13).set 2 ((askFs keyL k13)[2].1, [99, 108, 111, 115, 101])) W) := by
  have c4 := h.q.c4
  have e : W.cell? ⟨b1, 5, none⟩ = some (.string ⟨(askFs keyL k13)[2].2.toArray⟩) := (h.f 2 (by decide)).2
  have z := h.z 5
  go_enter Tryd.func28, Tryd.ntmps28
  go_wp2
  go_end0
  exact ⟨rfl, h.set2 2 (by decide) [99, 108, 111, 115, 101] rfl, (Below.refl b1 W).setCell (show b1 ≤ b1 from Nat.le_refl _) _⟩
set_option maxHeartbeats 2000000 in
set_option maxRecDepth 20000 in
theorem turn12 (b0 b1 : Nat) (W : World) (h : Turnable b0 b1 W) : Calls Tryd.prog 29 #[.pointer (some ⟨b0, 0, none⟩)] W (Turned b0 b1 kGET 11 (askFs keyL k13 ++ [([72, 111, 115, 116], [98])]) W) := by
  obtain ⟨i0, hi, hz0, hz1, hz2⟩ := info_parts infoField
  have c4 := h.q.c4
  have z := h.q.fz 4
  have ho := h.o
  unfold OwnF at ho
  have hbl : b0 < W.heap.size := cell_lt h.q.c0
  have hlt := h.lt
  go_enter Tryd.func29, Tryd.ntmps29
  go_wp2_with (at_builtin; refine wpList_append_own_at _ rfl _ _ 25 rfl _ 30 i0 (.agg #[.string ⟨#[]⟩, .string ⟨#[]⟩]) 2 32 Tryd.underlying25 hi hz0 hz1 hz2 rfl (by decide) _ _ _ rfl (World.ownsRow.alloc ho _) ⟨W.heap.size, 0, none⟩ 1 1 [.string ⟨#[72, 111, 115, 116]⟩, .string ⟨#[98]⟩] rfl rfl ?qc2 (by simp [Value.oneCell']) ?qc4 ?qc5 ?qc6 ?_)
  case qc2 => exact cells_two _ _ _ _
  case qc4 => decide
  case qc5 => decide
  case qc6 => simp; omega
  intro v' w2 hown2 hgrow hnil hat
  have hq2 := (h.q.gr (Gr.alloc W _)).ch (Ch.of_grown hgrow) (by show ¬ (some b1 = some b0); intro e; injection e with e; omega)
  have hb2 := Lib.hid (below_append' (by omega) ho hgrow)
  have c5 := hq2.c4
  have z5 := hq2.fz 4
  have hown3 : OwnF b1 w2 v' (askFs keyL k13 ++ [([72, 111, 115, 116], [98])]) := hown2
  obtain ⟨p2, cap2, rfl, _⟩ := hown3.at
  have hnb : (Value.slice p2 6 cap2).ownBlock ≠ some b0 := fun e => by
    rcases hat with h | h
    · have h3 : some b0 = some b1 := e.symm.trans h
      injection h3 with h3; omega
    · have h3 := e.symm.trans h
      injection h3 with h3; omega
  have hnb' := Lib.hid hnb
  have hq2' := Lib.hid hq2
  have hown3' := Lib.hid hown3
  clear hown2 hgrow hnil hown3 hq2 hat hnb
  go_wp2
  go_end0
  exact ⟨rfl, ⟨_, hq2'.out.sets _, (hown3'.out.put (a := ⟨b0, 4, none⟩) hnb'.out _).at⟩, hb2.out.setCell (show b1 ≤ b0 from Nat.le_of_lt h.lt) _⟩
set_option maxHeartbeats 2000000 in
set_option maxRecDepth 20000 in
theorem turn13 (b0 b1 : Nat) (W : World) (h : Turnable b0 b1 W) : Calls Tryd.prog 30 #[.pointer (some ⟨b0, 0, none⟩)] W (Turned b0 b1 kGET 11 ((askFs keyL k13).set 2 ([67, 79, 78, 78, 69, 67, 84, 73, 79, 78], (askFs keyL k13)[2].2)) W) := by
  have c4 := h.q.c4
  have e : W.cell? ⟨b1, 4, none⟩ = some (.string ⟨(askFs keyL k13)[2].1.toArray⟩) := (h.f 2 (by decide)).1
  have z := h.z 4
  go_enter Tryd.func30, Tryd.ntmps30
  go_wp2
  go_end0
  exact ⟨rfl, ⟨_, h.q.put (a := ⟨b1, 4, none⟩) (fun e => by have := h.lt; dsimp only at e; omega) _, (h.f.setn 2 (by decide) [67, 79, 78, 78, 69, 67, 84, 73, 79, 78]).at 5⟩, (Below.refl b1 W).setCell (show b1 ≤ b1 from Nat.le_refl _) _⟩
set_option maxHeartbeats 2000000 in
set_option maxRecDepth 20000 in
theorem turn14 (b0 b1 : Nat) (W : World) (h : Turnable b0 b1 W) : Calls Tryd.prog 31 #[.pointer (some ⟨b0, 0, none⟩)] W (Turned b0 b1 kGET 11 (((askFs keyL k13).set 4 ((askFs keyL k13)[4].1, [56])).set 1 ((askFs keyL k13)[1].1, [110, 111])) W) := by
  have c4 := h.q.c4
  have e : W.cell? ⟨b1, 9, none⟩ = some (.string ⟨(askFs keyL k13)[4].2.toArray⟩) := (h.f 4 (by decide)).2
  have e1 : W.cell? ⟨b1, 3, none⟩ = some (.string ⟨(askFs keyL k13)[1].2.toArray⟩) := (h.f 1 (by decide)).2
  have z := h.z 9
  have z1 := h.z 3
  have hne : b0 ≠ b1 := fun e => by have := h.lt; omega
  go_enter Tryd.func31, Tryd.ntmps31
  go_wp2
  go_end0
  refine ⟨rfl, ⟨_, (h.q.put (a := ⟨b1, 9, none⟩) (fun e => hne e.symm) (.string ⟨[56].toArray⟩)).put (a := ⟨b1, 3, none⟩) (fun e => hne e.symm) (.string ⟨[110, 111].toArray⟩), ?_⟩, ((Below.refl b1 W).setCell (show b1 ≤ b1 from Nat.le_refl _) _).setCell (show b1 ≤ b1 from Nat.le_refl _) _⟩
  exact ((h.f.setv 4 (by decide) [56]).setv 1 (by simp [askFs]) [110, 111]).at 5
/-- A row of HandKnown: the closure, the code, and what the closure makes of the request. -/
structure KRow where
  fn : Nat
  code : Nat
  m : List UInt8
  v : Int
  fs : List Fl
def krows : List KRow := [⟨18, 101, kGET, 11, askFs keyL k13⟩, ⟨19, 426, kGET, 11, (askFs keyL k13).set 4 ((askFs keyL k13)[4].1, [56])⟩, ⟨20, 400, kGET, 11, (askFs keyL k13).take 4⟩, ⟨21, 400, [80, 79, 83, 84], 11, askFs keyL k13⟩, ⟨22, 400, kGET, 10, askFs keyL k13⟩, ⟨23, 400, kGET, 11, askFs keyL k13 ++ [([115, 101, 99, 45, 119, 101, 98, 115, 111, 99, 107, 101, 116, 45, 107, 101, 121], [100, 71, 104, 108, 73, 72, 78, 104, 98, 88, 66, 115, 90, 83, 66, 117, 98, 50, 53, 106, 90, 81, 61, 61])]⟩, ⟨24, 400, kGET, 11, (askFs keyL k13).set 3 ((askFs keyL k13)[3].1, [100, 71, 104, 108, 73, 72, 78, 104, 98, 88, 66, 115, 90, 83, 66, 117, 98, 50, 53, 106, 90, 81, 61])⟩, ⟨25, 400, kGET, 11, (askFs keyL k13).set 3 ((askFs keyL k13)[3].1, [100, 71, 104, 108, 73, 72, 78, 104, 98, 88, 66, 115, 90, 83, 66, 117, 98, 50, 53, 106])⟩, ⟨26, 101, kGET, 11, (askFs keyL k13).set 1 ((askFs keyL k13)[1].1, [104, 50, 99, 44, 32, 87, 101, 98, 83, 111, 99, 107, 101, 116])⟩, ⟨27, 400, kGET, 11, (askFs keyL k13).set 1 ((askFs keyL k13)[1].1, [119, 101, 98, 115, 111, 99, 107, 101, 116, 115])⟩, ⟨28, 400, kGET, 11, (askFs keyL k13).set 2 ((askFs keyL k13)[2].1, [99, 108, 111, 115, 101])⟩, ⟨29, 400, kGET, 11, askFs keyL k13 ++ [([72, 111, 115, 116], [98])]⟩, ⟨30, 101, kGET, 11, (askFs keyL k13).set 2 ([67, 79, 78, 78, 69, 67, 84, 73, 79, 78], (askFs keyL k13)[2].2)⟩, ⟨31, 400, kGET, 11, ((askFs keyL k13).set 4 ((askFs keyL k13)[4].1, [56])).set 1 ((askFs keyL k13)[1].1, [110, 111])⟩]
def KRow.r (x : KRow) : Rq := ⟨x.m, [47, 119, 115], [], x.v, x.fs, [], false⟩
theorem krows_check : ∀ x ∈ krows, checkB x.r = (if x.code = 101 then accS else [], x.code) := by decide +kernel
theorem krows_turn : ∀ x ∈ krows, ∀ (b0 b1 : Nat) (W : World), Turnable b0 b1 W → Calls Tryd.prog x.fn #[.pointer (some ⟨b0, 0, none⟩)] W (Turned b0 b1 x.m x.v x.fs W) := by
  intro x hx b0 b1 W h
  simp only [krows, List.mem_cons, List.not_mem_nil, or_false] at hx
  rcases hx with rfl | rfl | rfl | rfl | rfl | rfl | rfl | rfl | rfl | rfl | rfl | rfl | rfl | rfl
  · exact turn1 b0 b1 W h
  · exact turn2 b0 b1 W h
  · exact turn3 b0 b1 W h
  · exact turn4 b0 b1 W h
  · exact turn5 b0 b1 W h
  · exact turn6 b0 b1 W h
  · exact turn7 b0 b1 W h
  · exact turn8 b0 b1 W h
  · exact turn9 b0 b1 W h
  · exact turn10 b0 b1 W h
  · exact turn11 b0 b1 W h
  · exact turn12 b0 b1 W h
  · exact turn13 b0 b1 W h
  · exact turn14 b0 b1 W h
end Go.Proofs.YtheihlalgekojaaDoor
