/-
  ChainKnown: its table, block by block; what each row says. (Printed by mk_dg.py.)
-/
import Derived.Test.YtolpphmgobeocaaDoorDc
namespace Go.Proofs.YtolpphmgobeocaaDoor
open Go.RowKit

/-- Blocks made one behind the other. -/
def allocs (w : World) : List (List Value × TypeId) → World
  | [] => w
  | x :: t => allocs (w.alloc (.cells x.1.toArray x.2)) t
theorem allocs_gr : ∀ (L : List (List Value × TypeId)) (w : World), Gr w (allocs w L)
  | [], w => Gr.refl w
  | x :: t, w => (Gr.alloc w _).trans (allocs_gr t _)
theorem allocs_cell : ∀ (L : List (List Value × TypeId)) (w : World) (i j : Nat) (x : List Value × TypeId) (u : Value), L[i]? = some x → x.1[j]? = some u → (allocs w L).cell? ⟨w.heap.size + i, j, none⟩ = some u
  | [], _, _, _, _, _, h, _ => by simp at h
  | y :: t, w, 0, j, x, u, h, hj => by
    rw [List.getElem?_cons_zero] at h
    injection h with h
    subst h
    exact (allocs_gr t _).cell (cell_new7 w _ _ j u hj)
  | y :: t, w, i + 1, j, x, u, h, hj => by
    rw [List.getElem?_cons_succ] at h
    have := allocs_cell t (w.alloc (.cells y.1.toArray y.2)) i j x u h hj
    rw [show (w.alloc (.cells y.1.toArray y.2)).heap.size + i = w.heap.size + (i + 1) by simp; omega] at this
    exact this
structure RowK where
  ss : List Stp
  r : Rq
  want : Rp
def rowsK : List RowK := [⟨[⟨1, [65], [49], 0⟩, ⟨1, [66], [50], 0⟩], ⟨[], [47, 120], [], 0, [], [], false⟩, ⟨200, [([66], [50]), ([65], [49])], [47, 120]⟩⟩,
  ⟨[⟨2, [75], [118], 0⟩, ⟨1, [65], [49], 0⟩], ⟨[], [47, 120], [], 0, [([107], [118])], [], false⟩, ⟨200, [([65], [49])], [47, 120]⟩⟩,
  ⟨[⟨2, [75], [118], 0⟩, ⟨1, [65], [49], 0⟩], ⟨[], [47, 120], [], 0, [([75], [119]), ([107], [118])], [], false⟩, ⟨403, [], [102, 111, 114, 98, 105, 100, 100, 101, 110]⟩⟩,
  ⟨[⟨2, [75], [118], 0⟩, ⟨1, [65], [49], 0⟩], ⟨[], [47, 120], [], 0, [], [], false⟩, ⟨403, [], [102, 111, 114, 98, 105, 100, 100, 101, 110]⟩⟩,
  ⟨[⟨1, [65], [49], 0⟩, ⟨4, [], [47, 97, 112, 105], 0⟩], ⟨[], [47, 97, 112, 105, 47, 120], [], 0, [], [], false⟩, ⟨200, [([65], [49])], [47, 120]⟩⟩,
  ⟨[⟨1, [65], [49], 0⟩, ⟨4, [], [47, 97, 112, 105], 0⟩], ⟨[], [47, 97, 112, 105], [], 0, [], [], false⟩, ⟨200, [([65], [49])], [47]⟩⟩,
  ⟨[⟨1, [65], [49], 0⟩, ⟨4, [], [47, 97, 112, 105], 0⟩], ⟨[], [47, 97, 112, 105, 120], [], 0, [], [], false⟩, ⟨404, [([65], [49])], [110, 111, 116, 32, 102, 111, 117, 110, 100]⟩⟩,
  ⟨[⟨3, [], [], 2⟩, ⟨1, [65], [49], 0⟩], ⟨[], [47, 120], [], 0, [], [97, 98, 99], false⟩, ⟨413, [], [116, 111, 111, 32, 108, 111, 110, 103]⟩⟩,
  ⟨[⟨3, [], [], 3⟩, ⟨1, [65], [49], 0⟩], ⟨[], [47, 120], [], 0, [], [97, 98, 99], false⟩, ⟨200, [([65], [49])], [47, 120]⟩⟩,
  ⟨[⟨5, [70, 114, 111, 109], [88, 45, 87, 104, 111], 0⟩], ⟨[], [47, 120], [], 0, [([70, 82, 79, 77], [109, 101])], [], false⟩, ⟨200, [([88, 45, 87, 104, 111], [109, 101])], [47, 120]⟩⟩,
  ⟨[⟨5, [70, 114, 111, 109], [88, 45, 87, 104, 111], 0⟩], ⟨[], [47, 120], [], 0, [], [], false⟩, ⟨200, [([88, 45, 87, 104, 111], [45])], [47, 120]⟩⟩,
  ⟨[], ⟨[], [47, 120], [], 0, [], [], false⟩, ⟨200, [], [47, 120]⟩⟩]
def badK : List Stp := [⟨0, [], [], 0⟩, ⟨6, [], [], 0⟩, ⟨1, [], [], 0⟩, ⟨1, [97, 32, 98], [49], 0⟩, ⟨1, [65], [32, 49], 0⟩, ⟨1, [99, 111, 110, 110, 101, 99, 116, 105, 111, 110], [49], 0⟩, ⟨1, [65], [49], 1⟩, ⟨2, [], [], 0⟩, ⟨3, [], [], (-1)⟩, ⟨3, [65], [], 0⟩, ⟨4, [], [47], 0⟩, ⟨4, [], [97, 112, 105], 0⟩, ⟨4, [], [47, 97, 112, 105, 47], 0⟩, ⟨5, [65], [], 0⟩, ⟨5, [65], [85, 112, 103, 114, 97, 100, 101], 0⟩, ⟨1, [65, 76, 76, 79, 87], [71, 69, 84], 0⟩, ⟨1, [115, 101, 99, 45, 119, 101, 98, 115, 111, 99, 107, 101, 116, 45, 97, 99, 99, 101, 112, 116], [], 0⟩, ⟨5, [65], [83, 101, 99, 45, 87, 101, 98, 83, 111, 99, 107, 101, 116, 45, 86, 101, 114, 115, 105, 111, 110], 0⟩, ⟨1, [67, 111, 110, 116, 101, 110, 116, 45, 76, 101, 110, 103, 116, 104], [49], 0⟩, ⟨1, [116, 114, 97, 110, 115, 102, 101, 114, 45, 101, 110, 99, 111, 100, 105, 110, 103], [], 0⟩]
/-- The blocks of the table; b: the first one's number. -/
def tabK (b : Nat) : List (List Value × TypeId) := [
  ([.int .i64 1, .string ⟨#[65]⟩, .string ⟨#[49]⟩, .int .i64 0], 35),
  ([.int .i64 1, .string ⟨#[66]⟩, .string ⟨#[50]⟩, .int .i64 0], 35),
  ([.int .i64 2, .string ⟨#[75]⟩, .string ⟨#[118]⟩, .int .i64 0], 35),
  ([.int .i64 4, .string ⟨#[]⟩, .string ⟨#[47, 97, 112, 105]⟩, .int .i64 0], 35),
  ([.string ⟨#[65]⟩, .string ⟨#[49]⟩], 53),
  ([.string ⟨#[66]⟩, .string ⟨#[50]⟩], 53),
  ([.int .i64 1, .string ⟨#[65]⟩, .string ⟨#[49]⟩, .int .i64 0, .int .i64 1, .string ⟨#[66]⟩, .string ⟨#[50]⟩, .int .i64 0], 35),
  ([.string ⟨#[66]⟩, .string ⟨#[50]⟩, .string ⟨#[65]⟩, .string ⟨#[49]⟩], 53),
  ([.int .i64 2, .string ⟨#[75]⟩, .string ⟨#[118]⟩, .int .i64 0, .int .i64 1, .string ⟨#[65]⟩, .string ⟨#[49]⟩, .int .i64 0], 35),
  ([.string ⟨#[107]⟩, .string ⟨#[118]⟩], 53),
  ([.string ⟨#[65]⟩, .string ⟨#[49]⟩], 53),
  ([.int .i64 2, .string ⟨#[75]⟩, .string ⟨#[118]⟩, .int .i64 0, .int .i64 1, .string ⟨#[65]⟩, .string ⟨#[49]⟩, .int .i64 0], 35),
  ([.string ⟨#[75]⟩, .string ⟨#[119]⟩, .string ⟨#[107]⟩, .string ⟨#[118]⟩], 53),
  ([.int .i64 2, .string ⟨#[75]⟩, .string ⟨#[118]⟩, .int .i64 0, .int .i64 1, .string ⟨#[65]⟩, .string ⟨#[49]⟩, .int .i64 0], 35),
  ([.int .i64 1, .string ⟨#[65]⟩, .string ⟨#[49]⟩, .int .i64 0, .int .i64 4, .string ⟨#[]⟩, .string ⟨#[47, 97, 112, 105]⟩, .int .i64 0], 35),
  ([.string ⟨#[65]⟩, .string ⟨#[49]⟩], 53),
  ([.int .i64 1, .string ⟨#[65]⟩, .string ⟨#[49]⟩, .int .i64 0, .int .i64 4, .string ⟨#[]⟩, .string ⟨#[47, 97, 112, 105]⟩, .int .i64 0], 35),
  ([.string ⟨#[65]⟩, .string ⟨#[49]⟩], 53),
  ([.int .i64 1, .string ⟨#[65]⟩, .string ⟨#[49]⟩, .int .i64 0, .int .i64 4, .string ⟨#[]⟩, .string ⟨#[47, 97, 112, 105]⟩, .int .i64 0], 35),
  ([.string ⟨#[65]⟩, .string ⟨#[49]⟩], 53),
  ([.int .i64 3, .string ⟨#[]⟩, .string ⟨#[]⟩, .int .i64 2, .int .i64 1, .string ⟨#[65]⟩, .string ⟨#[49]⟩, .int .i64 0], 35),
  ([.int .i64 3, .string ⟨#[]⟩, .string ⟨#[]⟩, .int .i64 3, .int .i64 1, .string ⟨#[65]⟩, .string ⟨#[49]⟩, .int .i64 0], 35),
  ([.string ⟨#[65]⟩, .string ⟨#[49]⟩], 53),
  ([.int .i64 5, .string ⟨#[70, 114, 111, 109]⟩, .string ⟨#[88, 45, 87, 104, 111]⟩, .int .i64 0], 35),
  ([.string ⟨#[70, 82, 79, 77]⟩, .string ⟨#[109, 101]⟩], 53),
  ([.string ⟨#[88, 45, 87, 104, 111]⟩, .string ⟨#[109, 101]⟩], 53),
  ([.int .i64 5, .string ⟨#[70, 114, 111, 109]⟩, .string ⟨#[88, 45, 87, 104, 111]⟩, .int .i64 0], 35),
  ([.string ⟨#[88, 45, 87, 104, 111]⟩, .string ⟨#[45]⟩], 53),
  ([.slice (some ⟨b + 6, 0, none⟩) 2 2, .string ⟨#[]⟩, .string ⟨#[47, 120]⟩, .string ⟨#[]⟩, .int .i64 0, .slice none 0 0, .string ⟨#[]⟩, .bool false, .int .i64 200, .slice (some ⟨b + 7, 0, none⟩) 2 2, .string ⟨#[47, 120]⟩, .slice (some ⟨b + 8, 0, none⟩) 2 2, .string ⟨#[]⟩, .string ⟨#[47, 120]⟩, .string ⟨#[]⟩, .int .i64 0, .slice (some ⟨b + 9, 0, none⟩) 1 1, .string ⟨#[]⟩, .bool false, .int .i64 200, .slice (some ⟨b + 10, 0, none⟩) 1 1, .string ⟨#[47, 120]⟩, .slice (some ⟨b + 11, 0, none⟩) 2 2, .string ⟨#[]⟩, .string ⟨#[47, 120]⟩, .string ⟨#[]⟩, .int .i64 0, .slice (some ⟨b + 12, 0, none⟩) 2 2, .string ⟨#[]⟩, .bool false, .int .i64 403, .slice none 0 0, .string ⟨#[102, 111, 114, 98, 105, 100, 100, 101, 110]⟩, .slice (some ⟨b + 13, 0, none⟩) 2 2, .string ⟨#[]⟩, .string ⟨#[47, 120]⟩, .string ⟨#[]⟩, .int .i64 0, .slice none 0 0, .string ⟨#[]⟩, .bool false, .int .i64 403, .slice none 0 0, .string ⟨#[102, 111, 114, 98, 105, 100, 100, 101, 110]⟩, .slice (some ⟨b + 14, 0, none⟩) 2 2, .string ⟨#[]⟩, .string ⟨#[47, 97, 112, 105, 47, 120]⟩, .string ⟨#[]⟩, .int .i64 0, .slice none 0 0, .string ⟨#[]⟩, .bool false, .int .i64 200, .slice (some ⟨b + 15, 0, none⟩) 1 1, .string ⟨#[47, 120]⟩, .slice (some ⟨b + 16, 0, none⟩) 2 2, .string ⟨#[]⟩, .string ⟨#[47, 97, 112, 105]⟩, .string ⟨#[]⟩, .int .i64 0, .slice none 0 0, .string ⟨#[]⟩, .bool false, .int .i64 200, .slice (some ⟨b + 17, 0, none⟩) 1 1, .string ⟨#[47]⟩, .slice (some ⟨b + 18, 0, none⟩) 2 2, .string ⟨#[]⟩, .string ⟨#[47, 97, 112, 105, 120]⟩, .string ⟨#[]⟩, .int .i64 0, .slice none 0 0, .string ⟨#[]⟩, .bool false, .int .i64 404, .slice (some ⟨b + 19, 0, none⟩) 1 1, .string ⟨#[110, 111, 116, 32, 102, 111, 117, 110, 100]⟩, .slice (some ⟨b + 20, 0, none⟩) 2 2, .string ⟨#[]⟩, .string ⟨#[47, 120]⟩, .string ⟨#[]⟩, .int .i64 0, .slice none 0 0, .string ⟨#[97, 98, 99]⟩, .bool false, .int .i64 413, .slice none 0 0, .string ⟨#[116, 111, 111, 32, 108, 111, 110, 103]⟩, .slice (some ⟨b + 21, 0, none⟩) 2 2, .string ⟨#[]⟩, .string ⟨#[47, 120]⟩, .string ⟨#[]⟩, .int .i64 0, .slice none 0 0, .string ⟨#[97, 98, 99]⟩, .bool false, .int .i64 200, .slice (some ⟨b + 22, 0, none⟩) 1 1, .string ⟨#[47, 120]⟩, .slice (some ⟨b + 23, 0, none⟩) 1 1, .string ⟨#[]⟩, .string ⟨#[47, 120]⟩, .string ⟨#[]⟩, .int .i64 0, .slice (some ⟨b + 24, 0, none⟩) 1 1, .string ⟨#[]⟩, .bool false, .int .i64 200, .slice (some ⟨b + 25, 0, none⟩) 1 1, .string ⟨#[47, 120]⟩, .slice (some ⟨b + 26, 0, none⟩) 1 1, .string ⟨#[]⟩, .string ⟨#[47, 120]⟩, .string ⟨#[]⟩, .int .i64 0, .slice none 0 0, .string ⟨#[]⟩, .bool false, .int .i64 200, .slice (some ⟨b + 27, 0, none⟩) 1 1, .string ⟨#[47, 120]⟩, .slice none 0 0, .string ⟨#[]⟩, .string ⟨#[47, 120]⟩, .string ⟨#[]⟩, .int .i64 0, .slice none 0 0, .string ⟨#[]⟩, .bool false, .int .i64 200, .slice none 0 0, .string ⟨#[47, 120]⟩], 54)]
/-- Row k of the table in block N. -/
def RowAt (N : Nat) (W : World) (k : Nat) (x : RowK) : Prop :=
  ∃ sp sc fv gv, W.cell? ⟨N, k * 11, none⟩ = some (.slice sp x.ss.length sc) ∧ StepsAt W (.slice sp x.ss.length sc) x.ss ∧ FieldsAt W fv x.r.fs ∧ FieldsAt W gv x.want.fs ∧
    W.cell? ⟨N, k * 11 + 1, none⟩ = some (.string ⟨x.r.m.toArray⟩) ∧ W.cell? ⟨N, k * 11 + 2, none⟩ = some (.string ⟨x.r.p.toArray⟩) ∧ W.cell? ⟨N, k * 11 + 3, none⟩ = some (.string ⟨x.r.q.toArray⟩) ∧ W.cell? ⟨N, k * 11 + 4, none⟩ = some (.int .i64 x.r.v) ∧ W.cell? ⟨N, k * 11 + 5, none⟩ = some fv ∧ W.cell? ⟨N, k * 11 + 6, none⟩ = some (.string ⟨x.r.b.toArray⟩) ∧ W.cell? ⟨N, k * 11 + 7, none⟩ = some (.bool x.r.c) ∧
    W.cell? ⟨N, k * 11 + 8, none⟩ = some (.int .i64 x.want.code) ∧ W.cell? ⟨N, k * 11 + 9, none⟩ = some gv ∧ W.cell? ⟨N, k * 11 + 10, none⟩ = some (.string ⟨x.want.b.toArray⟩)
theorem RowAt.gr {N : Nat} {W W' : World} {k : Nat} {x : RowK} (h : RowAt N W k x) (g : Gr W W') : RowAt N W' k x := by
  obtain ⟨sp, sc, fv, gv, h0, hs, hf, hg, h1, h2, h3, h4, h5, h6, h7, h8, h9, h10⟩ := h
  exact ⟨sp, sc, fv, gv, g.cell h0, hs.gr g, hf.gr g, hg.gr g, g.cell h1, g.cell h2, g.cell h3, g.cell h4, g.cell h5, g.cell h6, g.cell h7, g.cell h8, g.cell h9, g.cell h10⟩
def rowB (x : RowK) : Bool := decide (x.ss.length ≤ 8) && (x.ss.all rightB && (x.ss.all (fun s => decide (s.name.length ≤ 1000) && decide (s.value.length ≤ 1000)) && (decide (x.r.fs.length ≤ 1000) && (x.r.fs.all (fun f => decide (f.1.length ≤ 1000) && decide (f.2.length ≤ 1000)) && (decide (x.want.fs.length ≤ 1000) && sameB (outB x.ss x.r) x.want)))))
theorem rowsB : rowsK.all rowB = true := by kernel_rfl
theorem badB : badK.all (fun s => !rightB s && (decide (s.name.length ≤ 1000) && decide (s.value.length ≤ 1000))) = true := by kernel_rfl
set_option maxRecDepth 100000 in
theorem rowK0 (w : World) : RowAt (w.heap.size + 28) (allocs w (tabK w.heap.size)) 0 (rowsK[0]) := by
  refine ⟨some ⟨w.heap.size + 6, 0, none⟩, 2, .slice none 0 0, .slice (some ⟨w.heap.size + 7, 0, none⟩) 2 2, allocs_cell (tabK w.heap.size) w 28 0 _ _ rfl rfl, ?_, ?_, ?_, allocs_cell (tabK w.heap.size) w 28 1 _ _ rfl rfl, allocs_cell (tabK w.heap.size) w 28 2 _ _ rfl rfl, allocs_cell (tabK w.heap.size) w 28 3 _ _ rfl rfl, allocs_cell (tabK w.heap.size) w 28 4 _ _ rfl rfl, allocs_cell (tabK w.heap.size) w 28 5 _ _ rfl rfl, allocs_cell (tabK w.heap.size) w 28 6 _ _ rfl rfl, allocs_cell (tabK w.heap.size) w 28 7 _ _ rfl rfl, allocs_cell (tabK w.heap.size) w 28 8 _ _ rfl rfl, allocs_cell (tabK w.heap.size) w 28 9 _ _ rfl rfl, allocs_cell (tabK w.heap.size) w 28 10 _ _ rfl rfl⟩
  · refine ⟨_, _, rfl, fun i hi => ?_⟩
    match i, hi with
    | 0, _ => exact ⟨w.heap.size + 6, 0, rfl, allocs_cell (tabK w.heap.size) w 6 0 _ _ rfl rfl, allocs_cell (tabK w.heap.size) w 6 1 _ _ rfl rfl, allocs_cell (tabK w.heap.size) w 6 2 _ _ rfl rfl, allocs_cell (tabK w.heap.size) w 6 3 _ _ rfl rfl⟩
    | 1, _ => exact ⟨w.heap.size + 6, 0, rfl, allocs_cell (tabK w.heap.size) w 6 4 _ _ rfl rfl, allocs_cell (tabK w.heap.size) w 6 5 _ _ rfl rfl, allocs_cell (tabK w.heap.size) w 6 6 _ _ rfl rfl, allocs_cell (tabK w.heap.size) w 6 7 _ _ rfl rfl⟩
  · exact ⟨_, _, rfl, fun i hi => absurd hi (Nat.not_lt_zero _)⟩
  · refine ⟨_, _, rfl, fun i hi => ?_⟩
    match i, hi with
    | 0, _ => exact ⟨w.heap.size + 7, 0, rfl, allocs_cell (tabK w.heap.size) w 7 0 _ _ rfl rfl, allocs_cell (tabK w.heap.size) w 7 1 _ _ rfl rfl⟩
    | 1, _ => exact ⟨w.heap.size + 7, 0, rfl, allocs_cell (tabK w.heap.size) w 7 2 _ _ rfl rfl, allocs_cell (tabK w.heap.size) w 7 3 _ _ rfl rfl⟩
set_option maxRecDepth 100000 in
theorem rowK1 (w : World) : RowAt (w.heap.size + 28) (allocs w (tabK w.heap.size)) 1 (rowsK[1]) := by
  refine ⟨some ⟨w.heap.size + 8, 0, none⟩, 2, .slice (some ⟨w.heap.size + 9, 0, none⟩) 1 1, .slice (some ⟨w.heap.size + 10, 0, none⟩) 1 1, allocs_cell (tabK w.heap.size) w 28 11 _ _ rfl rfl, ?_, ?_, ?_, allocs_cell (tabK w.heap.size) w 28 12 _ _ rfl rfl, allocs_cell (tabK w.heap.size) w 28 13 _ _ rfl rfl, allocs_cell (tabK w.heap.size) w 28 14 _ _ rfl rfl, allocs_cell (tabK w.heap.size) w 28 15 _ _ rfl rfl, allocs_cell (tabK w.heap.size) w 28 16 _ _ rfl rfl, allocs_cell (tabK w.heap.size) w 28 17 _ _ rfl rfl, allocs_cell (tabK w.heap.size) w 28 18 _ _ rfl rfl, allocs_cell (tabK w.heap.size) w 28 19 _ _ rfl rfl, allocs_cell (tabK w.heap.size) w 28 20 _ _ rfl rfl, allocs_cell (tabK w.heap.size) w 28 21 _ _ rfl rfl⟩
  · refine ⟨_, _, rfl, fun i hi => ?_⟩
    match i, hi with
    | 0, _ => exact ⟨w.heap.size + 8, 0, rfl, allocs_cell (tabK w.heap.size) w 8 0 _ _ rfl rfl, allocs_cell (tabK w.heap.size) w 8 1 _ _ rfl rfl, allocs_cell (tabK w.heap.size) w 8 2 _ _ rfl rfl, allocs_cell (tabK w.heap.size) w 8 3 _ _ rfl rfl⟩
    | 1, _ => exact ⟨w.heap.size + 8, 0, rfl, allocs_cell (tabK w.heap.size) w 8 4 _ _ rfl rfl, allocs_cell (tabK w.heap.size) w 8 5 _ _ rfl rfl, allocs_cell (tabK w.heap.size) w 8 6 _ _ rfl rfl, allocs_cell (tabK w.heap.size) w 8 7 _ _ rfl rfl⟩
  · refine ⟨_, _, rfl, fun i hi => ?_⟩
    match i, hi with
    | 0, _ => exact ⟨w.heap.size + 9, 0, rfl, allocs_cell (tabK w.heap.size) w 9 0 _ _ rfl rfl, allocs_cell (tabK w.heap.size) w 9 1 _ _ rfl rfl⟩
  · refine ⟨_, _, rfl, fun i hi => ?_⟩
    match i, hi with
    | 0, _ => exact ⟨w.heap.size + 10, 0, rfl, allocs_cell (tabK w.heap.size) w 10 0 _ _ rfl rfl, allocs_cell (tabK w.heap.size) w 10 1 _ _ rfl rfl⟩
set_option maxRecDepth 100000 in
theorem rowK2 (w : World) : RowAt (w.heap.size + 28) (allocs w (tabK w.heap.size)) 2 (rowsK[2]) := by
  refine ⟨some ⟨w.heap.size + 11, 0, none⟩, 2, .slice (some ⟨w.heap.size + 12, 0, none⟩) 2 2, .slice none 0 0, allocs_cell (tabK w.heap.size) w 28 22 _ _ rfl rfl, ?_, ?_, ?_, allocs_cell (tabK w.heap.size) w 28 23 _ _ rfl rfl, allocs_cell (tabK w.heap.size) w 28 24 _ _ rfl rfl, allocs_cell (tabK w.heap.size) w 28 25 _ _ rfl rfl, allocs_cell (tabK w.heap.size) w 28 26 _ _ rfl rfl, allocs_cell (tabK w.heap.size) w 28 27 _ _ rfl rfl, allocs_cell (tabK w.heap.size) w 28 28 _ _ rfl rfl, allocs_cell (tabK w.heap.size) w 28 29 _ _ rfl rfl, allocs_cell (tabK w.heap.size) w 28 30 _ _ rfl rfl, allocs_cell (tabK w.heap.size) w 28 31 _ _ rfl rfl, allocs_cell (tabK w.heap.size) w 28 32 _ _ rfl rfl⟩
  · refine ⟨_, _, rfl, fun i hi => ?_⟩
    match i, hi with
    | 0, _ => exact ⟨w.heap.size + 11, 0, rfl, allocs_cell (tabK w.heap.size) w 11 0 _ _ rfl rfl, allocs_cell (tabK w.heap.size) w 11 1 _ _ rfl rfl, allocs_cell (tabK w.heap.size) w 11 2 _ _ rfl rfl, allocs_cell (tabK w.heap.size) w 11 3 _ _ rfl rfl⟩
    | 1, _ => exact ⟨w.heap.size + 11, 0, rfl, allocs_cell (tabK w.heap.size) w 11 4 _ _ rfl rfl, allocs_cell (tabK w.heap.size) w 11 5 _ _ rfl rfl, allocs_cell (tabK w.heap.size) w 11 6 _ _ rfl rfl, allocs_cell (tabK w.heap.size) w 11 7 _ _ rfl rfl⟩
  · refine ⟨_, _, rfl, fun i hi => ?_⟩
    match i, hi with
    | 0, _ => exact ⟨w.heap.size + 12, 0, rfl, allocs_cell (tabK w.heap.size) w 12 0 _ _ rfl rfl, allocs_cell (tabK w.heap.size) w 12 1 _ _ rfl rfl⟩
    | 1, _ => exact ⟨w.heap.size + 12, 0, rfl, allocs_cell (tabK w.heap.size) w 12 2 _ _ rfl rfl, allocs_cell (tabK w.heap.size) w 12 3 _ _ rfl rfl⟩
  · exact ⟨_, _, rfl, fun i hi => absurd hi (Nat.not_lt_zero _)⟩
set_option maxRecDepth 100000 in
theorem rowK3 (w : World) : RowAt (w.heap.size + 28) (allocs w (tabK w.heap.size)) 3 (rowsK[3]) := by
  refine ⟨some ⟨w.heap.size + 13, 0, none⟩, 2, .slice none 0 0, .slice none 0 0, allocs_cell (tabK w.heap.size) w 28 33 _ _ rfl rfl, ?_, ?_, ?_, allocs_cell (tabK w.heap.size) w 28 34 _ _ rfl rfl, allocs_cell (tabK w.heap.size) w 28 35 _ _ rfl rfl, allocs_cell (tabK w.heap.size) w 28 36 _ _ rfl rfl, allocs_cell (tabK w.heap.size) w 28 37 _ _ rfl rfl, allocs_cell (tabK w.heap.size) w 28 38 _ _ rfl rfl, allocs_cell (tabK w.heap.size) w 28 39 _ _ rfl rfl, allocs_cell (tabK w.heap.size) w 28 40 _ _ rfl rfl, allocs_cell (tabK w.heap.size) w 28 41 _ _ rfl rfl, allocs_cell (tabK w.heap.size) w 28 42 _ _ rfl rfl, allocs_cell (tabK w.heap.size) w 28 43 _ _ rfl rfl⟩
  · refine ⟨_, _, rfl, fun i hi => ?_⟩
    match i, hi with
    | 0, _ => exact ⟨w.heap.size + 13, 0, rfl, allocs_cell (tabK w.heap.size) w 13 0 _ _ rfl rfl, allocs_cell (tabK w.heap.size) w 13 1 _ _ rfl rfl, allocs_cell (tabK w.heap.size) w 13 2 _ _ rfl rfl, allocs_cell (tabK w.heap.size) w 13 3 _ _ rfl rfl⟩
    | 1, _ => exact ⟨w.heap.size + 13, 0, rfl, allocs_cell (tabK w.heap.size) w 13 4 _ _ rfl rfl, allocs_cell (tabK w.heap.size) w 13 5 _ _ rfl rfl, allocs_cell (tabK w.heap.size) w 13 6 _ _ rfl rfl, allocs_cell (tabK w.heap.size) w 13 7 _ _ rfl rfl⟩
  · exact ⟨_, _, rfl, fun i hi => absurd hi (Nat.not_lt_zero _)⟩
  · exact ⟨_, _, rfl, fun i hi => absurd hi (Nat.not_lt_zero _)⟩
set_option maxRecDepth 100000 in
theorem rowK4 (w : World) : RowAt (w.heap.size + 28) (allocs w (tabK w.heap.size)) 4 (rowsK[4]) := by
  refine ⟨some ⟨w.heap.size + 14, 0, none⟩, 2, .slice none 0 0, .slice (some ⟨w.heap.size + 15, 0, none⟩) 1 1, allocs_cell (tabK w.heap.size) w 28 44 _ _ rfl rfl, ?_, ?_, ?_, allocs_cell (tabK w.heap.size) w 28 45 _ _ rfl rfl, allocs_cell (tabK w.heap.size) w 28 46 _ _ rfl rfl, allocs_cell (tabK w.heap.size) w 28 47 _ _ rfl rfl, allocs_cell (tabK w.heap.size) w 28 48 _ _ rfl rfl, allocs_cell (tabK w.heap.size) w 28 49 _ _ rfl rfl, allocs_cell (tabK w.heap.size) w 28 50 _ _ rfl rfl, allocs_cell (tabK w.heap.size) w 28 51 _ _ rfl rfl, allocs_cell (tabK w.heap.size) w 28 52 _ _ rfl rfl, allocs_cell (tabK w.heap.size) w 28 53 _ _ rfl rfl, allocs_cell (tabK w.heap.size) w 28 54 _ _ rfl rfl⟩
  · refine ⟨_, _, rfl, fun i hi => ?_⟩
    match i, hi with
    | 0, _ => exact ⟨w.heap.size + 14, 0, rfl, allocs_cell (tabK w.heap.size) w 14 0 _ _ rfl rfl, allocs_cell (tabK w.heap.size) w 14 1 _ _ rfl rfl, allocs_cell (tabK w.heap.size) w 14 2 _ _ rfl rfl, allocs_cell (tabK w.heap.size) w 14 3 _ _ rfl rfl⟩
    | 1, _ => exact ⟨w.heap.size + 14, 0, rfl, allocs_cell (tabK w.heap.size) w 14 4 _ _ rfl rfl, allocs_cell (tabK w.heap.size) w 14 5 _ _ rfl rfl, allocs_cell (tabK w.heap.size) w 14 6 _ _ rfl rfl, allocs_cell (tabK w.heap.size) w 14 7 _ _ rfl rfl⟩
  · exact ⟨_, _, rfl, fun i hi => absurd hi (Nat.not_lt_zero _)⟩
  · refine ⟨_, _, rfl, fun i hi => ?_⟩
    match i, hi with
    | 0, _ => exact ⟨w.heap.size + 15, 0, rfl, allocs_cell (tabK w.heap.size) w 15 0 _ _ rfl rfl, allocs_cell (tabK w.heap.size) w 15 1 _ _ rfl rfl⟩
set_option maxRecDepth 100000 in
theorem rowK5 (w : World) : RowAt (w.heap.size + 28) (allocs w (tabK w.heap.size)) 5 (rowsK[5]) := by
  refine ⟨some ⟨w.heap.size + 16, 0, none⟩, 2, .slice none 0 0, .slice (some ⟨w.heap.size + 17, 0, none⟩) 1 1, allocs_cell (tabK w.heap.size) w 28 55 _ _ rfl rfl, ?_, ?_, ?_, allocs_cell (tabK w.heap.size) w 28 56 _ _ rfl rfl, allocs_cell (tabK w.heap.size) w 28 57 _ _ rfl rfl, allocs_cell (tabK w.heap.size) w 28 58 _ _ rfl rfl, allocs_cell (tabK w.heap.size) w 28 59 _ _ rfl rfl, allocs_cell (tabK w.heap.size) w 28 60 _ _ rfl rfl, allocs_cell (tabK w.heap.size) w 28 61 _ _ rfl rfl, allocs_cell (tabK w.heap.size) w 28 62 _ _ rfl rfl, allocs_cell (tabK w.heap.size) w 28 63 _ _ rfl rfl, allocs_cell (tabK w.heap.size) w 28 64 _ _ rfl rfl, allocs_cell (tabK w.heap.size) w 28 65 _ _ rfl rfl⟩
  · refine ⟨_, _, rfl, fun i hi => ?_⟩
    match i, hi with
    | 0, _ => exact ⟨w.heap.size + 16, 0, rfl, allocs_cell (tabK w.heap.size) w 16 0 _ _ rfl rfl, allocs_cell (tabK w.heap.size) w 16 1 _ _ rfl rfl, allocs_cell (tabK w.heap.size) w 16 2 _ _ rfl rfl, allocs_cell (tabK w.heap.size) w 16 3 _ _ rfl rfl⟩
    | 1, _ => exact ⟨w.heap.size + 16, 0, rfl, allocs_cell (tabK w.heap.size) w 16 4 _ _ rfl rfl, allocs_cell (tabK w.heap.size) w 16 5 _ _ rfl rfl, allocs_cell (tabK w.heap.size) w 16 6 _ _ rfl rfl, allocs_cell (tabK w.heap.size) w 16 7 _ _ rfl rfl⟩
  · exact ⟨_, _, rfl, fun i hi => absurd hi (Nat.not_lt_zero _)⟩
  · refine ⟨_, _, rfl, fun i hi => ?_⟩
    match i, hi with
    | 0, _ => exact ⟨w.heap.size + 17, 0, rfl, allocs_cell (tabK w.heap.size) w 17 0 _ _ rfl rfl, allocs_cell (tabK w.heap.size) w 17 1 _ _ rfl rfl⟩
set_option maxRecDepth 100000 in
theorem rowK6 (w : World) : RowAt (w.heap.size + 28) (allocs w (tabK w.heap.size)) 6 (rowsK[6]) := by
  refine ⟨some ⟨w.heap.size + 18, 0, none⟩, 2, .slice none 0 0, .slice (some ⟨w.heap.size + 19, 0, none⟩) 1 1, allocs_cell (tabK w.heap.size) w 28 66 _ _ rfl rfl, ?_, ?_, ?_, allocs_cell (tabK w.heap.size) w 28 67 _ _ rfl rfl, allocs_cell (tabK w.heap.size) w 28 68 _ _ rfl rfl, allocs_cell (tabK w.heap.size) w 28 69 _ _ rfl rfl, allocs_cell (tabK w.heap.size) w 28 70 _ _ rfl rfl, allocs_cell (tabK w.heap.size) w 28 71 _ _ rfl rfl, allocs_cell (tabK w.heap.size) w 28 72 _ _ rfl rfl, allocs_cell (tabK w.heap.size) w 28 73 _ _ rfl rfl, allocs_cell (tabK w.heap.size) w 28 74 _ _ rfl rfl, allocs_cell (tabK w.heap.size) w 28 75 _ _ rfl rfl, allocs_cell (tabK w.heap.size) w 28 76 _ _ rfl rfl⟩
  · refine ⟨_, _, rfl, fun i hi => ?_⟩
    match i, hi with
    | 0, _ => exact ⟨w.heap.size + 18, 0, rfl, allocs_cell (tabK w.heap.size) w 18 0 _ _ rfl rfl, allocs_cell (tabK w.heap.size) w 18 1 _ _ rfl rfl, allocs_cell (tabK w.heap.size) w 18 2 _ _ rfl rfl, allocs_cell (tabK w.heap.size) w 18 3 _ _ rfl rfl⟩
    | 1, _ => exact ⟨w.heap.size + 18, 0, rfl, allocs_cell (tabK w.heap.size) w 18 4 _ _ rfl rfl, allocs_cell (tabK w.heap.size) w 18 5 _ _ rfl rfl, allocs_cell (tabK w.heap.size) w 18 6 _ _ rfl rfl, allocs_cell (tabK w.heap.size) w 18 7 _ _ rfl rfl⟩
  · exact ⟨_, _, rfl, fun i hi => absurd hi (Nat.not_lt_zero _)⟩
  · refine ⟨_, _, rfl, fun i hi => ?_⟩
    match i, hi with
    | 0, _ => exact ⟨w.heap.size + 19, 0, rfl, allocs_cell (tabK w.heap.size) w 19 0 _ _ rfl rfl, allocs_cell (tabK w.heap.size) w 19 1 _ _ rfl rfl⟩
set_option maxRecDepth 100000 in
theorem rowK7 (w : World) : RowAt (w.heap.size + 28) (allocs w (tabK w.heap.size)) 7 (rowsK[7]) := by
  refine ⟨some ⟨w.heap.size + 20, 0, none⟩, 2, .slice none 0 0, .slice none 0 0, allocs_cell (tabK w.heap.size) w 28 77 _ _ rfl rfl, ?_, ?_, ?_, allocs_cell (tabK w.heap.size) w 28 78 _ _ rfl rfl, allocs_cell (tabK w.heap.size) w 28 79 _ _ rfl rfl, allocs_cell (tabK w.heap.size) w 28 80 _ _ rfl rfl, allocs_cell (tabK w.heap.size) w 28 81 _ _ rfl rfl, allocs_cell (tabK w.heap.size) w 28 82 _ _ rfl rfl, allocs_cell (tabK w.heap.size) w 28 83 _ _ rfl rfl, allocs_cell (tabK w.heap.size) w 28 84 _ _ rfl rfl, allocs_cell (tabK w.heap.size) w 28 85 _ _ rfl rfl, allocs_cell (tabK w.heap.size) w 28 86 _ _ rfl rfl, allocs_cell (tabK w.heap.size) w 28 87 _ _ rfl rfl⟩
  · refine ⟨_, _, rfl, fun i hi => ?_⟩
    match i, hi with
    | 0, _ => exact ⟨w.heap.size + 20, 0, rfl, allocs_cell (tabK w.heap.size) w 20 0 _ _ rfl rfl, allocs_cell (tabK w.heap.size) w 20 1 _ _ rfl rfl, allocs_cell (tabK w.heap.size) w 20 2 _ _ rfl rfl, allocs_cell (tabK w.heap.size) w 20 3 _ _ rfl rfl⟩
    | 1, _ => exact ⟨w.heap.size + 20, 0, rfl, allocs_cell (tabK w.heap.size) w 20 4 _ _ rfl rfl, allocs_cell (tabK w.heap.size) w 20 5 _ _ rfl rfl, allocs_cell (tabK w.heap.size) w 20 6 _ _ rfl rfl, allocs_cell (tabK w.heap.size) w 20 7 _ _ rfl rfl⟩
  · exact ⟨_, _, rfl, fun i hi => absurd hi (Nat.not_lt_zero _)⟩
  · exact ⟨_, _, rfl, fun i hi => absurd hi (Nat.not_lt_zero _)⟩
set_option maxRecDepth 100000 in
theorem rowK8 (w : World) : RowAt (w.heap.size + 28) (allocs w (tabK w.heap.size)) 8 (rowsK[8]) := by
  refine ⟨some ⟨w.heap.size + 21, 0, none⟩, 2, .slice none 0 0, .slice (some ⟨w.heap.size + 22, 0, none⟩) 1 1, allocs_cell (tabK w.heap.size) w 28 88 _ _ rfl rfl, ?_, ?_, ?_, allocs_cell (tabK w.heap.size) w 28 89 _ _ rfl rfl, allocs_cell (tabK w.heap.size) w 28 90 _ _ rfl rfl, allocs_cell (tabK w.heap.size) w 28 91 _ _ rfl rfl, allocs_cell (tabK w.heap.size) w 28 92 _ _ rfl rfl, allocs_cell (tabK w.heap.size) w 28 93 _ _ rfl rfl, allocs_cell (tabK w.heap.size) w 28 94 _ _ rfl rfl, allocs_cell (tabK w.heap.size) w 28 95 _ _ rfl rfl, allocs_cell (tabK w.heap.size) w 28 96 _ _ rfl rfl, allocs_cell (tabK w.heap.size) w 28 97 _ _ rfl rfl, allocs_cell (tabK w.heap.size) w 28 98 _ _ rfl rfl⟩
  · refine ⟨_, _, rfl, fun i hi => ?_⟩
    match i, hi with
    | 0, _ => exact ⟨w.heap.size + 21, 0, rfl, allocs_cell (tabK w.heap.size) w 21 0 _ _ rfl rfl, allocs_cell (tabK w.heap.size) w 21 1 _ _ rfl rfl, allocs_cell (tabK w.heap.size) w 21 2 _ _ rfl rfl, allocs_cell (tabK w.heap.size) w 21 3 _ _ rfl rfl⟩
    | 1, _ => exact ⟨w.heap.size + 21, 0, rfl, allocs_cell (tabK w.heap.size) w 21 4 _ _ rfl rfl, allocs_cell (tabK w.heap.size) w 21 5 _ _ rfl rfl, allocs_cell (tabK w.heap.size) w 21 6 _ _ rfl rfl, allocs_cell (tabK w.heap.size) w 21 7 _ _ rfl rfl⟩
  · exact ⟨_, _, rfl, fun i hi => absurd hi (Nat.not_lt_zero _)⟩
  · refine ⟨_, _, rfl, fun i hi => ?_⟩
    match i, hi with
    | 0, _ => exact ⟨w.heap.size + 22, 0, rfl, allocs_cell (tabK w.heap.size) w 22 0 _ _ rfl rfl, allocs_cell (tabK w.heap.size) w 22 1 _ _ rfl rfl⟩
set_option maxRecDepth 100000 in
theorem rowK9 (w : World) : RowAt (w.heap.size + 28) (allocs w (tabK w.heap.size)) 9 (rowsK[9]) := by
  refine ⟨some ⟨w.heap.size + 23, 0, none⟩, 1, .slice (some ⟨w.heap.size + 24, 0, none⟩) 1 1, .slice (some ⟨w.heap.size + 25, 0, none⟩) 1 1, allocs_cell (tabK w.heap.size) w 28 99 _ _ rfl rfl, ?_, ?_, ?_, allocs_cell (tabK w.heap.size) w 28 100 _ _ rfl rfl, allocs_cell (tabK w.heap.size) w 28 101 _ _ rfl rfl, allocs_cell (tabK w.heap.size) w 28 102 _ _ rfl rfl, allocs_cell (tabK w.heap.size) w 28 103 _ _ rfl rfl, allocs_cell (tabK w.heap.size) w 28 104 _ _ rfl rfl, allocs_cell (tabK w.heap.size) w 28 105 _ _ rfl rfl, allocs_cell (tabK w.heap.size) w 28 106 _ _ rfl rfl, allocs_cell (tabK w.heap.size) w 28 107 _ _ rfl rfl, allocs_cell (tabK w.heap.size) w 28 108 _ _ rfl rfl, allocs_cell (tabK w.heap.size) w 28 109 _ _ rfl rfl⟩
  · refine ⟨_, _, rfl, fun i hi => ?_⟩
    match i, hi with
    | 0, _ => exact ⟨w.heap.size + 23, 0, rfl, allocs_cell (tabK w.heap.size) w 23 0 _ _ rfl rfl, allocs_cell (tabK w.heap.size) w 23 1 _ _ rfl rfl, allocs_cell (tabK w.heap.size) w 23 2 _ _ rfl rfl, allocs_cell (tabK w.heap.size) w 23 3 _ _ rfl rfl⟩
  · refine ⟨_, _, rfl, fun i hi => ?_⟩
    match i, hi with
    | 0, _ => exact ⟨w.heap.size + 24, 0, rfl, allocs_cell (tabK w.heap.size) w 24 0 _ _ rfl rfl, allocs_cell (tabK w.heap.size) w 24 1 _ _ rfl rfl⟩
  · refine ⟨_, _, rfl, fun i hi => ?_⟩
    match i, hi with
    | 0, _ => exact ⟨w.heap.size + 25, 0, rfl, allocs_cell (tabK w.heap.size) w 25 0 _ _ rfl rfl, allocs_cell (tabK w.heap.size) w 25 1 _ _ rfl rfl⟩
set_option maxRecDepth 100000 in
theorem rowK10 (w : World) : RowAt (w.heap.size + 28) (allocs w (tabK w.heap.size)) 10 (rowsK[10]) := by
  refine ⟨some ⟨w.heap.size + 26, 0, none⟩, 1, .slice none 0 0, .slice (some ⟨w.heap.size + 27, 0, none⟩) 1 1, allocs_cell (tabK w.heap.size) w 28 110 _ _ rfl rfl, ?_, ?_, ?_, allocs_cell (tabK w.heap.size) w 28 111 _ _ rfl rfl, allocs_cell (tabK w.heap.size) w 28 112 _ _ rfl rfl, allocs_cell (tabK w.heap.size) w 28 113 _ _ rfl rfl, allocs_cell (tabK w.heap.size) w 28 114 _ _ rfl rfl, allocs_cell (tabK w.heap.size) w 28 115 _ _ rfl rfl, allocs_cell (tabK w.heap.size) w 28 116 _ _ rfl rfl, allocs_cell (tabK w.heap.size) w 28 117 _ _ rfl rfl, allocs_cell (tabK w.heap.size) w 28 118 _ _ rfl rfl, allocs_cell (tabK w.heap.size) w 28 119 _ _ rfl rfl, allocs_cell (tabK w.heap.size) w 28 120 _ _ rfl rfl⟩
  · refine ⟨_, _, rfl, fun i hi => ?_⟩
    match i, hi with
    | 0, _ => exact ⟨w.heap.size + 26, 0, rfl, allocs_cell (tabK w.heap.size) w 26 0 _ _ rfl rfl, allocs_cell (tabK w.heap.size) w 26 1 _ _ rfl rfl, allocs_cell (tabK w.heap.size) w 26 2 _ _ rfl rfl, allocs_cell (tabK w.heap.size) w 26 3 _ _ rfl rfl⟩
  · exact ⟨_, _, rfl, fun i hi => absurd hi (Nat.not_lt_zero _)⟩
  · refine ⟨_, _, rfl, fun i hi => ?_⟩
    match i, hi with
    | 0, _ => exact ⟨w.heap.size + 27, 0, rfl, allocs_cell (tabK w.heap.size) w 27 0 _ _ rfl rfl, allocs_cell (tabK w.heap.size) w 27 1 _ _ rfl rfl⟩
set_option maxRecDepth 100000 in
theorem rowK11 (w : World) : RowAt (w.heap.size + 28) (allocs w (tabK w.heap.size)) 11 (rowsK[11]) := by
  refine ⟨none, 0, .slice none 0 0, .slice none 0 0, allocs_cell (tabK w.heap.size) w 28 121 _ _ rfl rfl, ?_, ?_, ?_, allocs_cell (tabK w.heap.size) w 28 122 _ _ rfl rfl, allocs_cell (tabK w.heap.size) w 28 123 _ _ rfl rfl, allocs_cell (tabK w.heap.size) w 28 124 _ _ rfl rfl, allocs_cell (tabK w.heap.size) w 28 125 _ _ rfl rfl, allocs_cell (tabK w.heap.size) w 28 126 _ _ rfl rfl, allocs_cell (tabK w.heap.size) w 28 127 _ _ rfl rfl, allocs_cell (tabK w.heap.size) w 28 128 _ _ rfl rfl, allocs_cell (tabK w.heap.size) w 28 129 _ _ rfl rfl, allocs_cell (tabK w.heap.size) w 28 130 _ _ rfl rfl, allocs_cell (tabK w.heap.size) w 28 131 _ _ rfl rfl⟩
  · exact ⟨_, _, rfl, fun i hi => absurd hi (Nat.not_lt_zero _)⟩
  · exact ⟨_, _, rfl, fun i hi => absurd hi (Nat.not_lt_zero _)⟩
  · exact ⟨_, _, rfl, fun i hi => absurd hi (Nat.not_lt_zero _)⟩
theorem rowsAt (w : World) : ∀ k, (hk : k < rowsK.length) → RowAt (w.heap.size + 28) (allocs w (tabK w.heap.size)) k (rowsK[k]) := fun k hk =>
  match k, hk with
  | 0, _ => rowK0 w
  | 1, _ => rowK1 w
  | 2, _ => rowK2 w
  | 3, _ => rowK3 w
  | 4, _ => rowK4 w
  | 5, _ => rowK5 w
  | 6, _ => rowK6 w
  | 7, _ => rowK7 w
  | 8, _ => rowK8 w
  | 9, _ => rowK9 w
  | 10, _ => rowK10 w
  | 11, _ => rowK11 w
  | k + 12, h => absurd h (by show ¬ k + 12 < 12; omega)
end Go.Proofs.YtolpphmgobeocaaDoor
