/-
  Rows of fields of one's own; the request that asks rightly.
-/
import Derived.Test.YtheihlalgekojaaDoorHd
import Derived.Test.YtheihlalgekojaaDoorOf
import Derived.Test.YtheihlalgekojaaDoorP21
namespace Go.Proofs.YtheihlalgekojaaDoor
open Go.RowKit
attribute [local go_sem] Oper.semAt_some

/-- Block b holds a row of fields. -/
def FTab (b : Nat) (W : World) (fs : List Fl) : Prop := ∀ i (h : i < fs.length), W.cell? ⟨b, i * 2, none⟩ = some (.string ⟨fs[i].1.toArray⟩) ∧ W.cell? ⟨b, i * 2 + 1, none⟩ = some (.string ⟨fs[i].2.toArray⟩)
theorem FTab.at {b : Nat} {W : World} {fs : List Fl} (h : FTab b W fs) (cap : Nat) : FieldsAt W (.slice (some ⟨b, 0, none⟩) fs.length cap) fs :=
  ⟨_, cap, rfl, fun i hi => ⟨b, 0, rfl, by rw [Nat.zero_add]; exact (h i hi).1, by rw [Nat.zero_add]; exact (h i hi).2⟩⟩
theorem FTab.gr {b : Nat} {W W' : World} {fs : List Fl} (h : FTab b W fs) (g : Gr W W') : FTab b W' fs := fun i hi => ⟨g.cell (h i hi).1, g.cell (h i hi).2⟩
theorem ftab_new (W : World) (fs : List Fl) (t : TypeId) : FTab W.heap.size (W.alloc (.cells (rcells fcell fs).toArray t)) fs := fun i hi =>
  ⟨cell_new7 W _ t (i * 2) _ ((rcells_get (f := fcell) (k := 2) (fun _ => rfl) fs i 0 hi (by decide)).trans rfl), cell_new7 W _ t (i * 2 + 1) _ ((rcells_get (f := fcell) (k := 2) (fun _ => rfl) fs i 1 hi (by decide)).trans rfl)⟩
theorem FTab.put {b : Nat} {W : World} {fs : List Fl} (h : FTab b W fs) {a : Addr} (ha : a.block ≠ b) (u : Value) : FTab b (W.setCell a u) fs := fun i hi =>
  ⟨cell_set_other (h i hi).1 ha, cell_set_other (h i hi).2 ha⟩
theorem FTab.setv {b : Nat} {W : World} {fs : List Fl} (h : FTab b W fs) (k : Nat) (hk : k < fs.length) (u : List UInt8) : FTab b (W.setCell ⟨b, k * 2 + 1, none⟩ (.string ⟨u.toArray⟩)) (fs.set k (fs[k].1, u)) := by
  intro i hi
  rw [List.length_set] at hi
  obtain ⟨h1, h2⟩ := h i hi
  by_cases e : k = i
  · subst e
    rw [List.getElem_set_self]
    exact ⟨cell_off h1 (by omega), cell_set_same h2⟩
  · rw [List.getElem_set_ne e]
    exact ⟨cell_off h1 (by omega), cell_off h2 (by omega)⟩
theorem FTab.setn {b : Nat} {W : World} {fs : List Fl} (h : FTab b W fs) (k : Nat) (hk : k < fs.length) (u : List UInt8) : FTab b (W.setCell ⟨b, k * 2, none⟩ (.string ⟨u.toArray⟩)) (fs.set k (u, fs[k].2)) := by
  intro i hi
  rw [List.length_set] at hi
  obtain ⟨h1, h2⟩ := h i hi
  by_cases e : k = i
  · subst e
    rw [List.getElem_set_self]
    exact ⟨cell_set_same h1, cell_off h2 (by omega)⟩
  · rw [List.getElem_set_ne e]
    exact ⟨cell_off h1 (by omega), cell_off h2 (by omega)⟩

def AsksPost (w : World) (e : Ending) (w' : World) : Prop := ∃ b, w.heap.size ≤ b ∧ e = .returned ((askR keyL k13).V (.slice (some ⟨b, 0, none⟩) 5 5)) ∧ FTab b w' (askFs keyL k13) ∧ (∀ o, w'.frozen? ⟨b, o, none⟩ = false) ∧ OwnF b w' (.slice (some ⟨b, 0, none⟩) 5 5) (askFs keyL k13) ∧ Gr w w'
set_option maxHeartbeats 2000000 in
set_option maxRecDepth 20000 in
theorem asks_made (w : World) : Calls Tryd.prog 14 #[] w (AsksPost w) := by
  go_enter Tryd.func14, Tryd.ntmps14
  go_wp2
  refine bodyPost_ret (v := (askR keyL k13).V (.slice (some ⟨w.heap.size + 1, 0, none⟩) 5 5)) (by simp [results, Tryd.results14, go_sem, Rq.V, askR, keyL, kGET]) rfl ⟨w.heap.size + 1, by omega, rfl, ?_, ?_, ?_, ?_⟩
  · have := ftab_new (w.alloc (.cells #[.string ⟨kGET.toArray⟩, .string ⟨#[47, 119, 115]⟩, .string ⟨#[]⟩, .int .i64 11, .slice (some ⟨w.heap.size + 1, 0, none⟩) 5 5, .string ⟨#[]⟩, .bool false] 27)) (askFs keyL k13) 30
    rw [show (w.alloc (.cells #[.string ⟨kGET.toArray⟩, .string ⟨#[47, 119, 115]⟩, .string ⟨#[]⟩, .int .i64 11, .slice (some ⟨w.heap.size + 1, 0, none⟩) 5 5, .string ⟨#[]⟩, .bool false] 27)).heap.size = w.heap.size + 1 from by simp] at this
    exact this
  · exact fun o => World.frozen?_alloc_at _ _ _ _ (by simp)
  · have := World.ownsRow_lit (base := w.heap.size + 1) (e := 30) (size := 2) (w.alloc (.cells #[.string ⟨kGET.toArray⟩, .string ⟨#[47, 119, 115]⟩, .string ⟨#[]⟩, .int .i64 11, .slice (some ⟨w.heap.size + 1, 0, none⟩) 5 5, .string ⟨#[]⟩, .bool false] 27)) (fcells (askFs keyL k13)).toArray 5 (by simp) (by decide) rfl
    rw [show (w.alloc (.cells #[.string ⟨kGET.toArray⟩, .string ⟨#[47, 119, 115]⟩, .string ⟨#[]⟩, .int .i64 11, .slice (some ⟨w.heap.size + 1, 0, none⟩) 5 5, .string ⟨#[]⟩, .bool false] 27)).heap.size = w.heap.size + 1 from by simp] at this
    exact this
  · exact (Gr.alloc _ _).alloc1 _

/-- Are replies the same? -/
def sameB (x y : Rp) : Bool := (x.code == y.code) && ((x.b == y.b) && (x.fs == y.fs))
theorem sameB_refl (x : Rp) : sameB x x = true := by simp [sameB]
theorem take_succ_eq {α : Type} {a b : List α} {k : Nat} (h : a.take k = b.take k) (ha : k < a.length) (hb : k < b.length) (e : a[k] = b[k]) : a.take (k + 1) = b.take (k + 1) := by
  rw [List.take_succ_eq_append_getElem ha, List.take_succ_eq_append_getElem hb, h, e]
theorem ne_at {a b : List Fl} {k : Nat} (ha : k < a.length) (hb : k < b.length) (e : a[k] ≠ b[k]) : (a == b) = false := by
  rw [beq_eq_false_iff_ne]; intro h; subst h; exact e rfl
set_option maxHeartbeats 8000000 in
set_option maxRecDepth 20000 in
theorem same_any (x y : Rp) (s t : Value) (w : World) (hx : FieldsAt w s x.fs) (hy : FieldsAt w t y.fs) (hlx : x.fs.length ≤ 9223372036854775807) (hly : y.fs.length ≤ 9223372036854775807) :
    Calls Tryd.prog 17 #[x.V s, y.V t] w fun e w' => e = .returned (.bool (sameB x y)) ∧ Gr w w' := by
  obtain ⟨p, cap, rfl, hc⟩ := hx
  obtain ⟨q, cap2, rfl, hd⟩ := hy
  have hc' := Lib.hid hc
  have hd' := Lib.hid hd
  clear hc hd
  obtain ⟨cx, xs, bx⟩ := x
  obtain ⟨cy, ys, by'⟩ := y
  unfold Rp.V
  dsimp only at hc' hd' hlx hly ⊢
  have n1 : ((w.alloc (.cells #[.int .i64 cx, .slice p xs.length cap, .string ⟨bx.toArray⟩] 40)).alloc (.cells #[.int .i64 cy, .slice q ys.length cap2, .string ⟨by'.toArray⟩] 40)).cell? ⟨w.heap.size, 1, none⟩ = some (.slice p xs.length cap) := by simp [go_sem]
  have n0 : ((w.alloc (.cells #[.int .i64 cx, .slice p xs.length cap, .string ⟨bx.toArray⟩] 40)).alloc (.cells #[.int .i64 cy, .slice q ys.length cap2, .string ⟨by'.toArray⟩] 40)).cell? ⟨w.heap.size, 0, none⟩ = some (.int .i64 cx) := by simp [go_sem]
  have n2 : ((w.alloc (.cells #[.int .i64 cx, .slice p xs.length cap, .string ⟨bx.toArray⟩] 40)).alloc (.cells #[.int .i64 cy, .slice q ys.length cap2, .string ⟨by'.toArray⟩] 40)).cell? ⟨w.heap.size, 2, none⟩ = some (.string ⟨bx.toArray⟩) := by simp [go_sem]
  have m0 : ((w.alloc (.cells #[.int .i64 cx, .slice p xs.length cap, .string ⟨bx.toArray⟩] 40)).alloc (.cells #[.int .i64 cy, .slice q ys.length cap2, .string ⟨by'.toArray⟩] 40)).cell? ⟨w.heap.size + 1, 0, none⟩ = some (.int .i64 cy) := by simp [go_sem]
  have m1 : ((w.alloc (.cells #[.int .i64 cx, .slice p xs.length cap, .string ⟨bx.toArray⟩] 40)).alloc (.cells #[.int .i64 cy, .slice q ys.length cap2, .string ⟨by'.toArray⟩] 40)).cell? ⟨w.heap.size + 1, 1, none⟩ = some (.slice q ys.length cap2) := by simp [go_sem]
  have m2 : ((w.alloc (.cells #[.int .i64 cx, .slice p xs.length cap, .string ⟨bx.toArray⟩] 40)).alloc (.cells #[.int .i64 cy, .slice q ys.length cap2, .string ⟨by'.toArray⟩] 40)).cell? ⟨w.heap.size + 1, 2, none⟩ = some (.string ⟨by'.toArray⟩) := by simp [go_sem]
  by_cases hne : xs.length = ys.length
  · have hlen : ((xs.length : Int) != ys.length) = false := by simp [hne]
    have hne' := Lib.hid hne
    clear hne
    go_enter Tryd.func17, Tryd.ntmps17
    go_wp2
    have g0 := Lib.hid (((Gr.alloc w (.cells #[.int .i64 cx, .slice p xs.length cap, .string ⟨bx.toArray⟩] 40)).alloc1 (.cells #[.int .i64 cy, .slice q ys.length cap2, .string ⟨by'.toArray⟩] 40)))
    generalize ((w.alloc (.cells #[.int .i64 cx, .slice p xs.length cap, .string ⟨bx.toArray⟩] 40)).alloc (.cells #[.int .i64 cy, .slice q ys.length cap2, .string ⟨by'.toArray⟩] 40)) = w1 at g0 n0 n1 n2 m0 m1 m2 ⊢
    go_loopw [5] (fun i wr => (∃ k : Nat, k ≤ xs.length ∧ i = .int .i64 k ∧ xs.take k = ys.take k) ∧ Gr w1 wr) (fun i _ => xs.length - (intOf i).toNat)
    case atStart => exact ⟨⟨0, Nat.zero_le _, rfl, rfl⟩, Gr.refl _⟩
    case round =>
      obtain ⟨⟨k, hk, rfl, hall⟩, hg⟩ := hrel
      have hall' := Lib.hid hall
      clear hall
      replace n0 := hg.cell n0
      replace n1 := hg.cell n1
      replace n2 := hg.cell n2
      replace m0 := hg.cell m0
      replace m1 := hg.cell m1
      replace m2 := hg.cell m2
      by_cases hlt : k < xs.length
      · have hlt2 : k < ys.length := by have := hne'.out; omega
        obtain ⟨b, off, rfl, h1, h2⟩ := hc'.out k hlt
        obtain ⟨b2, off2, rfl, h3, h4⟩ := hd'.out k hlt2
        have c1 := (g0.out.trans hg).cell h1
        have c2 := (g0.out.trans hg).cell h2
        have c3 := (g0.out.trans hg).cell h3
        have c4 := (g0.out.trans hg).cell h4
        clear h1 h2 h3 h4
        obtain ⟨⟨x1, x2⟩, hx⟩ : ∃ x, xs[k] = x := ⟨_, rfl⟩
        obtain ⟨⟨y1, y2⟩, hy⟩ : ∃ x, ys[k] = x := ⟨_, rfl⟩
        rw [hx] at c1 c2
        rw [hy] at c3 c4
        dsimp only at c1 c2 c3 c4
        have hx' := Lib.hid hx
        have hy' := Lib.hid hy
        have hkI : (0 : Int) ≤ k := by omega
        have hkA : (k : Int) < xs.length := by omega
        have hkB : (k : Int) < ys.length := by omega
        clear hx hy
        by_cases h1 : x1 = y1
        · subst h1
          by_cases h2 : x2 = y2
          · subst h2
            go_wp2
            go_quiet (fail)
            go_wp2
            go_roundw
            case rel => exact ⟨⟨k + 1, by omega, by go_num, take_succ_eq hall'.out hlt hlt2 (by rw [hx'.out, hy'.out])⟩, hg.trans (below_drewNm _ _)⟩
            case measure => simp [intOf]; omega
          · have hne2 := Lib.hid h2
            go_wp2
            go_quiet (fail)
            go_wp2
            go_ret
            exact ⟨ret_bool (show false = _ by unfold sameB; dsimp only; rw [ne_at hlt hlt2 (by rw [hx'.out, hy'.out]; intro e; exact hne2.out (Prod.mk.inj e).2)]; simp), g0.out.trans (hg.trans (below_drewNm _ _))⟩
        · have hne1 := Lib.hid h1
          go_wp2
          go_quiet (fail)
          go_wp2
          go_ret
          exact ⟨ret_bool (show false = _ by unfold sameB; dsimp only; rw [ne_at hlt hlt2 (by rw [hx'.out, hy'.out]; intro e; exact hne1.out (Prod.mk.inj e).1)]; simp), g0.out.trans (hg.trans (below_drewNm _ _))⟩
      · have heq : xs = ys := by
          have h := hall'.out
          rw [List.take_of_length_le (by omega), List.take_of_length_le (by have := hne'.out; omega)] at h
          exact h
        have heq' := Lib.hid heq
        clear heq
        by_cases h1 : cx = cy
        · subst h1
          by_cases h2 : bx = by'
          · subst h2
            go_wp2
            go_ret
            exact ⟨ret_bool (by unfold sameB; simp [heq'.out]), g0.out.trans hg⟩
          · have h2' := Lib.hid h2
            go_wp2
            go_ret
            exact ⟨ret_bool (by unfold sameB; simp [h2'.out]), g0.out.trans hg⟩
        · have h1b : (cx == cy) = false := beq_eq_false_iff_ne.2 h1
          have h1' := Lib.hid h1
          clear h1
          go_wp2
          go_ret
          exact ⟨ret_bool (by unfold sameB; simp [h1'.out]), g0.out.trans hg⟩
  · have hlen : ((xs.length : Int) != ys.length) = true := by rw [bne_iff_ne]; omega
    go_enter Tryd.func17, Tryd.ntmps17
    go_wp2
    go_ret
    exact ⟨ret_bool (show false = _ by unfold sameB; dsimp only; rw [show (xs == ys) = false from beq_eq_false_iff_ne.2 (fun e => hne (by rw [e]))]; simp), (Gr.alloc _ _).alloc1 _⟩
end Go.Proofs.YtheihlalgekojaaDoor
