/-
  Rows of fields of one's own; the request that asks rightly.
  Walks over the statements' own helpers, of the handshake's statements: sizes, small letters.
  The chapter's first examples.
-/
import Derived.Test.YtheihlalgekojaaGreatDoorHd
import Derived.Test.YtheihlalgekojaaGreatDoorOf
import Derived.Test.YtheihlalgekojaaGreatDoorP21
import Derived.Lib.ConvBytes
import Derived.Lib.AtoiErrMem
namespace Go.Proofs.YtheihlalgekojaaGreatDoor
open Go.RowKit
attribute [local go_sem] Oper.semAt_some

/-- Block b holds a row of fields. -/
def FTab (b : Nat) (W : World) (fs : List Fl) : Prop := ∀ i (h : i < fs.length), W.cell? ⟨b, i * 2, none⟩ = some (.string ⟨fs[i].1.toArray⟩) ∧ W.cell? ⟨b, i * 2 + 1, none⟩ = some (.string ⟨fs[i].2.toArray⟩)
theorem FTab.at {b : Nat} {W : World} {fs : List Fl} (h : FTab b W fs) (cap : Nat) : FieldsAt W (.slice (some ⟨b, 0, none⟩) fs.length cap) fs :=
  ⟨_, cap, rfl, fun i hi => ⟨b, 0, rfl, by rw [Nat.zero_add]; exact (h i hi).1, by rw [Nat.zero_add]; exact (h i hi).2⟩⟩
theorem FTab.gr {b : Nat} {W W' : World} {fs : List Fl} (h : FTab b W fs) (g : Gr W W') : FTab b W' fs := fun i hi => ⟨g.cell (h i hi).1, g.cell (h i hi).2⟩
theorem ftab_new (W : World) (fs : List Fl) (t : TypeId) : FTab W.heap.size (W.alloc (.cells (rcells fcell fs).toArray t)) fs := fun i hi =>
  ⟨cell_new7 W _ t (i * 2) _ ((rcells_get (f := fcell) (k := 2) (fun _ => rfl) fs i 0 hi (by decide)).trans rfl), cell_new7 W _ t (i * 2 + 1) _ ((rcells_get (f := fcell) (k := 2) (fun _ => rfl) fs i 1 hi (by decide)).trans rfl)⟩
theorem FTab.put {b : Nat} {W : World} {fs : List Fl} (h : FTab b W fs) {a : Addr} (ha : a.block ≠ b) (u : Value) : FTab b (W.setCell a u) fs := fun i hi =>
  ⟨cell_set_other (h i hi).1 ha, cell_set_other (h i hi).2 ha⟩
theorem FTab.setv {b : Nat} {W : World} {fs : List Fl} (h : FTab b W fs) (k : Nat) (hk : k < fs.length) (u : List UInt8) : FTab b (W.setCell ⟨b, k * 2 + 1, none⟩ (.string ⟨u.toArray⟩)) (fs.set k (fs[k].1, u)) := by
  intro i hi
  rw [List.length_set] at hi
  obtain ⟨h1, h2⟩ := h i hi
  by_cases e : k = i
  · subst e
    rw [List.getElem_set_self]
    exact ⟨cell_off h1 (by omega), cell_set_same h2⟩
  · rw [List.getElem_set_ne e]
    exact ⟨cell_off h1 (by omega), cell_off h2 (by omega)⟩
theorem FTab.setn {b : Nat} {W : World} {fs : List Fl} (h : FTab b W fs) (k : Nat) (hk : k < fs.length) (u : List UInt8) : FTab b (W.setCell ⟨b, k * 2, none⟩ (.string ⟨u.toArray⟩)) (fs.set k (u, fs[k].2)) := by
  intro i hi
  rw [List.length_set] at hi
  obtain ⟨h1, h2⟩ := h i hi
  by_cases e : k = i
  · subst e
    rw [List.getElem_set_self]
    exact ⟨cell_set_same h1, cell_off h2 (by omega)⟩
  · rw [List.getElem_set_ne e]
    exact ⟨cell_off h1 (by omega), cell_off h2 (by omega)⟩

def AsksPost (w : World) (e : Ending) (w' : World) : Prop := ∃ b, w.heap.size ≤ b ∧ e = .returned ((askR keyL k13).V (.slice (some ⟨b, 0, none⟩) 5 5)) ∧ FTab b w' (askFs keyL k13) ∧ (∀ o, w'.frozen? ⟨b, o, none⟩ = false) ∧ OwnF b w' (.slice (some ⟨b, 0, none⟩) 5 5) (askFs keyL k13) ∧ Gr w w'
set_option maxHeartbeats 2000000 in
set_option maxRecDepth 20000 in
theorem asks_made (w : World) : Calls Tryz.prog 11 #[] w (AsksPost w) := by
  go_enter Tryz.func11, Tryz.ntmps11
  go_wp2
  refine bodyPost_ret (v := (askR keyL k13).V (.slice (some ⟨w.heap.size + 1, 0, none⟩) 5 5)) (by simp [results, Tryz.results11, go_sem, Rq.V, askR, keyL, kGET]) rfl ⟨w.heap.size + 1, by omega, rfl, ?_, ?_, ?_, ?_⟩
  · have := ftab_new (w.alloc (.cells #[.string ⟨kGET.toArray⟩, .string ⟨#[47, 119, 115]⟩, .string ⟨#[]⟩, .int .i64 11, .slice (some ⟨w.heap.size + 1, 0, none⟩) 5 5, .string ⟨#[]⟩, .bool false] 24)) (askFs keyL k13) 35
    rw [show (w.alloc (.cells #[.string ⟨kGET.toArray⟩, .string ⟨#[47, 119, 115]⟩, .string ⟨#[]⟩, .int .i64 11, .slice (some ⟨w.heap.size + 1, 0, none⟩) 5 5, .string ⟨#[]⟩, .bool false] 24)).heap.size = w.heap.size + 1 from by simp] at this
    exact this
  · exact fun o => World.frozen?_alloc_at _ _ _ _ (by simp)
  · have := World.ownsRow_lit (base := w.heap.size + 1) (e := 35) (size := 2) (w.alloc (.cells #[.string ⟨kGET.toArray⟩, .string ⟨#[47, 119, 115]⟩, .string ⟨#[]⟩, .int .i64 11, .slice (some ⟨w.heap.size + 1, 0, none⟩) 5 5, .string ⟨#[]⟩, .bool false] 24)) (fcells (askFs keyL k13)).toArray 5 (by simp) (by decide) rfl
    rw [show (w.alloc (.cells #[.string ⟨kGET.toArray⟩, .string ⟨#[47, 119, 115]⟩, .string ⟨#[]⟩, .int .i64 11, .slice (some ⟨w.heap.size + 1, 0, none⟩) 5 5, .string ⟨#[]⟩, .bool false] 24)).heap.size = w.heap.size + 1 from by simp] at this
    exact this
  · exact (Gr.alloc _ _).alloc1 _

/-- Are replies the same? -/
def sameB (x y : Rp) : Bool := (x.code == y.code) && ((x.b == y.b) && (x.fs == y.fs))
theorem sameB_refl (x : Rp) : sameB x x = true := by simp [sameB]
theorem take_succ_eq {α : Type} {a b : List α} {k : Nat} (h : a.take k = b.take k) (ha : k < a.length) (hb : k < b.length) (e : a[k] = b[k]) : a.take (k + 1) = b.take (k + 1) := by
  rw [List.take_succ_eq_append_getElem ha, List.take_succ_eq_append_getElem hb, h, e]
theorem ne_at {a b : List Fl} {k : Nat} (ha : k < a.length) (hb : k < b.length) (e : a[k] ≠ b[k]) : (a == b) = false := by
  rw [beq_eq_false_iff_ne]; intro h; subst h; exact e rfl
set_option maxHeartbeats 8000000 in
set_option maxRecDepth 20000 in
theorem same_any (x y : Rp) (s t : Value) (w : World) (hx : FieldsAt w s x.fs) (hy : FieldsAt w t y.fs) (hlx : x.fs.length ≤ 9223372036854775807) (hly : y.fs.length ≤ 9223372036854775807) :
    Calls Tryz.prog 10 #[x.V s, y.V t] w fun e w' => e = .returned (.bool (sameB x y)) ∧ Gr w w' := by
  obtain ⟨p, cap, rfl, hc⟩ := hx
  obtain ⟨q, cap2, rfl, hd⟩ := hy
  have hc' := Lib.hid hc
  have hd' := Lib.hid hd
  clear hc hd
  obtain ⟨cx, xs, bx⟩ := x
  obtain ⟨cy, ys, by'⟩ := y
  unfold Rp.V
  dsimp only at hc' hd' hlx hly ⊢
  have n1 : ((w.alloc (.cells #[.int .i64 cx, .slice p xs.length cap, .string ⟨bx.toArray⟩] 30)).alloc (.cells #[.int .i64 cy, .slice q ys.length cap2, .string ⟨by'.toArray⟩] 30)).cell? ⟨w.heap.size, 1, none⟩ = some (.slice p xs.length cap) := by simp [go_sem]
  have n0 : ((w.alloc (.cells #[.int .i64 cx, .slice p xs.length cap, .string ⟨bx.toArray⟩] 30)).alloc (.cells #[.int .i64 cy, .slice q ys.length cap2, .string ⟨by'.toArray⟩] 30)).cell? ⟨w.heap.size, 0, none⟩ = some (.int .i64 cx) := by simp [go_sem]
  have n2 : ((w.alloc (.cells #[.int .i64 cx, .slice p xs.length cap, .string ⟨bx.toArray⟩] 30)).alloc (.cells #[.int .i64 cy, .slice q ys.length cap2, .string ⟨by'.toArray⟩] 30)).cell? ⟨w.heap.size, 2, none⟩ = some (.string ⟨bx.toArray⟩) := by simp [go_sem]
  have m0 : ((w.alloc (.cells #[.int .i64 cx, .slice p xs.length cap, .string ⟨bx.toArray⟩] 30)).alloc (.cells #[.int .i64 cy, .slice q ys.length cap2, .string ⟨by'.toArray⟩] 30)).cell? ⟨w.heap.size + 1, 0, none⟩ = some (.int .i64 cy) := by simp [go_sem]
  have m1 : ((w.alloc (.cells #[.int .i64 cx, .slice p xs.length cap, .string ⟨bx.toArray⟩] 30)).alloc (.cells #[.int .i64 cy, .slice q ys.length cap2, .string ⟨by'.toArray⟩] 30)).cell? ⟨w.heap.size + 1, 1, none⟩ = some (.slice q ys.length cap2) := by simp [go_sem]
  have m2 : ((w.alloc (.cells #[.int .i64 cx, .slice p xs.length cap, .string ⟨bx.toArray⟩] 30)).alloc (.cells #[.int .i64 cy, .slice q ys.length cap2, .string ⟨by'.toArray⟩] 30)).cell? ⟨w.heap.size + 1, 2, none⟩ = some (.string ⟨by'.toArray⟩) := by simp [go_sem]
  by_cases hne : xs.length = ys.length
  · have hlen : ((xs.length : Int) != ys.length) = false := by simp [hne]
    have hne' := Lib.hid hne
    clear hne
    go_enter Tryz.func10, Tryz.ntmps10
    go_wp2
    have g0 := Lib.hid (((Gr.alloc w (.cells #[.int .i64 cx, .slice p xs.length cap, .string ⟨bx.toArray⟩] 30)).alloc1 (.cells #[.int .i64 cy, .slice q ys.length cap2, .string ⟨by'.toArray⟩] 30)))
    generalize ((w.alloc (.cells #[.int .i64 cx, .slice p xs.length cap, .string ⟨bx.toArray⟩] 30)).alloc (.cells #[.int .i64 cy, .slice q ys.length cap2, .string ⟨by'.toArray⟩] 30)) = w1 at g0 n0 n1 n2 m0 m1 m2 ⊢
    go_loopw [5] (fun i wr => (∃ k : Nat, k ≤ xs.length ∧ i = .int .i64 k ∧ xs.take k = ys.take k) ∧ Gr w1 wr) (fun i _ => xs.length - (intOf i).toNat)
    case atStart => exact ⟨⟨0, Nat.zero_le _, rfl, rfl⟩, Gr.refl _⟩
    case round =>
      obtain ⟨⟨k, hk, rfl, hall⟩, hg⟩ := hrel
      have hall' := Lib.hid hall
      clear hall
      replace n0 := hg.cell n0
      replace n1 := hg.cell n1
      replace n2 := hg.cell n2
      replace m0 := hg.cell m0
      replace m1 := hg.cell m1
      replace m2 := hg.cell m2
      by_cases hlt : k < xs.length
      · have hlt2 : k < ys.length := by have := hne'.out; omega
        obtain ⟨b, off, rfl, h1, h2⟩ := hc'.out k hlt
        obtain ⟨b2, off2, rfl, h3, h4⟩ := hd'.out k hlt2
        have c1 := (g0.out.trans hg).cell h1
        have c2 := (g0.out.trans hg).cell h2
        have c3 := (g0.out.trans hg).cell h3
        have c4 := (g0.out.trans hg).cell h4
        clear h1 h2 h3 h4
        obtain ⟨⟨x1, x2⟩, hx⟩ : ∃ x, xs[k] = x := ⟨_, rfl⟩
        obtain ⟨⟨y1, y2⟩, hy⟩ : ∃ x, ys[k] = x := ⟨_, rfl⟩
        rw [hx] at c1 c2
        rw [hy] at c3 c4
        dsimp only at c1 c2 c3 c4
        have hx' := Lib.hid hx
        have hy' := Lib.hid hy
        have hkI : (0 : Int) ≤ k := by omega
        have hkA : (k : Int) < xs.length := by omega
        have hkB : (k : Int) < ys.length := by omega
        clear hx hy
        by_cases h1 : x1 = y1
        · subst h1
          by_cases h2 : x2 = y2
          · subst h2
            go_wp2
            go_quiet (fail)
            go_wp2
            go_roundw
            case rel => exact ⟨⟨k + 1, by omega, by go_num, take_succ_eq hall'.out hlt hlt2 (by rw [hx'.out, hy'.out])⟩, hg.trans (below_drewNm _ _)⟩
            case measure => simp [intOf]; omega
          · have hne2 := Lib.hid h2
            go_wp2
            go_quiet (fail)
            go_wp2
            go_ret
            exact ⟨ret_bool (show false = _ by unfold sameB; dsimp only; rw [ne_at hlt hlt2 (by rw [hx'.out, hy'.out]; intro e; exact hne2.out (Prod.mk.inj e).2)]; simp), g0.out.trans (hg.trans (below_drewNm _ _))⟩
        · have hne1 := Lib.hid h1
          go_wp2
          go_quiet (fail)
          go_wp2
          go_ret
          exact ⟨ret_bool (show false = _ by unfold sameB; dsimp only; rw [ne_at hlt hlt2 (by rw [hx'.out, hy'.out]; intro e; exact hne1.out (Prod.mk.inj e).1)]; simp), g0.out.trans (hg.trans (below_drewNm _ _))⟩
      · have heq : xs = ys := by
          have h := hall'.out
          rw [List.take_of_length_le (by omega), List.take_of_length_le (by have := hne'.out; omega)] at h
          exact h
        have heq' := Lib.hid heq
        clear heq
        by_cases h1 : cx = cy
        · subst h1
          by_cases h2 : bx = by'
          · subst h2
            go_wp2
            go_ret
            exact ⟨ret_bool (by unfold sameB; simp [heq'.out]), g0.out.trans hg⟩
          · have h2' := Lib.hid h2
            go_wp2
            go_ret
            exact ⟨ret_bool (by unfold sameB; simp [h2'.out]), g0.out.trans hg⟩
        · have h1b : (cx == cy) = false := beq_eq_false_iff_ne.2 h1
          have h1' := Lib.hid h1
          clear h1
          go_wp2
          go_ret
          exact ⟨ret_bool (by unfold sameB; simp [h1'.out]), g0.out.trans hg⟩
  · have hlen : ((xs.length : Int) != ys.length) = true := by rw [bne_iff_ne]; omega
    go_enter Tryz.func10, Tryz.ntmps10
    go_wp2
    go_ret
    exact ⟨ret_bool (show false = _ by unfold sameB; dsimp only; rw [show (xs == ys) = false from beq_eq_false_iff_ne.2 (fun e => hne (by rw [e]))]; simp), (Gr.alloc _ _).alloc1 _⟩
end Go.Proofs.YtheihlalgekojaaGreatDoor
namespace Go.Proofs.YtheihlalgekojaaGreatDoor
open Go.RowKit
attribute [local go_sem] Oper.semAt_some

def allTo {α : Type} (l : List α) (p : α → Prop) (k : Nat) : Prop := ∀ x ∈ l.take k, p x
theorem allTo_succ {α : Type} {l : List α} {p : α → Prop} {k : Nat} (h : allTo l p k) (hk : k < l.length) (hp : p l[k]) : allTo l p (k + 1) := by
  intro x hx
  rw [List.take_succ_eq_append_getElem hk, List.mem_append] at hx
  rcases hx with hx | hx
  · exact h x hx
  · rw [List.mem_singleton] at hx; rw [hx]; exact hp
theorem allTo_all {α : Type} {l : List α} {p : α → Prop} {k : Nat} (h : allTo l p k) (hk : l.length ≤ k) : ∀ x ∈ l, p x := by
  intro x hx; exact h x (by rw [List.take_of_length_le hk]; exact hx)

def GreatPost (fs : List Fl) (w : World) (e : Ending) (w' : World) : Prop := ∃ b, e = .returned (.bool b) ∧ (b = false → fs.length ≤ 40 ∧ ∀ f ∈ fs, f.1.length ≤ 200 ∧ f.2.length ≤ 200) ∧ Gr w w'
set_option maxHeartbeats 2000000 in
set_option maxRecDepth 20000 in
theorem great_any (sv : Value) (r : Rq) (w : World) (hf : FieldsAt w sv r.fs) (hlf : r.fs.length ≤ 9223372036854775807) :
    Calls Tryz.prog 4 #[r.V sv] w (GreatPost r.fs w) := by
  obtain ⟨q, cap2, rfl, hd⟩ := hf
  have hd' := Lib.hid hd
  clear hd
  obtain ⟨rm, rp, rq, rv, fs, rb, rc⟩ := r
  dsimp only at hd' hlf ⊢
  show Calls Tryz.prog 4 #[.agg #[.string ⟨rm.toArray⟩, .string ⟨rp.toArray⟩, .string ⟨rq.toArray⟩, .int .i64 rv, .slice q fs.length cap2, .string ⟨rb.toArray⟩, .bool rc]] w _
  by_cases hall : fs.length ≤ 40
  · have hsm := Lib.hid hall
    go_enter Tryz.func4, Tryz.ntmps4
    go_wp2
    go_loop [3] (fun i => ∃ k : Nat, k ≤ fs.length ∧ i = .int .i64 k ∧ allTo fs (fun f => f.1.length ≤ 200 ∧ f.2.length ≤ 200) k) (fun i => fs.length - (intOf i).toNat)
    case atStart => exact ⟨0, Nat.zero_le _, rfl, fun x hx => by simp at hx⟩
    case round =>
      obtain ⟨j, hj, rfl, hall⟩ := hrel
      have hall' := Lib.hid hall
      clear hall
      by_cases hlt2 : j < fs.length
      · obtain ⟨b, off, rfl, c1, c2⟩ := hd'.out j hlt2
        have hb := World.block_lt_of_cell? _ _ c1
        (try dsimp only at hb)
        by_cases hs : fs[j].1.length ≤ 200 ∧ fs[j].2.length ≤ 200
        · obtain ⟨hs1, hs2⟩ := hs
          have hnext := Lib.hid (allTo_succ hall'.out hlt2 ⟨hs1, hs2⟩)
          go_wp2
          go_round
          case rel => exact ⟨j + 1, by omega, by go_num, hnext.out⟩
          case measure => simp [intOf]; omega
        · have hor : 200 < fs[j].1.length ∨ (fs[j].1.length ≤ 200 ∧ 200 < fs[j].2.length) := by omega
          clear hs
          rcases hor with hs | ⟨hs1, hs2⟩
          all_goals go_wp2
          all_goals go_ret
          all_goals exact ⟨true, rfl, fun h => Bool.noConfusion h, Gr.alloc _ _⟩
      · have hdone2 := Lib.hid (allTo_all hall'.out (by omega))
        clear hall'
        go_wp2
        go_ret
        exact ⟨false, rfl, fun _ => ⟨hsm.out, hdone2.out⟩, Gr.alloc _ _⟩
  · go_enter Tryz.func4, Tryz.ntmps4
    go_wp2
    go_ret
    exact ⟨true, rfl, fun h => Bool.noConfusion h, Gr.alloc _ _⟩

/-- The bytes of a, the first k in small letters. -/
def lowTo (a : List UInt8) (k : Nat) : List UInt8 := (a.take k).map lower ++ a.drop k
theorem lowTo_length (a : List UInt8) (k : Nat) : (lowTo a k).length = a.length := by simp [lowTo]; omega
theorem lowTo_get (a : List UInt8) (k j : Nat) (hj : j < a.length) : (lowTo a k)[j]'(by rw [lowTo_length]; exact hj) = if j < k then lower a[j] else a[j] := by
  unfold lowTo
  by_cases h : j < k
  · rw [List.getElem_append_left (by simp; omega)]; simp [h]
  · rw [List.getElem_append_right (by simp; omega)]
    simp only [h, if_false]
    simp [show k ≤ a.length by omega, show k + (j - k) = j by omega]

end Go.Proofs.YtheihlalgekojaaGreatDoor
namespace Go.Proofs.YtheihlalgekojaaGreatDoor
open Go.RowKit
attribute [local go_sem] Oper.semAt_some

theorem short_ask (key ver : List UInt8) (h1 : key.length ≤ 800000) (h2 : ver.length ≤ 800000) : Short (askFs key ver) := by
  refine ⟨by simp [askFs], fun f hf => ?_⟩
  simp only [askFs, List.mem_cons, List.not_mem_nil, or_false] at hf
  rcases hf with rfl | rfl | rfl | rfl | rfl
  · exact ⟨by decide, by decide⟩
  · exact ⟨by decide, by decide⟩
  · exact ⟨by decide, by decide⟩
  · exact ⟨by show kKey.length ≤ _; decide, h1⟩
  · exact ⟨by show kVer.length ≤ _; decide, h2⟩
theorem check_is {r : Rq} {x : List UInt8 × Nat} (h : checkB r = x) (t : Value) (w : World) (hG : G w) (hf : FieldsAt w t r.fs) (hs : Short r.fs) :
    Calls Tryz.prog 6 #[r.V t] w fun e w' => e = .returned (ckV x) ∧ Gr w w' := h ▸ check_any r t w hG hf hs
theorem answer_is {r : Rq} {x : Rp × Bool} (h : answerB (checkB r) = x) (t : Value) (w : World) (hG : G w) (hf : FieldsAt w t r.fs) (hs : Short r.fs) :
    Calls Tryz.prog 8 #[r.V t] w (AnsPost w x) := h ▸ answer_any r t w hG hf hs
theorem accept_is {k a : List UInt8} (h : acceptL k = a) (hk : k.length ≤ 800000) (w : World) : Calls Tryz.prog 12 #[.string ⟨k.toArray⟩] w fun e w' => e = .returned (.string ⟨a.toArray⟩) ∧ Gr w w' := h ▸ accept_any k hk w
set_option maxHeartbeats 8000000 in
set_option maxRecDepth 20000 in
theorem wakes_any (w : World) (hG : G w) : Calls Tryz.prog 5 #[] w fun e w' => e = .returned (.bool true) ∧ Gr w w' := by
  have hG' := Lib.hid hG
  clear hG
  go_enter Tryz.func5, Tryz.ntmps5
  go_wp2_with fail
  refine (asks_made _).mono ?_
  rintro e w1 ⟨b1, hb1, rfl, hf1, _, _, g1⟩
  go_wp2_with fail
  refine (check_is check_key _ _ (hG'.out.gr g1) (hf1.at 5) (short_ask _ _ (by decide) (by decide))).mono ?_
  rintro e w2 ⟨rfl, g2⟩
  have g2' := Lib.hid (g1.trans g2)
  clear hf1 g1 g2 hb1
  unfold ckV
  go_wp2_with fail
  refine (asks_made _).mono ?_
  rintro e w3 ⟨b3, hb3, rfl, hf3, _, _, g3⟩
  go_wp2_with fail
  refine (answer_is answer_key _ _ (hG'.out.gr (g2'.out.trans g3)) (hf3.at 5) (short_ask _ _ (by decide) (by decide))).mono ?_
  rintro e w4 ⟨t4, rfl, hf4, g4⟩
  have g4' := Lib.hid (g2'.out.trans (g3.trans g4))
  clear hf3 g3 g4 hb3 g2'
  obtain ⟨p4, cap4, rfl, _⟩ := hf4
  unfold Rp.V
  dsimp only [List.length_cons, List.length_nil, Nat.zero_add, Nat.reduceAdd]
  go_wp2_with fail
  have k0 : (w4.alloc (.cells #[.int .i64 101, .slice p4 3 cap4, .string ⟨#[]⟩] 30)).cell? ⟨w4.heap.size, 0, none⟩ = some (.int .i64 101) := by simp [go_sem]
  have k1 : (w4.alloc (.cells #[.int .i64 101, .slice p4 3 cap4, .string ⟨#[]⟩] 30)).cell? ⟨w4.heap.size, 1, none⟩ = some (.slice p4 3 cap4) := by simp [go_sem]
  refine (check_is check_post (.slice none 0 0) _ (hG'.out.gr (g4'.out.alloc1 _)) (fieldsAt_none _ _) ⟨Nat.zero_le _, fun f hf => absurd hf (List.not_mem_nil)⟩).mono ?_
  rintro e w5 ⟨rfl, g5⟩
  replace k0 := g5.cell k0
  replace k1 := g5.cell k1
  have g5' := Lib.hid ((g4'.out.alloc1 _).trans g5)
  clear g5
  unfold ckV
  go_wp2_with fail
  refine (accept_is accept_key (by decide) _).mono ?_
  rintro e w6 ⟨rfl, g6⟩
  go_wp2
  go_ret
  exact ⟨rfl, g5'.out.trans g6⟩
end Go.Proofs.YtheihlalgekojaaGreatDoor
