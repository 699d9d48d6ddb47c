/-
  Walks over the statements' own helpers, of the chain's statements: fields that are the same, replies that are the same, sizes, the handler that tells the path.
-/
import Derived.Test.YtolpphmgobeocaaDoorCx
namespace Go.Proofs.YtolpphmgobeocaaDoor
open Go.RowKit Go.Shelf
attribute [local go_sem] Oper.semAt_some

theorem take_succ_eq {α : Type} {a b : List α} {k : Nat} (h : a.take k = b.take k) (ha : k < a.length) (hb : k < b.length) (e : a[k] = b[k]) : a.take (k + 1) = b.take (k + 1) := by
  rw [List.take_succ_eq_append_getElem ha, List.take_succ_eq_append_getElem hb, h, e]
theorem ne_at {a b : List Fl} {k : Nat} (ha : k < a.length) (hb : k < b.length) (e : a[k] ≠ b[k]) : (a == b) = false := by
  rw [beq_eq_false_iff_ne]; intro h; subst h; exact e rfl

set_option maxHeartbeats 1000000 in
theorem samef_any (va vb : Value) (xs ys : List Fl) (w : World) (ha : FieldsAt w va xs) (hb : FieldsAt w vb ys) (hla : xs.length ≤ 9223372036854775807) (hlb : ys.length ≤ 9223372036854775807) :
    Calls Tryd.prog 19 #[va, vb] w fun e w' => e = .returned (.bool (xs == ys)) ∧ Gr w w' := by
  obtain ⟨p, cap, rfl, hc⟩ := ha
  obtain ⟨q, cap2, rfl, hd⟩ := hb
  have hc' := Lib.hid hc
  have hd' := Lib.hid hd
  clear hc hd
  by_cases hne : xs.length = ys.length
  · have hlen : ((xs.length : Int) != ys.length) = false := by simp [hne]
    have hne' := Lib.hid hne
    clear hne
    go_enter Tryd.func19, Tryd.ntmps19
    go_wp2
    go_loopw [5] (fun i wr => (∃ k : Nat, k ≤ xs.length ∧ i = .int .i64 k ∧ xs.take k = ys.take k) ∧ Gr w wr) (fun i _ => xs.length - (intOf i).toNat)
    case atStart => exact ⟨⟨0, Nat.zero_le _, rfl, rfl⟩, Gr.refl _⟩
    case round =>
      obtain ⟨⟨k, hk, rfl, hall⟩, hg⟩ := hrel
      have hall' := Lib.hid hall
      clear hall
      by_cases hlt : k < xs.length
      · have hlt2 : k < ys.length := by have := hne'.out; omega
        obtain ⟨b, off, rfl, h1, h2⟩ := hc'.out k hlt
        obtain ⟨b2, off2, rfl, h3, h4⟩ := hd'.out k hlt2
        have c1 := hg.cell h1
        have c2 := hg.cell h2
        have c3 := hg.cell h3
        have c4 := hg.cell h4
        clear h1 h2 h3 h4
        obtain ⟨⟨x1, x2⟩, hx⟩ : ∃ x, xs[k] = x := ⟨_, rfl⟩
        obtain ⟨⟨y1, y2⟩, hy⟩ : ∃ x, ys[k] = x := ⟨_, rfl⟩
        rw [hx] at c1 c2
        rw [hy] at c3 c4
        dsimp only at c1 c2 c3 c4
        have hx' := Lib.hid hx
        have hy' := Lib.hid hy
        have hkI : (0 : Int) ≤ k := by omega
        have hkA : (k : Int) < xs.length := by omega
        have hkB : (k : Int) < ys.length := by omega
        clear hx hy
        by_cases h1 : x1 = y1
        · subst h1
          by_cases h2 : x2 = y2
          · subst h2
            go_wp2
            go_quiet (fail)
            go_wp2
            go_roundw
            case rel => exact ⟨⟨k + 1, by omega, by go_num, take_succ_eq hall'.out hlt hlt2 (by rw [hx'.out, hy'.out])⟩, hg.trans (below_drewNm _ _)⟩
            case measure => simp [intOf]; omega
          · have hne2 := Lib.hid h2
            go_wp2
            go_quiet (fail)
            go_wp2
            go_ret
            exact ⟨ret_bool (ne_at hlt hlt2 (by rw [hx'.out, hy'.out]; intro e; exact hne2.out (Prod.mk.inj e).2)).symm, hg.trans (below_drewNm _ _)⟩
        · have hne1 := Lib.hid h1
          go_wp2
          go_quiet (fail)
          go_wp2
          go_ret
          exact ⟨ret_bool (ne_at hlt hlt2 (by rw [hx'.out, hy'.out]; intro e; exact hne1.out (Prod.mk.inj e).1)).symm, hg.trans (below_drewNm _ _)⟩
      · go_wp2
        go_ret
        refine ⟨ret_bool ?_, hg⟩
        have h := hall'.out
        rw [List.take_of_length_le (by omega), List.take_of_length_le (by have := hne'.out; omega)] at h
        rw [h]; simp
  · have hlen : ((xs.length : Int) != ys.length) = true := by rw [bne_iff_ne]; omega
    go_enter Tryd.func19, Tryd.ntmps19
    go_wp2
    go_ret
    exact ⟨ret_bool (beq_eq_false_iff_ne.2 (fun e => hne (by rw [e]))).symm, Gr.refl _⟩

/-- Are replies the same? -/
def sameB (x y : Rp) : Bool := (x.code == y.code) && ((x.b == y.b) && (x.fs == y.fs))
theorem sameB_refl (x : Rp) : sameB x x = true := by simp [sameB]
set_option maxHeartbeats 1000000 in
theorem same_any (x y : Rp) (s t : Value) (w : World) (hx : FieldsAt w s x.fs) (hy : FieldsAt w t y.fs) (hlx : x.fs.length ≤ 9223372036854775807) (hly : y.fs.length ≤ 9223372036854775807) :
    Calls Tryd.prog 17 #[x.V s, y.V t] w fun e w' => e = .returned (.bool (sameB x y)) ∧ Gr w w' := by
  have hcall := Lib.hid (fun W (h : Gr w W) => samef_any s t x.fs y.fs W (hx.gr h) (hy.gr h) hlx hly)
  obtain ⟨p, cap, rfl, _⟩ := hx
  obtain ⟨q, cap2, rfl, _⟩ := hy
  obtain ⟨c1, fs1, b1⟩ := x
  obtain ⟨c2, fs2, b2⟩ := y
  unfold Rp.V sameB
  dsimp only at hcall hlx hly ⊢
  obtain ⟨r, hr⟩ : ∃ r, (fs1 == fs2) = r := ⟨_, rfl⟩
  rw [hr] at hcall ⊢
  clear hr
  by_cases h1 : c1 = c2
  · subst h1
    by_cases h2 : b1 = b2
    · subst h2
      go_enter Tryd.func17, Tryd.ntmps17
      go_wp2_with fail
      refine (hcall.out _ ((Gr.alloc _ _).alloc1 _)).mono ?_
      rintro e w2 ⟨rfl, hb⟩
      go_wp2
      go_ret
      exact ⟨ret_bool (by simp), ((Gr.alloc _ _).alloc1 _).trans hb⟩
    · go_enter Tryd.func17, Tryd.ntmps17
      go_wp2
      go_ret
      exact ⟨ret_bool (by simp [h2]), (Gr.alloc _ _).alloc1 _⟩
  · go_enter Tryd.func17, Tryd.ntmps17
    have h1b : (c1 == c2) = false := beq_eq_false_iff_ne.2 h1
    go_wp2
    go_ret
    exact ⟨ret_bool (by simp [h1]), (Gr.alloc _ _).alloc1 _⟩

/-- The handler that tells the path. -/
def RTell (_ : Nat) (r : Rq) (x : Rp) (_ _ : World) : Prop := x = ⟨200, [], r.p⟩
theorem closed_tell (T : Nat → Prop) : Closed T RTell := fun _ _ _ _ _ _ _ _ _ _ _ _ h _ => h
set_option maxHeartbeats 1000000 in
theorem tell_b (F : Nat → Prop) (W0 : World) : HandlesB 20 #[] (fun _ => False) F W0 0 RTell := by
  intro B W r s _ hs hB _ _ _
  obtain ⟨p, cap, rfl⟩ := hs.slice
  clear hs
  show Calls Tryd.prog 20 #[.agg #[.string ⟨r.m.toArray⟩, .string ⟨r.p.toArray⟩, .string ⟨r.q.toArray⟩, .int .i64 r.v, .slice p r.fs.length cap, .string ⟨r.b.toArray⟩, .bool r.c]] W _
  go_enter Tryd.func20, Tryd.ntmps20
  go_wp2
  refine bodyPost_ret (v := Rp.V ⟨200, [], r.p⟩ (.slice none 0 0)) (by simp [results, Tryd.results20, go_sem, Rp.V]) rfl ⟨_, _, rfl, ⟨none, 0, rfl, fun i hi => absurd hi (Nat.not_lt_zero _)⟩, Nat.le_refl _, rfl, ?_⟩
  first
    | exact ((Gr.alloc _ _).alloc1 _).to_ch _

/-- What is not too great for the statements. -/
structure Small (ss : List Stp) (r : Rq) : Prop where
  l : ss.length ≤ 12
  f : r.fs.length ≤ 40
  p : r.p.length ≤ 300
  b : r.b.length ≤ 3000
  s : ∀ s ∈ ss, s.name.length ≤ 100 ∧ s.value.length ≤ 100
  g : ∀ f ∈ r.fs, f.1.length ≤ 200 ∧ f.2.length ≤ 200
def GreatPost (ss : List Stp) (r : Rq) (w : World) (e : Ending) (w' : World) : Prop := ∃ b, e = .returned (.bool b) ∧ (b = false → Small ss r) ∧ Gr w w'
def allTo {α : Type} (l : List α) (p : α → Prop) (k : Nat) : Prop := ∀ x ∈ l.take k, p x
theorem allTo_succ {α : Type} {l : List α} {p : α → Prop} {k : Nat} (h : allTo l p k) (hk : k < l.length) (hp : p l[k]) : allTo l p (k + 1) := by
  intro x hx
  rw [List.take_succ_eq_append_getElem hk, List.mem_append] at hx
  rcases hx with hx | hx
  · exact h x hx
  · rw [List.mem_singleton] at hx; rw [hx]; exact hp
theorem allTo_all {α : Type} {l : List α} {p : α → Prop} {k : Nat} (h : allTo l p k) (hk : l.length ≤ k) : ∀ x ∈ l, p x := by
  intro x hx; exact h x (by rw [List.take_of_length_le hk]; exact hx)

set_option maxHeartbeats 2000000 in
set_option maxRecDepth 100000 in
theorem great_any (lv sv : Value) (ss : List Stp) (r : Rq) (w : World) (hx : StepsAt w lv ss) (hf : FieldsAt w sv r.fs) (hls : ss.length ≤ 9223372036854775807) (hlf : r.fs.length ≤ 9223372036854775807) (hlp : r.p.length ≤ 9223372036854775807) (hlb : r.b.length ≤ 9223372036854775807) :
    Calls Tryd.prog 9 #[lv, r.V sv] w (GreatPost ss r w) := by
  obtain ⟨p, cap, rfl, hc⟩ := hx
  obtain ⟨q, cap2, rfl, hd⟩ := hf
  have hc' := Lib.hid hc
  have hd' := Lib.hid hd
  clear hc hd
  obtain ⟨rm, rp, rq, rv, fs, rb, rc⟩ := r
  dsimp only at hd' hlf hlp hlb ⊢
  show Calls Tryd.prog 9 #[.slice p ss.length cap, .agg #[.string ⟨rm.toArray⟩, .string ⟨rp.toArray⟩, .string ⟨rq.toArray⟩, .int .i64 rv, .slice q fs.length cap2, .string ⟨rb.toArray⟩, .bool rc]] w _
  by_cases hall : ss.length ≤ 12 ∧ fs.length ≤ 40 ∧ rp.length ≤ 300 ∧ rb.length ≤ 3000
  · obtain ⟨h1, h2, h3, h4⟩ := hall
    have hsm := Lib.hid (show (∀ s ∈ ss, s.name.length ≤ 100 ∧ s.value.length ≤ 100) → (∀ f ∈ fs, f.1.length ≤ 200 ∧ f.2.length ≤ 200) → Small ss ⟨rm, rp, rq, rv, fs, rb, rc⟩ from fun a b => ⟨h1, h2, h3, h4, a, b⟩)
    go_enter Tryd.func9, Tryd.ntmps9
    go_wp2
    go_loop [5] (fun i => ∃ k : Nat, k ≤ ss.length ∧ i = .int .i64 k ∧ allTo ss (fun s => s.name.length ≤ 100 ∧ s.value.length ≤ 100) k) (fun i => ss.length - (intOf i).toNat)
    case atStart => exact ⟨0, Nat.zero_le _, rfl, fun x hx => by simp at hx⟩
    case round =>
      obtain ⟨k, hk, rfl, hall⟩ := hrel
      have hall' := Lib.hid hall
      clear hall
      by_cases hlt : k < ss.length
      · obtain ⟨b, off, rfl, c0, c1, c2, c3⟩ := hc'.out k hlt
        have hb := World.block_lt_of_cell? _ _ c1
        (try dsimp only at hb)
        by_cases hs : ss[k].name.length ≤ 100 ∧ ss[k].value.length ≤ 100
        · obtain ⟨hs1, hs2⟩ := hs
          have hnext := Lib.hid (allTo_succ hall'.out hlt ⟨hs1, hs2⟩)
          go_wp2
          go_round
          case rel => exact ⟨k + 1, by omega, by go_num, hnext.out⟩
          case measure => simp [intOf]; omega
        · have hor : 100 < ss[k].name.length ∨ (ss[k].name.length ≤ 100 ∧ 100 < ss[k].value.length) := by omega
          clear hs
          rcases hor with hs | ⟨hs1, hs2⟩
          all_goals go_wp2
          all_goals go_ret
          all_goals exact ⟨true, rfl, fun h => Bool.noConfusion h, Gr.alloc _ _⟩
      · have hdone := Lib.hid (allTo_all hall'.out (by omega))
        clear hall'
        go_wp2
        go_loop [6] (fun i => ∃ k : Nat, k ≤ fs.length ∧ i = .int .i64 k ∧ allTo fs (fun f => f.1.length ≤ 200 ∧ f.2.length ≤ 200) k) (fun i => fs.length - (intOf i).toNat)
        case atStart => exact ⟨0, Nat.zero_le _, rfl, fun x hx => by simp at hx⟩
        case round =>
          obtain ⟨j, hj, rfl, hall⟩ := hrel
          have hall' := Lib.hid hall
          clear hall
          by_cases hlt2 : j < fs.length
          · obtain ⟨b, off, rfl, c1, c2⟩ := hd'.out j hlt2
            have hb := World.block_lt_of_cell? _ _ c1
            (try dsimp only at hb)
            by_cases hs : fs[j].1.length ≤ 200 ∧ fs[j].2.length ≤ 200
            · obtain ⟨hs1, hs2⟩ := hs
              have hnext := Lib.hid (allTo_succ hall'.out hlt2 ⟨hs1, hs2⟩)
              go_wp2
              go_round
              case rel => exact ⟨j + 1, by omega, by go_num, hnext.out⟩
              case measure => simp [intOf]; omega
            · have hor : 200 < fs[j].1.length ∨ (fs[j].1.length ≤ 200 ∧ 200 < fs[j].2.length) := by omega
              clear hs
              rcases hor with hs | ⟨hs1, hs2⟩
              all_goals go_wp2
              all_goals go_ret
              all_goals exact ⟨true, rfl, fun h => Bool.noConfusion h, Gr.alloc _ _⟩
          · have hdone2 := Lib.hid (allTo_all hall'.out (by omega))
            clear hall'
            go_wp2
            go_ret
            exact ⟨false, rfl, fun _ => hsm.out hdone.out hdone2.out, Gr.alloc _ _⟩
  · have hor : 12 < ss.length ∨ (ss.length ≤ 12 ∧ 40 < fs.length) ∨ (ss.length ≤ 12 ∧ fs.length ≤ 40 ∧ 300 < rp.length) ∨ (ss.length ≤ 12 ∧ fs.length ≤ 40 ∧ rp.length ≤ 300 ∧ 3000 < rb.length) := by omega
    clear hall
    rcases hor with h | ⟨h1, h⟩ | ⟨h1, h2, h⟩ | ⟨h1, h2, h3, h⟩
    all_goals
      go_enter Tryd.func9, Tryd.ntmps9
      go_wp2
      go_ret
      exact ⟨true, rfl, fun h => Bool.noConfusion h, Gr.alloc _ _⟩
end Go.Proofs.YtolpphmgobeocaaDoor
