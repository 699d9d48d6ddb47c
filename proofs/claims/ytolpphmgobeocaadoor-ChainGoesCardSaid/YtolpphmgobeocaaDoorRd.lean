/-
  Walks over the chain's reference: a reply that goes back out of steps.
-/
import Derived.Test.YtolpphmgobeocaaDoorRc
import Derived.Test.YtolpphmgobeocaaDoorAp
import Derived.Test.YtolpphmgobeocaaDoorCe
import Derived.Test.YtolpphmgobeocaaDoorP6
import Derived.Deep.AppendLies
import Derived.Deep.RegionHeld3
namespace Go.Proofs.YtolpphmgobeocaaDoor
open Go.RowKit Go.Shelf
attribute [local go_sem] Oper.semAt_some

theorem drop_take_cons {α : Type} {l : List α} {n k : Nat} (hk : k < n) (hn : n ≤ l.length) : (l.take n).drop k = l[k]'(by omega) :: (l.take n).drop (k + 1) := by
  have hlt : k < (l.take n).length := by rw [List.length_take]; omega
  rw [List.drop_eq_getElem_cons hlt, List.getElem_take]
theorem back_next {ss : List Stp} {n k : Nat} (x fs : List Fl) (hk : k < n) (hn : n ≤ ss.length) : x ++ backB ((ss.take n).drop k) fs = (x ++ backB ((ss.take n).drop (k + 1)) fs) ++ adds (ss[k]'(by omega)) fs := by
  rw [drop_take_cons hk hn, backB_cons, List.append_assoc]
theorem rget_later {w : World} (v : Value) (fs : List Fl) (name : List UInt8) (o : Option (List UInt8)) (ho : getO fs name = o) (hf : FieldsAt w v fs) (hn : fs.length ≤ 1000000) (hl : ∀ f ∈ fs, f.1.length ≤ 1000000) (hln : name.length ≤ 1000000) (x : Later (Gr w)) :
    Calls Tryd.prog 36 #[v, .string ⟨name.toArray⟩] x.w fun e w'' => e = .returned (.tuple #[.string ⟨(o.getD []).toArray⟩, .bool o.isSome]) ∧ ∃ y : Later (Gr w), w'' = y.w := by
  subst ho
  exact Calls.later ((rget13_any v fs name x.w (hf.gr x.ok) hn hl hln).mono fun _ _ ⟨he, hw⟩ => ⟨he, x.ok.trans hw⟩)

theorem below_append {B : Nat} {wr w3 : World} {v : Value} {n : Nat} {xs : List Value} {e : TypeId} {size : Nat} {o : Obj} (hB : B < wr.heap.size) (h : wr.ownsRow B e size v n xs) (hg : ((wr.alloc o).drew).grownBy w3 v.ownBlock) : Below B wr w3 :=
  (((Below.refl B wr).alloc (Nat.le_of_lt hB) o).drew).trans ⟨hg.os, hg.tape, hg.output, hg.size, fun k hk => hg.block k (by show k < (wr.alloc o).heap.size; simp; omega) (fun e => by have := (h.lt k e.symm).1; omega)⟩
theorem below_append' {B : Nat} {wr w3 : World} {v : Value} {n : Nat} {xs : List Value} {e : TypeId} {size : Nat} {o : Obj} (hB : B < wr.heap.size) (h : wr.ownsRow B e size v n xs) (hg : (wr.alloc o).grownBy w3 v.ownBlock) : Below B wr w3 :=
  ((Below.refl B wr).alloc (Nat.le_of_lt hB) o).trans ⟨hg.os, hg.tape, hg.output, hg.size, fun k hk => hg.block k (by show k < (wr.alloc o).heap.size; simp; omega) (fun e => by have := (h.lt k e.symm).1; omega)⟩
/-- What a loop over the steps, from the last one on, holds. -/
def BackRel (B : Nat) (w1 : World) (n : Nat) (ss : List Stp) (xs fs : List Fl) (m : Int) (o : Value) (wr : World) : Prop :=
  -1 ≤ m ∧ m < n ∧ OwnF B wr o (xs ++ backB ((ss.take n).drop (m + 1).toNat) fs) ∧ Below B w1 wr

set_option maxHeartbeats 4000000 in
set_option maxRecDepth 100000 in
theorem back13_any (p : Option Addr) (cap : Nat) (ss : List Stp) (n : Nat) (r : Rq) (sv : Value) (x : Rp) (t : Value) (w : World) (hx : StepsAt w (.slice p ss.length cap) ss) (hf : FieldsAt w sv r.fs) (ht : FieldsAt w t x.fs) (hn : n ≤ ss.length) (hls : ss.length ≤ 1000) (hxl : x.fs.length ≤ 1000)
    (hfl : r.fs.length ≤ 1000) (hfn : ∀ f ∈ r.fs, f.1.length ≤ 1000) (hsn : ∀ s ∈ ss, s.name.length ≤ 1000) (hkinds : ∀ s ∈ ss, KindOk s) :
    Calls Tryd.prog 18 #[.slice p ss.length cap, .int .i64 n, r.V sv, x.V t] w (AddsPost (x.more (backB (ss.take n) r.fs)) w) := by
  have hf' := Lib.hid hf
  have ht' := Lib.hid ht
  have hfn' := Lib.hid hfn
  have hsn' := Lib.hid hsn
  have hkinds' := Lib.hid hkinds
  obtain ⟨p', cap', hv, hc⟩ := hx
  injection hv with e1 e2 e3
  subst e1
  have hc' := Lib.hid hc
  obtain ⟨q, cap2, rfl, -⟩ := hf
  obtain ⟨u, cap3, rfl, -⟩ := ht
  obtain ⟨code, fs, bd⟩ := x
  dsimp only at ht' hxl ⊢
  have hnl : ∀ m, m ≤ n → (backB ((ss.take n).drop m) r.fs).length ≤ 1000 := fun m hm => by
    rw [backB_length _ _ (fun s hs => hkinds s (List.mem_of_mem_take (List.mem_of_mem_drop hs)))]
    have h1 := addsN_le ((ss.take n).drop m)
    rw [List.length_drop, List.length_take] at h1
    omega
  have hnl' := Lib.hid hnl
  have hn' := Lib.hid hn
  clear hc hfn hsn hkinds hnl
  show Calls Tryd.prog 18 #[.slice p ss.length cap, .int .i64 n, .agg #[.string ⟨r.m.toArray⟩, .string ⟨r.p.toArray⟩, .string ⟨r.q.toArray⟩, .int .i64 r.v, .slice q r.fs.length cap2, .string ⟨r.b.toArray⟩, .bool r.c], .agg #[.int .i64 code, .slice u fs.length cap3, .string ⟨bd.toArray⟩]] w _
  have hnI : (n : Int) ≤ 1000 := by omega
  go_enter Tryd.func18, Tryd.ntmps18
  obtain ⟨W3, hW3⟩ : ∃ W3, ((w.alloc (.cells #[.string ⟨r.m.toArray⟩, .string ⟨r.p.toArray⟩, .string ⟨r.q.toArray⟩, .int .i64 r.v, .slice q r.fs.length cap2, .string ⟨r.b.toArray⟩, .bool r.c] 25)).alloc (.cells #[.int .i64 code, .slice u fs.length cap3, .string ⟨bd.toArray⟩] 27)).alloc (.cells #[.int .i64 0, .slice none 0 0, .string ⟨#[]⟩] 27) = W3 := ⟨_, rfl⟩
  have hz3 : W3.heap.size = w.heap.size + 3 := by rw [← hW3]; simp
  have hg3 : Gr w W3 := by rw [← hW3]; exact ((Gr.alloc _ _).alloc1 _).alloc1 _
  have q0 : W3.cell? ⟨w.heap.size, 0, none⟩ = some (.string ⟨r.m.toArray⟩) := by rw [← hW3]; simp [go_sem]
  have q1 : W3.cell? ⟨w.heap.size, 1, none⟩ = some (.string ⟨r.p.toArray⟩) := by rw [← hW3]; simp [go_sem]
  have q2 : W3.cell? ⟨w.heap.size, 2, none⟩ = some (.string ⟨r.q.toArray⟩) := by rw [← hW3]; simp [go_sem]
  have q3 : W3.cell? ⟨w.heap.size, 3, none⟩ = some (.int .i64 r.v) := by rw [← hW3]; simp [go_sem]
  have q4 : W3.cell? ⟨w.heap.size, 4, none⟩ = some (.slice q r.fs.length cap2) := by rw [← hW3]; simp [go_sem]
  have q5 : W3.cell? ⟨w.heap.size, 5, none⟩ = some (.string ⟨r.b.toArray⟩) := by rw [← hW3]; simp [go_sem]
  have q6 : W3.cell? ⟨w.heap.size, 6, none⟩ = some (.bool r.c) := by rw [← hW3]; simp [go_sem]
  have x0 : W3.cell? ⟨w.heap.size + 1, 0, none⟩ = some (.int .i64 code) := by rw [← hW3]; simp [go_sem]
  have x1 : W3.cell? ⟨w.heap.size + 1, 1, none⟩ = some (.slice u fs.length cap3) := by rw [← hW3]; simp [go_sem]
  have x2 : W3.cell? ⟨w.heap.size + 1, 2, none⟩ = some (.string ⟨bd.toArray⟩) := by rw [← hW3]; simp [go_sem]
  have y0 : W3.cell? ⟨w.heap.size + 2, 0, none⟩ = some (.int .i64 0) := by rw [← hW3]; simp [go_sem]
  have y1 : W3.cell? ⟨w.heap.size + 2, 1, none⟩ = some (.slice none 0 0) := by rw [← hW3]; simp [go_sem]
  have y2 : W3.cell? ⟨w.heap.size + 2, 2, none⟩ = some (.string ⟨#[]⟩) := by rw [← hW3]; simp [go_sem]
  have fx : ∀ o, W3.frozen? ⟨w.heap.size + 1, o, none⟩ = false := fun o => by rw [← hW3]; simp [go_sem]
  have fy : ∀ o, W3.frozen? ⟨w.heap.size + 2, o, none⟩ = false := fun o => by rw [← hW3]; simp [go_sem]
  have hown0 : (W3.alloc (.cells #[] 53)).ownsRow (w.heap.size + 3) 53 2 (.slice (some ⟨w.heap.size + 1 + 1 + 1, 0, none⟩) 0 0) 0 [] := by
    have := World.ownsRow_made (base := w.heap.size + 3) (e := 53) (size := 2) W3 #[] 0 (by omega) (Nat.zero_le _) (by simp)
    rwa [hz3] at this
  go_wp2_with (at_builtin; refine wpList_append_fs rfl _ _ rfl (w.heap.size + 3) _ 0 [] rfl hown0 u cap3 fs rfl ?qc ?qd ?qe ?_)
  case qc => exact ht'.out.gr (hg3.alloc1 _)
  case qd => omega
  intro v1 w1 hown1 hgrow1
  have hgro := Ch.of_grown hgrow1
  have kk : ∀ {k o x}, k < w.heap.size + 3 → W3.cell? ⟨k, o, none⟩ = some x → w1.cell? ⟨k, o, none⟩ = some x := fun {k o x} hk h =>
    (hgro.cell (p := ⟨k, o, none⟩) (by simp; omega) (fun e => by simp [Value.ownBlock] at e; omega)).trans ((Gr.alloc W3 _).cell h)
  have kf : ∀ {k o}, k < w.heap.size + 3 → W3.frozen? ⟨k, o, none⟩ = false → w1.frozen? ⟨k, o, none⟩ = false := fun {k o} hk h =>
    (hgro.frozen (p := ⟨k, o, none⟩) (by simp; omega) (fun e => by simp [Value.ownBlock] at e; omega)).trans ((Below.frozen (Gr.alloc W3 _) (show (⟨k, o, none⟩ : Addr).block < W3.heap.size by show k < _; omega)).trans h)
  replace q0 := kk (by omega) q0
  replace q1 := kk (by omega) q1
  replace q2 := kk (by omega) q2
  replace q3 := kk (by omega) q3
  replace q4 := kk (by omega) q4
  replace q5 := kk (by omega) q5
  replace q6 := kk (by omega) q6
  replace x0 := kk (by omega) x0
  replace x1 := kk (by omega) x1
  replace x2 := kk (by omega) x2
  replace y0 := kk (by omega) y0
  replace y1 := kk (by omega) y1
  replace y2 := kk (by omega) y2
  replace fx := fun o => kf (by omega) (fx o)
  replace fy := fun o => kf (by omega) (fy o)
  have hg1 : Gr w w1 := (hg3.alloc1 _).ch hgro (fun k e => by simp [Value.ownBlock] at e; omega)
  have hzw : w.heap.size + 3 < w1.heap.size := by have := hgro.size; simp at this; omega
  have hown1' := Lib.hid (show OwnF (w.heap.size + 3) w1 v1 fs by unfold OwnF; simpa using hown1)
  have hg1' := Lib.hid hg1
  have hzw' := Lib.hid hzw
  have hkeep := Lib.hid (And.intro (And.intro x0 (And.intro x1 x2)) (And.intro (And.intro y0 (And.intro y1 y2)) (And.intro fx fy)))
  have hq4 := Lib.hid q4
  obtain ⟨p1, c1, rfl⟩ := hown1'.out.slice
  clear hown1 hgrow1 hgro kk kf hW3 hg3 hz3 hown0 hg1 hzw q0 q1 q2 q3 q4 q5 q6 x0 x1 x2 y0 y1 y2 fx fy
  go_wp2
  go_loopw [9, 10] (fun o i wr => ∃ m : Int, i = .int .i64 m ∧ BackRel (w.heap.size + 3) w1 n ss fs r.fs m o wr) (fun _ i _ => (intOf i + 1).toNat)
  case atStart =>
    refine ⟨(n : Int) - 1, rfl, by omega, by omega, ?_, Below.refl _ _⟩
    rw [show ((n : Int) - 1 + 1).toNat = n by omega, List.drop_of_length_le (by rw [List.length_take]; omega), backB_nil, List.append_nil]; exact hown1'.out
  case round =>
    obtain ⟨m, rfl, hm1, hm2, hown, hbel⟩ := hrel
    by_cases hm0 : 0 ≤ m
    · obtain ⟨k, rfl⟩ : ∃ k : Nat, m = k := ⟨m.toNat, by omega⟩
      have hkn : k < n := by omega
      have hks : k < ss.length := by omega
      rw [show ((k : Int) + 1).toNat = k + 1 by omega] at hown
      obtain ⟨bb, off, rfl, c0, c1', c2, c3⟩ := hc'.out k hks
      have cb := cell_lt c0
      have hg := hg1'.out
      have hwr : ∀ {b o v}, w.cell? ⟨b, o, none⟩ = some v → wr.cell? ⟨b, o, none⟩ = some v := fun {b o v} h =>
        (Below.cell hbel (p := ⟨b, o, none⟩) (show b < w.heap.size + 3 from Nat.lt_of_lt_of_le (cell_lt h) (Nat.le_add_right _ _))).trans (hg.cell h)
      replace c0 := hwr c0
      replace c1' := hwr c1'
      replace c2 := hwr c2
      have q4 : wr.cell? ⟨w.heap.size, 4, none⟩ = some (.slice q r.fs.length cap2) := (Below.cell hbel (p := ⟨w.heap.size, 4, none⟩) (by simp)).trans hq4.out
      have hw0 : Gr w wr := ⟨hbel.os.trans hg.os, hbel.tape.trans hg.tape, hbel.output.trans hg.output, Nat.le_trans hg.size hbel.size, fun i hi => (hbel.block i (by omega)).trans (hg.block i hi)⟩
      have hfwr := Lib.hid (hf'.out.gr hw0)
      obtain ⟨s, hs⟩ : ∃ s, ss[k] = s := ⟨_, rfl⟩
      have hmem : s ∈ ss := hs ▸ List.getElem_mem hks
      have hkind := hkinds'.out s hmem
      have hsl := hsn'.out s hmem
      rw [hs] at c0 c1' c2
      have hnext := Lib.hid (back_next fs r.fs hkn hn'.out)
      rw [hs] at hnext
      have hlen := hnl'.out (k + 1) (by omega)
      obtain ⟨L, hL⟩ : ∃ L, fs ++ backB ((ss.take n).drop (k + 1)) r.fs = L := ⟨_, rfl⟩
      have hLl : L.length ≤ 2000 := by rw [← hL, List.length_append]; omega
      rw [hL] at hown hnext
      have hrel2 := Lib.hid (show ∀ (o : Value) (W : World), OwnF (w.heap.size + 3) W o (L ++ adds s r.fs) → Below (w.heap.size + 3) wr W → BackRel (w.heap.size + 3) w1 n ss fs r.fs ((k : Int) - 1) o W from fun o W h1 h2 => by
        refine ⟨by omega, by omega, ?_, hbel.trans h2⟩
        rw [show ((k : Int) - 1 + 1).toNat = k by omega, hnext.out]; exact h1)
      obtain ⟨pL, cL, rfl⟩ := hown.slice
      have hown' := Lib.hid hown
      have hzr := Lib.hid (show w.heap.size + 3 < wr.heap.size from Nat.lt_of_lt_of_le hzw'.out hbel.size)
      clear hown hbel hwr hnext hL hlen hg hw0 hm1 hm2 hmem
      have hkI : (k : Int) < n := by omega
      have hkS : (k : Int) < ss.length := by omega
      by_cases h1 : s.kind = 1
      · have hk1 : (s.kind == 1) = true := by rw [h1]; rfl
        have hadd := Lib.hid (show adds s r.fs = [(s.name, s.value)] by unfold adds; rw [if_pos h1])
        clear h1 hkind
        obtain ⟨i0, hi, hz0, hz1, hz2⟩ := info_parts infoField
        have hgo := hown'.out
        unfold OwnF at hgo
        have hgo' := Lib.hid hgo
        have hnb : ∀ b, b < w.heap.size + 3 → (Value.slice pL L.length cL).ownBlock ≠ some b := fun b hb e => by have := (hgo'.out.lt b e).1; omega
        have hnb' := Lib.hid hnb
        have hbw : bb < w.heap.size + 3 := by (try dsimp only at cb); omega
        have hbr : bb < wr.heap.size := cell_lt c0
        have hzr2 : w.heap.size + 3 ≤ wr.heap.size := Nat.le_of_lt hzr.out
        clear hgo hnb q4
        go_wp2
        clear c0
        go_region_held3 (fun w' => w'.cell? ⟨bb, off + k * 4 + 1, none⟩ = some (.string ⟨s.name.toArray⟩) ∧ w'.cell? ⟨bb, off + k * 4 + 2, none⟩ = some (.string ⟨s.value.toArray⟩))
          (first
            | go_keep
            | (go_split_ands
               refine ⟨?_, ?_⟩
               · (rw [hgrow.cell_far _ (by simp; omega) (Ne.symm (hnb'.out bb hbw))]; assumption)
               · (rw [hgrow.cell_far _ (by simp; omega) (Ne.symm (hnb'.out bb hbw))]; assumption)))
          ((refine step_append_lies _ (by rfl) _ _ _ (by rfl) (w.heap.size + 3) 53 i0 _ 2 32 Tryd.underlying23 hi hz0 hz1 hz2 rfl (by decide) (.slice pL L.length cL) L.length (fcells L) (by rfl) ((World.ownsRow.alloc hgo'.out _).drew)
              ⟨wr.heap.size, 0, none⟩ 1 1 [.string ⟨s.name.toArray⟩, .string ⟨s.value.toArray⟩] (by rfl) (by rfl) (World.news_of_block (cs := #[.string ⟨s.name.toArray⟩, .string ⟨s.value.toArray⟩]) (t := 53) (fr := (0, 0)) (heap_alloc_new wr _)) (by simp [Value.oneCell'])
              (by omega) (by unfold maxLen; omega) (by omega) (by simp; omega) (wr.heap.size + 1) (by simp) ?_; intro gg cap9 w3 hown3 hgrow hat hlt))
        have hown4 := Lib.hid (show OwnF (w.heap.size + 3) w3 (.slice (some ⟨gg, 0, none⟩) (L.length + 1) cap9) (L ++ adds s r.fs) by
          rw [hadd.out]; unfold OwnF; rw [fcells_app, List.length_append]; exact hown3)
        have hb4 := Lib.hid (show Below (w.heap.size + 3) wr w3 from below_append hzr.out hgo'.out hgrow)
        clear hown3 hgrow hat hlt
        go_wp2
        go_roundw
        case rel => exact ⟨_, rfl, hrel2.out _ _ hown4.out hb4.out⟩
        case measure => simp [intOf]
      · by_cases h5 : s.kind = 5
        · have hk1 : (s.kind == 1) = false := by rw [h5]; rfl
          have hk5 : (s.kind == 5) = true := by rw [h5]; rfl
          obtain ⟨o, ho⟩ : ∃ o, getO r.fs s.name = o := ⟨_, rfl⟩
          have hadd := Lib.hid (show adds s r.fs = [(s.value, o.getD [45])] by unfold adds; rw [if_neg h1, if_neg (by rw [h5]; decide), ho])
          have hget := Lib.hid (fun (x : Later (Gr wr)) => rget_later (.slice q r.fs.length cap2) r.fs s.name o ho hfwr.out (by omega) (fun f hf => Nat.le_trans (hfn'.out f hf) (by decide)) (Nat.le_trans hsl (by decide)) x)
          clear h1 h5 hkind ho
          haveI : Nonempty (Later (Gr wr)) := ⟨⟨_, Gr.refl _⟩⟩
          have t1 : ∀ x : Later (Gr wr), x.w.cell? ⟨bb, off + k * 4 + 1, none⟩ = some (.string ⟨s.name.toArray⟩) := fun x => x.ok.cell c1'
          have t2 : ∀ x : Later (Gr wr), x.w.cell? ⟨w.heap.size, 4, none⟩ = some (.slice q r.fs.length cap2) := fun x => x.ok.cell q4
          cases o with
          | none =>
            go_wp2
            refine wp_region_later (C := Gr wr) (by kernel_rfl) (by kernel_rfl) (Gr.drew' _) ?_
            repeat (go_big_quiet_step (exact hget.out _))
            refine wpQuiet_nil ?_
            intro w2 hg2
            replace c2 := hg2.cell c2
            have hgo := hown'.out.ch (hg2.to_ch (fun _ => False)) (fun _ h => h.elim)
            unfold OwnF at hgo
            have hz2 : w.heap.size + 3 < w2.heap.size := Nat.lt_of_lt_of_le hzr.out (Below.size hg2)
            have hgo' := Lib.hid hgo
            have hbelow2 := Lib.hid (show Below (w.heap.size + 3) wr w2 from Below.mono hg2 (Nat.le_of_lt hzr.out))
            obtain ⟨i0, hi, hz0, hz1, hzb⟩ := info_parts infoField
            have hoA : ∀ O, (w2.alloc O).ownsRow (w.heap.size + 3) 53 2 (.slice pL L.length cL) L.length (fcells L) := fun O => World.ownsRow.alloc hgo O
            clear hgo t1 t2 c0 c1' q4 hg2
            go_wp2_with (at_builtin; refine wpList_append_own _ rfl _ _ 23 rfl (w.heap.size + 3) 53 i0 (.agg #[.string ⟨#[]⟩, .string ⟨#[]⟩]) 2 32 Tryd.underlying23 hi hz0 hz1 hzb rfl (by decide) _ _ _ rfl (hoA _) ⟨w2.heap.size, 0, none⟩ 1 1 [.string ⟨s.value.toArray⟩, .string ⟨#[45]⟩] rfl rfl ?qc2 ?qc3 ?qc4 ?qc5 ?qc6 ?_)
            case qc2 => exact cells_two _ _ _ _
            case qc3 => simp [Value.oneCell']
            case qc4 => unfold maxLen; omega
            case qc5 => omega
            case qc6 => simp; omega
            intro v' w3 hown3 hgrow _
            have hown4 := Lib.hid (show OwnF (w.heap.size + 3) w3 v' (L ++ adds s r.fs) by
              rw [hadd.out]; unfold OwnF; rw [fcells_app, List.length_append]; exact hown3)
            have hb4 := Lib.hid (show Below (w.heap.size + 3) wr w3 from hbelow2.out.trans (below_append' hz2 hgo'.out hgrow))
            obtain ⟨p9, c9, rfl⟩ := hown4.out.slice
            clear hown3 hgrow hoA hi hz0 hz1 hzb
            go_wp2
            go_roundw
            case rel => exact ⟨_, rfl, hrel2.out _ _ hown4.out hb4.out⟩
            case measure => simp [intOf]
          | some v =>
            go_wp2
            refine wp_region_later (C := Gr wr) (by kernel_rfl) (by kernel_rfl) (Gr.drew' _) ?_
            repeat (go_big_quiet_step (exact hget.out _))
            refine wpQuiet_nil ?_
            intro w2 hg2
            replace c2 := hg2.cell c2
            have hgo := hown'.out.ch (hg2.to_ch (fun _ => False)) (fun _ h => h.elim)
            unfold OwnF at hgo
            have hz2 : w.heap.size + 3 < w2.heap.size := Nat.lt_of_lt_of_le hzr.out (Below.size hg2)
            have hgo' := Lib.hid hgo
            have hbelow2 := Lib.hid (show Below (w.heap.size + 3) wr w2 from Below.mono hg2 (Nat.le_of_lt hzr.out))
            obtain ⟨i0, hi, hz0, hz1, hzb⟩ := info_parts infoField
            have hoA : ∀ O, (w2.alloc O).ownsRow (w.heap.size + 3) 53 2 (.slice pL L.length cL) L.length (fcells L) := fun O => World.ownsRow.alloc hgo O
            clear hgo t1 t2 c0 c1' q4 hg2
            go_wp2_with (at_builtin; refine wpList_append_own _ rfl _ _ 23 rfl (w.heap.size + 3) 53 i0 (.agg #[.string ⟨#[]⟩, .string ⟨#[]⟩]) 2 32 Tryd.underlying23 hi hz0 hz1 hzb rfl (by decide) _ _ _ rfl (hoA _) ⟨w2.heap.size, 0, none⟩ 1 1 [.string ⟨s.value.toArray⟩, .string ⟨v.toArray⟩] rfl rfl ?qc2 ?qc3 ?qc4 ?qc5 ?qc6 ?_)
            case qc2 => exact cells_two _ _ _ _
            case qc3 => simp [Value.oneCell']
            case qc4 => unfold maxLen; omega
            case qc5 => omega
            case qc6 => simp; omega
            intro v' w3 hown3 hgrow _
            have hown4 := Lib.hid (show OwnF (w.heap.size + 3) w3 v' (L ++ adds s r.fs) by
              rw [hadd.out]; unfold OwnF; rw [fcells_app, List.length_append]; exact hown3)
            have hb4 := Lib.hid (show Below (w.heap.size + 3) wr w3 from hbelow2.out.trans (below_append' hz2 hgo'.out hgrow))
            obtain ⟨p9, c9, rfl⟩ := hown4.out.slice
            clear hown3 hgrow hoA hi hz0 hz1 hzb
            go_wp2
            go_roundw
            case rel => exact ⟨_, rfl, hrel2.out _ _ hown4.out hb4.out⟩
            case measure => simp [intOf]
        · have hk1 : (s.kind == 1) = false := beq_eq_false_iff_ne.2 h1
          have hk5 : (s.kind == 5) = false := beq_eq_false_iff_ne.2 h5
          have hadd : adds s r.fs = [] := by
            unfold adds
            rw [if_neg h1, if_pos]
            rcases hkind with h | h | h | h | h
            · exact absurd h h1
            · exact .inl h
            · exact .inr (.inl h)
            · exact .inr (.inr h)
            · exact absurd h h5
          have hr3 := Lib.hid (hrel2.out _ _ (by rw [hadd, List.append_nil]; exact hown'.out) (Below.refl _ _))
          clear hadd h1 h5 hkind c1' c2 q4
          go_wp2
          go_roundw
          case rel => exact ⟨_, rfl, hr3.out⟩
          case measure => simp [intOf]
    · obtain rfl : m = -1 := by omega
      rw [show ((-1 : Int) + 1).toNat = 0 from rfl, List.drop_zero] at hown
      obtain ⟨L, hL⟩ : ∃ L, fs ++ backB (ss.take n) r.fs = L := ⟨_, rfl⟩
      rw [hL] at hown
      obtain ⟨pL, cL, rfl⟩ := hown.slice
      obtain ⟨⟨x0, x1, x2⟩, ⟨y0, y1, y2⟩, fx, fy⟩ := hkeep.out
      have ew : ∀ {k o x}, k < w.heap.size + 3 → w1.cell? ⟨k, o, none⟩ = some x → wr.cell? ⟨k, o, none⟩ = some x := fun {k o x} hk h => (Below.cell hbel (p := ⟨k, o, none⟩) hk).trans h
      have ef : ∀ {k o}, k < w.heap.size + 3 → w1.frozen? ⟨k, o, none⟩ = false → wr.frozen? ⟨k, o, none⟩ = false := fun {k o} hk h => (Below.frozen hbel (p := ⟨k, o, none⟩) hk).trans h
      replace x0 := ew (by omega) x0
      replace x1 := ew (by omega) x1
      replace x2 := ew (by omega) x2
      replace y0 := ew (by omega) y0
      replace y1 := ew (by omega) y1
      replace y2 := ew (by omega) y2
      replace fx := fun o => ef (by omega) (fx o)
      replace fy := fun o => ef (by omega) (fy o)
      have hown' := Lib.hid hown
      have hL' := Lib.hid hL
      have hg := hg1'.out
      have hw0 := Lib.hid (show Gr w wr from ⟨hbel.os.trans hg.os, hbel.tape.trans hg.tape, hbel.output.trans hg.output, Nat.le_trans hg.size hbel.size, fun i hi => (hbel.block i (by omega)).trans (hg.block i hi)⟩)
      clear hown hbel hg ew ef hL hm0 hm1 hm2
      go_wp2
      refine bodyPost_ret (v := Rp.V (Rp.more ⟨code, fs, bd⟩ (backB (ss.take n) r.fs)) (.slice pL L.length cL)) ?_ rfl ⟨_, rfl, ?_, ?_⟩
      · simp [results, Tryd.results18, go_sem, x0, x1, x2, y0, y1, y2, fx, fy, Rp.V, Rp.more]
      · show OwnF _ _ _ (fs ++ backB (ss.take n) r.fs)
        rw [hL'.out]
        refine World.ownsRow.mono (base := w.heap.size + 3) ?_ (by omega)
        exact (hown'.out.ch (T := fun k => k = w.heap.size + 1 ∨ k = w.heap.size + 2) ((((Ch.setCell _ (.inl rfl) _).trans (Ch.setCell _ (.inr rfl) _)).trans (Ch.setCell _ (.inr rfl) _)).trans (Ch.setCell _ (.inr rfl) _)) (fun k hk => by (try dsimp only at hk); omega))
      · exact (((hw0.out.setCell (by simp) _).setCell (by simp; omega) _).setCell (by simp; omega) _).setCell (by simp; omega) _
end Go.Proofs.YtolpphmgobeocaaDoor
