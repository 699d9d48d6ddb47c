/-
  Replies by the document: the bytes of one.
-/
import Derived.Test.YtfcokldbpjkjpaaGreatDoorVd
import Derived.Test.YtfcokldbpjkjpaaGreatDoorVe
import Derived.Test.YtfcokldbpjkjpaaGreatDoorOw
import Derived.Deep.RegionHeld3
namespace Go.Proofs.YtfcokldbpjkjpaaGreatDoor
open Go.RowKit
attribute [local go_sem] Oper.semAt_some

def sV (x : List UInt8) : Value := .string ⟨x.toArray⟩
theorem infoS : (Tryz.prog.info? 9).map (fun i => (i.zero, i.size, i.bytes)) = some (some (.string ⟨#[]⟩), 1, 16) := by kernel_rfl
theorem OwnV.lit1 {t : TypeId} {B : Nat} (W : World) (u : Value) (hB : B ≤ W.heap.size) : OwnV t B (W.alloc (.cells #[u] t)) (.slice (some ⟨W.heap.size, 0, none⟩) 1 1) [u] :=
  .inr ⟨W.heap.size, 1, #[u], (0, 0), rfl, hB, World.alloc_heap_new _ _, .inr rfl, Nat.le_refl _, by decide, rfl, rfl⟩
theorem number_later {w : World} (n : Nat) (hn : n ≤ 1000000) (s : List UInt8) (hs : Lib.itoa (n : Int) = s) (x : Later (Gr w)) :
    Calls Tryz.prog 27 #[.int .i64 n] x.w fun e w'' => e = .returned (.string ⟨s.toArray⟩) ∧ ∃ y : Later (Gr w), w'' = y.w :=
  Calls.later ((number_any n n x.w (Nat.le_refl _) hn).mono fun _ _ ⟨he, hw⟩ => ⟨hs ▸ he, x.ok.trans hw⟩)
theorem rreason_later {w : World} (c : Int) (s : List UInt8) (hs : reasonL c = s) (x : Later (Gr w)) :
    Calls Tryz.prog 17 #[.int .i64 c] x.w fun e w'' => e = .returned (.string ⟨s.toArray⟩) ∧ ∃ y : Later (Gr w), w'' = y.w :=
  Calls.later ((rreason_any c x.w).mono fun _ _ ⟨he, hw⟩ => ⟨hs ▸ he, x.ok.trans hw⟩)
def fl0 (f : List UInt8 × List UInt8) : List UInt8 := f.1 ++ [58, 32] ++ f.2
theorem rightR_code {r : Rp} (h : rightR r = true) : 100 ≤ r.code ∧ r.code ≤ 599 ∧ r.b.length ≤ 65536 := by
  unfold rightR at h
  simp only [Bool.and_eq_true, decide_eq_true_eq] at h
  exact ⟨h.1, h.2.1, h.2.2.2.1⟩
theorem fm_len : ∀ (l : List (List UInt8)), (∀ x ∈ l, x.length ≤ 2000100) → (l.flatMap (· ++ eolL)).length ≤ l.length * 2000102
  | [], _ => by simp
  | a :: t, h => by
    have h1 := h a (by simp)
    have h2 := fm_len t (fun x hx => h x (by simp [hx]))
    rw [List.flatMap_cons, List.length_append, List.length_append, List.length_cons]
    have : eolL.length = 2 := rfl
    omega
theorem fm_take (l : List (List UInt8)) (k : Nat) (h : k < l.length) : (l.take (k + 1)).flatMap (· ++ eolL) = (l.take k).flatMap (· ++ eolL) ++ l[k] ++ eolL := by
  rw [List.take_succ_eq_append_getElem h, List.flatMap_append]; simp
set_option maxHeartbeats 8000000 in
set_option maxRecDepth 20000 in
theorem rbytes_any (r : Rp) (t : Value) (head close : Bool) (w : World) (hf : FieldsAt w t r.fs) (hlf : r.fs.length ≤ 100000) (hs : ∀ f ∈ r.fs, f.1.length ≤ 1000000 ∧ f.2.length ≤ 1000000) (hlb : r.b.length ≤ 1000000) :
    Calls Tryz.prog 13 #[r.V t, .bool head, .bool close] w fun e w' => e = .returned (byteV (bytesR r head close)) ∧ Gr w w' := by
  have hs' := Lib.hid hs
  have hri := Lib.hid (fun W (hg : Gr w W) => rright_any r t W (hf.gr hg) (by omega) hs (by omega))
  obtain ⟨p, cap, rfl, hc⟩ := hf
  have hc' := Lib.hid hc
  have hrc := Lib.hid (@rightR_code r)
  obtain ⟨R, hR⟩ : ∃ R, rightR r = R := ⟨_, rfl⟩
  rw [hR] at hri hrc
  have hby : bytesR r head close = if (!R || (close && r.code == 101)) = true then none else some (headR r close ++ if head then [] else r.b) := by unfold bytesR; rw [hR]
  have hways := bytes_ways R close r.code
  obtain ⟨O, hO⟩ : ∃ O, bytesR r head close = O := ⟨_, rfl⟩
  rw [hO] at hby ⊢
  have hhd : headR r close = (linesR r close).flatMap (· ++ eolL) ++ eolL := rfl
  obtain ⟨T, hT⟩ : ∃ T, headR r close = T := ⟨_, rfl⟩
  rw [hT] at hby hhd
  have hhd' := Lib.hid hhd
  clear hc hs hR hO hT hhd
  obtain ⟨c, fs, b⟩ := r
  unfold Rp.V at hri ⊢
  dsimp only at hc' hs' hways hlf hlb hby hri hhd' hrc ⊢
  have g0 := Lib.hid (Gr.alloc w (.cells #[.int .i64 c, .slice p fs.length cap, .string ⟨b.toArray⟩] 24))
  have n0 : (w.alloc (.cells #[.int .i64 c, .slice p fs.length cap, .string ⟨b.toArray⟩] 24)).cell? ⟨w.heap.size, 0, none⟩ = some (.int .i64 c) := by simp [go_sem]
  have n1 : (w.alloc (.cells #[.int .i64 c, .slice p fs.length cap, .string ⟨b.toArray⟩] 24)).cell? ⟨w.heap.size, 1, none⟩ = some (.slice p fs.length cap) := by simp [go_sem]
  have n2 : (w.alloc (.cells #[.int .i64 c, .slice p fs.length cap, .string ⟨b.toArray⟩] 24)).cell? ⟨w.heap.size, 2, none⟩ = some (.string ⟨b.toArray⟩) := by simp [go_sem]
  go_enter Tryz.func13, Tryz.ntmps13
  go_wp2_with fail
  refine (hri.out _ g0.out).mono ?_
  rintro e w1 ⟨rfl, hb1⟩
  replace n0 := hb1.cell n0
  replace n1 := hb1.cell n1
  replace n2 := hb1.cell n2
  have g1 := Lib.hid (g0.out.trans hb1)
  clear hb1
  rcases hways with ⟨rfl, hw⟩ | ⟨rfl, rfl, hw1, hw⟩ | ⟨rfl, rfl, hw1, hw⟩ | ⟨rfl, rfl, hw1, hw⟩
  · have hfin := Lib.hid (show O = none by rw [hby, if_pos hw])
    go_wp2
    go_ret2
    exact ⟨by rw [hfin.out]; rfl, g1.out⟩
  · have hfin := Lib.hid (show O = none by rw [hby, if_pos hw])
    go_wp2
    go_ret2
    exact ⟨by rw [hfin.out]; rfl, g1.out⟩
  · have hfin := Lib.hid (show O = some (T ++ if head then [] else b) by rw [hby, if_neg (by rw [hw]; decide)])
    obtain ⟨cl1, cl2, cl3⟩ := hrc.out rfl
    obtain ⟨cn, rfl⟩ : ∃ n : Nat, c = n := ⟨c.toNat, by omega⟩
    go_upto_region 3 with (fail)
    clear hw hby hw1
    obtain ⟨it, hit⟩ : ∃ x, Lib.itoa (cn : Int) = x := ⟨_, rfl⟩
    obtain ⟨rs, hrs⟩ : ∃ x, reasonL (cn : Int) = x := ⟨_, rfl⟩
    have hitl : it.length ≤ 21 := by rw [← hit]; exact Lib.itoa_length_le _ (by omega) (by omega)
    have hrsl : rs.length ≤ 31 := by rw [← hrs]; exact reason_len _
    have k1 : (⟨#[72, 84, 84, 80, 47, 49, 46, 49, 32]⟩ : ByteArray) ++ ⟨it.toArray⟩ = ⟨(aheadL ++ it).toArray⟩ := cat_mk aheadL it
    have z1 : ¬ 9223372036854775807 < 9 + it.length := by omega
    obtain ⟨s1, hs1⟩ : ∃ x, aheadL ++ it = x := ⟨_, rfl⟩
    have hs1l : s1.length ≤ 30 := by rw [← hs1, List.length_append]; show 9 + _ ≤ _; omega
    rw [hs1] at k1
    have k2 : (⟨s1.toArray⟩ : ByteArray) ++ ⟨#[32]⟩ = ⟨(s1 ++ [32]).toArray⟩ := cat_mk s1 [32]
    have z2 : ¬ 9223372036854775807 < s1.length + 1 := by omega
    obtain ⟨s2, hs2⟩ : ∃ x, s1 ++ [32] = x := ⟨_, rfl⟩
    have hs2l : s2.length ≤ 31 := by rw [← hs2, List.length_append]; show _ + 1 ≤ _; omega
    rw [hs2] at k2
    have k3 : (⟨s2.toArray⟩ : ByteArray) ++ ⟨rs.toArray⟩ = ⟨(s2 ++ rs).toArray⟩ := cat_mk s2 rs
    have z3 : ¬ 9223372036854775807 < s2.length + rs.length := by omega
    obtain ⟨s3, hs3⟩ : ∃ x, s2 ++ rs = x := ⟨_, rfl⟩
    have hs3l : s3.length ≤ 62 := by rw [← hs3, List.length_append]; omega
    rw [hs3] at k3
    have hl1 := Lib.hid (show aheadL ++ Lib.itoa (cn : Int) ++ [32] ++ reasonL (cn : Int) = s3 by rw [hit, hrs, hs1, hs2, hs3])
    have hit' := Lib.hid hit
    have hrs' := Lib.hid hrs
    have hcn := Lib.hid (show cn ≤ 1000000 by omega)
    clear hit hrs hs1 hs2 hs3
    have t0 : ∀ y : Later (Gr w1), y.w.cell? ⟨w.heap.size, 0, none⟩ = some (.int .i64 cn) := fun y => y.ok.cell n0
    haveI : Nonempty (Later (Gr w1)) := ⟨⟨w1, Gr.refl w1⟩⟩
    refine wp_region_later_tail (C := Gr w1) 9 (by kernel_rfl) (by kernel_rfl) (Gr.drew' _) ?_
    simp only [List.take_succ_cons, List.take_zero, List.drop_succ_cons, List.drop_zero]
    repeat (go_big_quiet_step (first | with_reducible exact number_later _ hcn.out _ hit'.out _ | with_reducible exact rreason_later _ _ hrs'.out _))
    refine wpQuiet_nil ?_
    intro w9 hg9
    replace n0 := hg9.cell n0
    replace n1 := hg9.cell n1
    replace n2 := hg9.cell n2
    have g9 := Lib.hid (g1.out.trans hg9)
    have hlw : w.heap.size < w9.heap.size := cell_lt n0
    clear hg9 t0 k1 k2 k3 z1 z2 z3
    go_wp2
    have ho0 := Lib.hid (OwnV.lit1 (t := 9) (B := w9.heap.size) w9 (.string ⟨s3.toArray⟩) (Nat.le_refl _))
    have gl := Gr.alloc w9 (.cells #[.string ⟨s3.toArray⟩] 9)
    generalize (w9.alloc (.cells #[.string ⟨s3.toArray⟩] 9)) = w10 at ho0 gl ⊢
    obtain ⟨bb, hbb⟩ : ∃ x, w9.heap.size = x := ⟨_, rfl⟩
    rw [hbb] at ho0 hlw ⊢
    have hbz := Lib.hid (show bb ≤ w10.heap.size from hbb ▸ gl.size)
    replace n0 := gl.cell n0
    replace n1 := gl.cell n1
    replace n2 := gl.cell n2
    have g10 := Lib.hid (g9.out.trans gl)
    clear gl hbb
    go_loopw [8, 9] (fun v i W => ∃ k : Nat, k ≤ fs.length ∧ i = .int .i64 k ∧ (∃ p cap, v = .slice p (k + 1) cap) ∧ OwnV 9 bb W v (([s3] ++ (fs.take k).map fl0).map sV) ∧ Below bb w10 W) (fun _ i _ => fs.length - (intOf i).toNat)
    case atStart => exact ⟨0, Nat.zero_le _, rfl, ⟨_, _, rfl⟩, ho0.out, Below.refl _ _⟩
    case round =>
      obtain ⟨k, hk, rfl, ⟨p3, cap3, rfl⟩, ho, hg⟩ := hrel
      have ho' := Lib.hid ho
      have hg' := Lib.hid hg
      have hbz4 := Lib.hid (Nat.le_trans hbz.out hg.size)
      replace n0 := (Below.cell hg (p := ⟨w.heap.size, 0, none⟩) hlw).trans n0
      replace n1 := (Below.cell hg (p := ⟨w.heap.size, 1, none⟩) hlw).trans n1
      replace n2 := (Below.cell hg (p := ⟨w.heap.size, 2, none⟩) hlw).trans n2
      have gw := Lib.hid (show Gr w wr from Below.trans g10.out (Below.mono hg (Nat.le_of_lt hlw)))
      clear ho hg
      by_cases hlt : k < fs.length
      · obtain ⟨bf, off, rfl, d1, d2⟩ := hc'.out k hlt
        have hbf : bf < bb := Nat.lt_trans (show bf < w.heap.size from cell_lt d1) hlw
        replace d1 := gw.out.cell d1
        replace d2 := gw.out.cell d2
        have hxs := hs'.out _ (List.getElem_mem hlt)
        obtain ⟨⟨xn, xv⟩, hx⟩ : ∃ x, fs[k] = x := ⟨_, rfl⟩
        rw [hx] at d1 d2 hxs
        dsimp only at d1 d2 hxs
        have hkI : (k : Int) < fs.length := by omega
        have k1 : (⟨xn.toArray⟩ : ByteArray) ++ ⟨#[58, 32]⟩ = ⟨(xn ++ [58, 32]).toArray⟩ := cat_mk xn [58, 32]
        have z1 : ¬ 9223372036854775807 < xn.length + 2 := by omega
        obtain ⟨c1, hc1⟩ : ∃ x, xn ++ [58, 32] = x := ⟨_, rfl⟩
        have hc1l : c1.length ≤ 1000002 := by rw [← hc1, List.length_append]; show _ + 2 ≤ _; omega
        rw [hc1] at k1
        have k2 : (⟨c1.toArray⟩ : ByteArray) ++ ⟨xv.toArray⟩ = ⟨(c1 ++ xv).toArray⟩ := cat_mk c1 xv
        have z2 : ¬ 9223372036854775807 < c1.length + xv.length := by omega
        obtain ⟨c2, hc2⟩ : ∃ x, c1 ++ xv = x := ⟨_, rfl⟩
        rw [hc2] at k2
        have hnx := Lib.hid (show [s3] ++ (fs.take (k + 1)).map fl0 = ([s3] ++ (fs.take k).map fl0) ++ [c2] by
          rw [List.take_succ_eq_append_getElem hlt, List.map_append, hx, ← hc2, ← hc1]; simp [fl0])
        obtain ⟨ls, hls⟩ : ∃ l, [s3] ++ (fs.take k).map fl0 = l := ⟨_, rfl⟩
        have hlsl : ls.length = k + 1 := by rw [← hls]; simp; omega
        rw [hls] at ho' hnx
        obtain ⟨N, hN⟩ : ∃ N, k + 1 = N := ⟨_, rfl⟩
        rw [hN] at ho' hlsl ⊢
        have hNl : (ls.map sV).length + 1 = N + 1 := by rw [List.length_map, hlsl]
        have hNb : N + 1 ≤ 1000000 := by omega
        have hN' := Lib.hid hN
        clear hc1 hc2 hx hxs hls hlsl hN
        go_upto_region 7 with (fail)
        go_region_held3 (fun w' => w'.cell? ⟨w.heap.size, 1, none⟩ = some (.slice (some ⟨bf, off, none⟩) fs.length cap) ∧ w'.cell? ⟨bf, off + k * 2, none⟩ = some (.string ⟨xn.toArray⟩) ∧ w'.cell? ⟨bf, off + k * 2 + 1, none⟩ = some (.string ⟨xv.toArray⟩)) (go_keep) (first | (refine step_app1 (by rfl) (.tmp 40) (.tmp 55) 60 9 (.string ⟨#[]⟩) (.string ⟨c2.toArray⟩) 16 Tryz.underlying60 infoS rfl (by rfl) bb (.slice p3 N cap3) (ls.map sV) (by rfl) (OwnV.drew (OwnV.alloc ho'.out _)) wr.heap.size (by rfl) (cell_one _ _ _) rfl (N + 1) hNl hNb (by decide) (Nat.le_trans hbz4.out (by simp)) ?_; intro p6 cap6 w6 hown6 hb5 _; have hb6 := Below.trans (Below.drew ((Below.refl _ wr).alloc hbz4.out _)) hb5; have r0 := (Below.cell hb6 (p := ⟨w.heap.size, 1, none⟩) hlw).trans n1; have r1 := (Below.cell hb6 (p := ⟨bf, off + k * 2, none⟩) hbf).trans d1; have r2 := (Below.cell hb6 (p := ⟨bf, off + k * 2 + 1, none⟩) hbf).trans d2))
        have hown7 := Lib.hid (show OwnV 9 bb w6 (.slice p6 (N + 1) cap6) (([s3] ++ (fs.take (k + 1)).map fl0).map sV) from by
          rw [hnx.out, List.map_append]; exact hown6)
        have hg7 := Lib.hid (Below.trans hg'.out hb6)
        clear hown6 hb6 hb5 r0 r1 r2 d1 d2 k1 k2 z1 z2
        go_wp2
        go_roundw
        case rel => exact ⟨k + 1, by omega, by go_num, ⟨p6, cap6, by rw [hN'.out]⟩, hown7.out, hg7.out⟩
        case measure => simp [intOf]; omega
      · obtain rfl : k = fs.length := by omega
        rw [List.take_length] at ho'
        have howr := Lib.hid ho'.out
        have hzwr := Lib.hid hbz4.out
        have hGwr := Lib.hid hg'.out
        have hltN0 : ¬ (fs.length : Int) < fs.length := by omega
        have hm0 := Lib.hid (show ∀ x ∈ [s3] ++ fs.map fl0, x.length ≤ 2000100 from fun x hx => by
          rcases List.mem_append.1 hx with h | h
          · simp only [List.mem_singleton] at h; rw [h]; omega
          · obtain ⟨f, hf, rfl⟩ := List.mem_map.1 h
            have := hs'.out f hf
            unfold fl0
            simp only [List.length_append, List.length_cons, List.length_nil]; omega)
        obtain ⟨l0, hl0⟩ : ∃ l, [s3] ++ fs.map fl0 = l := ⟨_, rfl⟩
        have hl0l : l0.length = fs.length + 1 := by rw [← hl0]; simp
        rw [hl0] at howr hm0
        have hT0 := Lib.hid (show T = (l0 ++ (if bareB (cn : Int) then [] else [kLen ++ [58, 32] ++ Lib.itoa (b.length : Int)]) ++ [[67, 111, 110, 110, 101, 99, 116, 105, 111, 110, 58, 32, 99, 108, 111, 115, 101]]).flatMap (· ++ eolL) ++ eolL by
          rw [hhd'.out]; unfold linesR; dsimp only; rw [hl1.out, ← hl0]; rfl)
        obtain ⟨N0, hN0⟩ : ∃ n, fs.length + 1 = n := ⟨_, rfl⟩
        rw [hN0] at hl0l howr ⊢
        have hN0b : N0 ≤ 100001 := by omega
        have hN0p : 0 < N0 := by omega
        clear hl0 hN0
        have hzb := rbare10_any (cn : Int)
        cases hbare : bareB (cn : Int)
        · have hbare' := Lib.hid hbare
          rw [hbare] at hzb
          obtain ⟨nt, hnt⟩ : ∃ x, Lib.itoa (b.length : Int) = x := ⟨_, rfl⟩
          have hntl : nt.length ≤ 21 := by rw [← hnt]; exact Lib.itoa_length_le _ (by omega) (by omega)
          have k5 : (⟨#[67, 111, 110, 116, 101, 110, 116, 45, 76, 101, 110, 103, 116, 104, 58, 32]⟩ : ByteArray) ++ ⟨nt.toArray⟩ = ⟨(kLen ++ [58, 32] ++ nt).toArray⟩ := cat_mk (kLen ++ [58, 32]) nt
          have z5 : ¬ 9223372036854775807 < 16 + nt.length := by omega
          obtain ⟨e1, he1⟩ : ∃ x, kLen ++ [58, 32] ++ nt = x := ⟨_, rfl⟩
          have he1l : e1.length ≤ 40 := by rw [← he1]; simp [kLen]; omega
          rw [he1] at k5
          rw [hnt, he1] at hT0
          have hnum := Lib.hid (fun W => number_any b.length b.length W (Nat.le_refl _) hlb)
          rw [hnt] at hnum
          clear hnt he1 hbare
          go_wp2_with (go_at_call 28; refine (hzb _).mono ?_; rintro e w' ⟨rfl, rfl⟩)
          refine (hnum.out _).mono ?_
          rintro e wi ⟨rfl, hgi⟩
          have howi := Lib.hid (howr.out.gr hgi)
          have hzwi := Lib.hid (Nat.le_trans hzwr.out hgi.size)
          have hGwi := Lib.hid (Below.trans hGwr.out (Below.mono hgi hzwr.out))
          replace n2 := hgi.cell n2
          have hNn : (l0.map sV).length + 1 = N0 + 1 := by rw [List.length_map, hl0l]
          clear hgi
          go_upto_region 10 with (at_builtin; (refine wp_app1 (by rfl) _ _ 60 9 _ (.string ⟨#[]⟩) (.string ⟨e1.toArray⟩) 16 Tryz.underlying60 infoS rfl rfl bb _ (l0.map sV) rfl howi.out rfl rfl (N0 + 1) hNn (by omega) (by decide) hzwi.out ?_); intro pwn capwn wn hownwn hbwn)
          have hoown := Lib.hid hownwn
          have hzwn := Lib.hid (Nat.le_trans hzwi.out hbwn.size)
          have hGwn := Lib.hid (Below.trans hGwi.out hbwn)
          replace n2 := (Below.cell hbwn (p := ⟨w.heap.size, 2, none⟩) hlw).trans n2
          clear hownwn hbwn
          have howwn := Lib.hid (show OwnV 9 bb wn (.slice pwn (N0 + 1) capwn) ((l0 ++ [e1]).map sV) from by rw [List.map_append]; exact hoown.out)
          have hNc : ((l0 ++ [e1]).map sV).length + 1 = (N0 + 1) + 1 := by
            rw [List.length_map]
            try simp only [List.length_append, List.length_cons, List.length_nil]
            omega
          go_upto_region 12 with (at_builtin; (refine wp_app1 (by rfl) _ _ 60 9 _ (.string ⟨#[]⟩) (.string ⟨[67, 111, 110, 110, 101, 99, 116, 105, 111, 110, 58, 32, 99, 108, 111, 115, 101].toArray⟩) 16 Tryz.underlying60 infoS rfl rfl bb _ ((l0 ++ [e1]).map sV) rfl howwn.out rfl rfl ((N0 + 1) + 1) hNc (by omega) (by decide) hzwn.out ?_); intro pwc capwc wc hownwc hbwc)
          have hoowc := Lib.hid hownwc
          have hzwc := Lib.hid (Nat.le_trans hzwn.out hbwc.size)
          have hGwc := Lib.hid (Below.trans hGwn.out hbwc)
          replace n2 := (Below.cell hbwc (p := ⟨w.heap.size, 2, none⟩) hlw).trans n2
          clear hownwc hbwc
          obtain ⟨LS, hLS⟩ : ∃ l, (l0 ++ [e1]) ++ [[67, 111, 110, 110, 101, 99, 116, 105, 111, 110, 58, 32, 99, 108, 111, 115, 101]] = l := ⟨_, rfl⟩
          obtain ⟨N2, hN2⟩ : ∃ n, ((N0 + 1) + 1) = n := ⟨_, rfl⟩
          have hLS' := hLS
          have hoL := Lib.hid (show OwnV 9 bb wc _ (LS.map sV) from by
            rw [← hLS]
            have := hoowc.out
            first | exact this | (rw [List.map_append]; exact this))
          rw [hN2] at hoL ⊢
          have hN2b : N2 ≤ 100003 := by omega
          have hmem := Lib.hid (show ∀ x ∈ LS, x.length ≤ 2000100 from by
            rw [← hLS]
            intro x hx
            try simp only [List.mem_append, List.mem_singleton] at hx
            rcases hx with (hx | rfl) | rfl
            · exact hm0.out x hx
            · omega
            · decide)
          have hTT := Lib.hid (show T = LS.flatMap (· ++ eolL) ++ eolL by rw [hT0.out, hbare'.out, ← hLS]; simp)
          have hrow := hoL.out.row (by rw [List.length_map, ← hLS]; (try simp only [List.length_append, List.length_cons, List.length_nil]); omega)
          obtain ⟨gz, capz, hve, hgz1, hgz2, hcl, _⟩ := hrow
          injection hve with hp5 hx1 hx2
          subst hp5
          subst hx2
          clear hx1
          have hcells := Lib.hid hcl
          clear hcl hLS
          have hLl : LS.length = N2 := by
            rw [← hLS']
            try simp only [List.length_append, List.length_cons, List.length_nil]
            omega
          clear hLS'
          go_wp2
          go_loopw [10, 11] (fun v i W => ∃ k : Nat, k ≤ N2 ∧ i = .int .i64 k ∧ v = .string ⟨((LS.take k).flatMap (· ++ eolL)).toArray⟩ ∧ W = wc) (fun _ i _ => N2 - (intOf i).toNat)
          case atStart => exact ⟨0, Nat.zero_le _, rfl, rfl, by first | trivial | rfl⟩
          case round =>
            obtain ⟨k, hk, rfl, rfl, rfl⟩ := hrel
            have hql := fm_len (LS.take k) (fun x hx => hmem.out x (List.mem_of_mem_take hx))
            rw [List.length_take] at hql
            by_cases hlt : k < N2
            · have hltI : (k : Int) < N2 := by omega
              have hkl : k < LS.length := by omega
              have hcell := hcells.out k _ (show (LS.map sV)[k]? = some (sV LS[k]) by simp [hkl])
              have hxl := hmem.out _ (List.getElem_mem hkl)
              have hnx := fm_take LS k hkl
              obtain ⟨x, hx⟩ : ∃ x, LS[k] = x := ⟨_, rfl⟩
              rw [hx] at hcell hxl hnx
              unfold sV at hcell
              obtain ⟨q, hq⟩ : ∃ q, (LS.take k).flatMap (· ++ eolL) = q := ⟨_, rfl⟩
              rw [hq] at hql hnx ⊢
              have hqb : q.length ≤ 1000000000000 := by
                have : min k LS.length ≤ 100010 := by omega
                omega
              have k1 : (⟨q.toArray⟩ : ByteArray) ++ ⟨x.toArray⟩ = ⟨(q ++ x).toArray⟩ := cat_mk q x
              have z1 : ¬ 9223372036854775807 < q.length + x.length := by omega
              obtain ⟨c1, hc1⟩ : ∃ y, q ++ x = y := ⟨_, rfl⟩
              have hc1l : c1.length ≤ 1000002000100 := by rw [← hc1, List.length_append]; omega
              rw [hc1] at k1 hnx
              have k2 : (⟨c1.toArray⟩ : ByteArray) ++ ⟨#[13, 10]⟩ = ⟨(c1 ++ eolL).toArray⟩ := cat_mk c1 eolL
              have z2 : ¬ 9223372036854775807 < c1.length + 2 := by omega
              have hnx' := Lib.hid hnx
              obtain ⟨c2, hc2⟩ : ∃ y, c1 ++ eolL = y := ⟨_, rfl⟩
              rw [hc2] at k2 hnx'
              clear hx hq hc1 hc2 hnx hql
              go_wp2
              go_roundw
              case rel => exact ⟨k + 1, by omega, by go_num, by rw [hnx'.out], by first | trivial | rfl⟩
              case measure => simp [intOf]; omega
            · obtain rfl : k = N2 := by omega
              have hall : LS.take k = LS := List.take_of_length_le (by omega)
              rw [hall] at hql ⊢
              have hltN : ¬ (k : Int) < k := by omega
              obtain ⟨q, hq⟩ : ∃ q, LS.flatMap (· ++ eolL) = q := ⟨_, rfl⟩
              have hTT2 := Lib.hid (show T = q ++ eolL by rw [hTT.out, hq])
              have hqb : q.length ≤ 1000000000000 := by
                rw [hq] at hql
                have : min k LS.length ≤ 100010 := by omega
                omega
              rw [hq]
              have k3 : (⟨q.toArray⟩ : ByteArray) ++ ⟨#[13, 10]⟩ = ⟨(q ++ eolL).toArray⟩ := cat_mk q eolL
              have z3 : ¬ 9223372036854775807 < q.length + 2 := by omega
              rw [← hTT2.out] at k3
              have hTl : T.length ≤ 1000000000002 := by rw [hTT2.out, List.length_append]; show _ + 2 ≤ _; omega
              have hgf := Lib.hid (show Gr w _ from Below.trans g10.out (Below.mono hGwc.out (Nat.le_of_lt hlw)))
              clear hq hql hall
              cases head with
              | true =>
                go_wp2
                go_ret2
                exact ⟨by rw [hfin.out]; simp [byteV], hgf.out⟩
              | false =>
                have k4 : (⟨T.toArray⟩ : ByteArray) ++ ⟨b.toArray⟩ = ⟨(T ++ b).toArray⟩ := cat_mk T b
                have z4 : ¬ 9223372036854775807 < T.length + b.length := by omega
                go_wp2
                go_ret2
                exact ⟨by rw [hfin.out]; simp [byteV], hgf.out⟩
        · have hbare' := Lib.hid hbare
          rw [hbare] at hzb
          clear hbare
          go_upto_region 10 with (go_at_call 28; refine (hzb _).mono ?_; rintro e w' ⟨rfl, rfl⟩)
          have hNc : ((l0).map sV).length + 1 = N0 + 1 := by
            rw [List.length_map]
            try simp only [List.length_append, List.length_cons, List.length_nil]
            omega
          go_upto_region 12 with (at_builtin; (refine wp_app1 (by rfl) _ _ 60 9 _ (.string ⟨#[]⟩) (.string ⟨[67, 111, 110, 110, 101, 99, 116, 105, 111, 110, 58, 32, 99, 108, 111, 115, 101].toArray⟩) 16 Tryz.underlying60 infoS rfl rfl bb _ ((l0).map sV) rfl howr.out rfl rfl (N0 + 1) hNc (by omega) (by decide) hzwr.out ?_); intro pwc capwc wc hownwc hbwc)
          have hoowc := Lib.hid hownwc
          have hzwc := Lib.hid (Nat.le_trans hzwr.out hbwc.size)
          have hGwc := Lib.hid (Below.trans hGwr.out hbwc)
          replace n2 := (Below.cell hbwc (p := ⟨w.heap.size, 2, none⟩) hlw).trans n2
          clear hownwc hbwc
          obtain ⟨LS, hLS⟩ : ∃ l, (l0) ++ [[67, 111, 110, 110, 101, 99, 116, 105, 111, 110, 58, 32, 99, 108, 111, 115, 101]] = l := ⟨_, rfl⟩
          obtain ⟨N2, hN2⟩ : ∃ n, (N0 + 1) = n := ⟨_, rfl⟩
          have hLS' := hLS
          have hoL := Lib.hid (show OwnV 9 bb wc _ (LS.map sV) from by
            rw [← hLS]
            have := hoowc.out
            first | exact this | (rw [List.map_append]; exact this))
          rw [hN2] at hoL ⊢
          have hN2b : N2 ≤ 100003 := by omega
          have hmem := Lib.hid (show ∀ x ∈ LS, x.length ≤ 2000100 from by
            rw [← hLS]
            intro x hx
            try simp only [List.mem_append, List.mem_singleton] at hx
            rcases hx with hx | rfl
            · exact hm0.out x hx
            · decide)
          have hTT := Lib.hid (show T = LS.flatMap (· ++ eolL) ++ eolL by rw [hT0.out, hbare'.out, ← hLS]; simp)
          have hrow := hoL.out.row (by rw [List.length_map, ← hLS]; (try simp only [List.length_append, List.length_cons, List.length_nil]); omega)
          obtain ⟨gz, capz, hve, hgz1, hgz2, hcl, _⟩ := hrow
          injection hve with hp5 hx1 hx2
          subst hp5
          subst hx2
          clear hx1
          have hcells := Lib.hid hcl
          clear hcl hLS
          have hLl : LS.length = N2 := by
            rw [← hLS']
            try simp only [List.length_append, List.length_cons, List.length_nil]
            omega
          clear hLS'
          go_wp2
          go_loopw [10, 11] (fun v i W => ∃ k : Nat, k ≤ N2 ∧ i = .int .i64 k ∧ v = .string ⟨((LS.take k).flatMap (· ++ eolL)).toArray⟩ ∧ W = wc) (fun _ i _ => N2 - (intOf i).toNat)
          case atStart => exact ⟨0, Nat.zero_le _, rfl, rfl, by first | trivial | rfl⟩
          case round =>
            obtain ⟨k, hk, rfl, rfl, rfl⟩ := hrel
            have hql := fm_len (LS.take k) (fun x hx => hmem.out x (List.mem_of_mem_take hx))
            rw [List.length_take] at hql
            by_cases hlt : k < N2
            · have hltI : (k : Int) < N2 := by omega
              have hkl : k < LS.length := by omega
              have hcell := hcells.out k _ (show (LS.map sV)[k]? = some (sV LS[k]) by simp [hkl])
              have hxl := hmem.out _ (List.getElem_mem hkl)
              have hnx := fm_take LS k hkl
              obtain ⟨x, hx⟩ : ∃ x, LS[k] = x := ⟨_, rfl⟩
              rw [hx] at hcell hxl hnx
              unfold sV at hcell
              obtain ⟨q, hq⟩ : ∃ q, (LS.take k).flatMap (· ++ eolL) = q := ⟨_, rfl⟩
              rw [hq] at hql hnx ⊢
              have hqb : q.length ≤ 1000000000000 := by
                have : min k LS.length ≤ 100010 := by omega
                omega
              have k1 : (⟨q.toArray⟩ : ByteArray) ++ ⟨x.toArray⟩ = ⟨(q ++ x).toArray⟩ := cat_mk q x
              have z1 : ¬ 9223372036854775807 < q.length + x.length := by omega
              obtain ⟨c1, hc1⟩ : ∃ y, q ++ x = y := ⟨_, rfl⟩
              have hc1l : c1.length ≤ 1000002000100 := by rw [← hc1, List.length_append]; omega
              rw [hc1] at k1 hnx
              have k2 : (⟨c1.toArray⟩ : ByteArray) ++ ⟨#[13, 10]⟩ = ⟨(c1 ++ eolL).toArray⟩ := cat_mk c1 eolL
              have z2 : ¬ 9223372036854775807 < c1.length + 2 := by omega
              have hnx' := Lib.hid hnx
              obtain ⟨c2, hc2⟩ : ∃ y, c1 ++ eolL = y := ⟨_, rfl⟩
              rw [hc2] at k2 hnx'
              clear hx hq hc1 hc2 hnx hql
              go_wp2
              go_roundw
              case rel => exact ⟨k + 1, by omega, by go_num, by rw [hnx'.out], by first | trivial | rfl⟩
              case measure => simp [intOf]; omega
            · obtain rfl : k = N2 := by omega
              have hall : LS.take k = LS := List.take_of_length_le (by omega)
              rw [hall] at hql ⊢
              have hltN : ¬ (k : Int) < k := by omega
              obtain ⟨q, hq⟩ : ∃ q, LS.flatMap (· ++ eolL) = q := ⟨_, rfl⟩
              have hTT2 := Lib.hid (show T = q ++ eolL by rw [hTT.out, hq])
              have hqb : q.length ≤ 1000000000000 := by
                rw [hq] at hql
                have : min k LS.length ≤ 100010 := by omega
                omega
              rw [hq]
              have k3 : (⟨q.toArray⟩ : ByteArray) ++ ⟨#[13, 10]⟩ = ⟨(q ++ eolL).toArray⟩ := cat_mk q eolL
              have z3 : ¬ 9223372036854775807 < q.length + 2 := by omega
              rw [← hTT2.out] at k3
              have hTl : T.length ≤ 1000000000002 := by rw [hTT2.out, List.length_append]; show _ + 2 ≤ _; omega
              have hgf := Lib.hid (show Gr w _ from Below.trans g10.out (Below.mono hGwc.out (Nat.le_of_lt hlw)))
              clear hq hql hall
              cases head with
              | true =>
                go_wp2
                go_ret2
                exact ⟨by rw [hfin.out]; simp [byteV], hgf.out⟩
              | false =>
                have k4 : (⟨T.toArray⟩ : ByteArray) ++ ⟨b.toArray⟩ = ⟨(T ++ b).toArray⟩ := cat_mk T b
                have z4 : ¬ 9223372036854775807 < T.length + b.length := by omega
                go_wp2
                go_ret2
                exact ⟨by rw [hfin.out]; simp [byteV], hgf.out⟩
  · have hfin := Lib.hid (show O = some (T ++ if head then [] else b) by rw [hby, if_neg (by rw [hw]; decide)])
    obtain ⟨cl1, cl2, cl3⟩ := hrc.out rfl
    obtain ⟨cn, rfl⟩ : ∃ n : Nat, c = n := ⟨c.toNat, by omega⟩
    go_upto_region 3 with (fail)
    clear hw hby hw1
    obtain ⟨it, hit⟩ : ∃ x, Lib.itoa (cn : Int) = x := ⟨_, rfl⟩
    obtain ⟨rs, hrs⟩ : ∃ x, reasonL (cn : Int) = x := ⟨_, rfl⟩
    have hitl : it.length ≤ 21 := by rw [← hit]; exact Lib.itoa_length_le _ (by omega) (by omega)
    have hrsl : rs.length ≤ 31 := by rw [← hrs]; exact reason_len _
    have k1 : (⟨#[72, 84, 84, 80, 47, 49, 46, 49, 32]⟩ : ByteArray) ++ ⟨it.toArray⟩ = ⟨(aheadL ++ it).toArray⟩ := cat_mk aheadL it
    have z1 : ¬ 9223372036854775807 < 9 + it.length := by omega
    obtain ⟨s1, hs1⟩ : ∃ x, aheadL ++ it = x := ⟨_, rfl⟩
    have hs1l : s1.length ≤ 30 := by rw [← hs1, List.length_append]; show 9 + _ ≤ _; omega
    rw [hs1] at k1
    have k2 : (⟨s1.toArray⟩ : ByteArray) ++ ⟨#[32]⟩ = ⟨(s1 ++ [32]).toArray⟩ := cat_mk s1 [32]
    have z2 : ¬ 9223372036854775807 < s1.length + 1 := by omega
    obtain ⟨s2, hs2⟩ : ∃ x, s1 ++ [32] = x := ⟨_, rfl⟩
    have hs2l : s2.length ≤ 31 := by rw [← hs2, List.length_append]; show _ + 1 ≤ _; omega
    rw [hs2] at k2
    have k3 : (⟨s2.toArray⟩ : ByteArray) ++ ⟨rs.toArray⟩ = ⟨(s2 ++ rs).toArray⟩ := cat_mk s2 rs
    have z3 : ¬ 9223372036854775807 < s2.length + rs.length := by omega
    obtain ⟨s3, hs3⟩ : ∃ x, s2 ++ rs = x := ⟨_, rfl⟩
    have hs3l : s3.length ≤ 62 := by rw [← hs3, List.length_append]; omega
    rw [hs3] at k3
    have hl1 := Lib.hid (show aheadL ++ Lib.itoa (cn : Int) ++ [32] ++ reasonL (cn : Int) = s3 by rw [hit, hrs, hs1, hs2, hs3])
    have hit' := Lib.hid hit
    have hrs' := Lib.hid hrs
    have hcn := Lib.hid (show cn ≤ 1000000 by omega)
    clear hit hrs hs1 hs2 hs3
    have t0 : ∀ y : Later (Gr w1), y.w.cell? ⟨w.heap.size, 0, none⟩ = some (.int .i64 cn) := fun y => y.ok.cell n0
    haveI : Nonempty (Later (Gr w1)) := ⟨⟨w1, Gr.refl w1⟩⟩
    refine wp_region_later_tail (C := Gr w1) 9 (by kernel_rfl) (by kernel_rfl) (Gr.drew' _) ?_
    simp only [List.take_succ_cons, List.take_zero, List.drop_succ_cons, List.drop_zero]
    repeat (go_big_quiet_step (first | with_reducible exact number_later _ hcn.out _ hit'.out _ | with_reducible exact rreason_later _ _ hrs'.out _))
    refine wpQuiet_nil ?_
    intro w9 hg9
    replace n0 := hg9.cell n0
    replace n1 := hg9.cell n1
    replace n2 := hg9.cell n2
    have g9 := Lib.hid (g1.out.trans hg9)
    have hlw : w.heap.size < w9.heap.size := cell_lt n0
    clear hg9 t0 k1 k2 k3 z1 z2 z3
    go_wp2
    have ho0 := Lib.hid (OwnV.lit1 (t := 9) (B := w9.heap.size) w9 (.string ⟨s3.toArray⟩) (Nat.le_refl _))
    have gl := Gr.alloc w9 (.cells #[.string ⟨s3.toArray⟩] 9)
    generalize (w9.alloc (.cells #[.string ⟨s3.toArray⟩] 9)) = w10 at ho0 gl ⊢
    obtain ⟨bb, hbb⟩ : ∃ x, w9.heap.size = x := ⟨_, rfl⟩
    rw [hbb] at ho0 hlw ⊢
    have hbz := Lib.hid (show bb ≤ w10.heap.size from hbb ▸ gl.size)
    replace n0 := gl.cell n0
    replace n1 := gl.cell n1
    replace n2 := gl.cell n2
    have g10 := Lib.hid (g9.out.trans gl)
    clear gl hbb
    go_loopw [8, 9] (fun v i W => ∃ k : Nat, k ≤ fs.length ∧ i = .int .i64 k ∧ (∃ p cap, v = .slice p (k + 1) cap) ∧ OwnV 9 bb W v (([s3] ++ (fs.take k).map fl0).map sV) ∧ Below bb w10 W) (fun _ i _ => fs.length - (intOf i).toNat)
    case atStart => exact ⟨0, Nat.zero_le _, rfl, ⟨_, _, rfl⟩, ho0.out, Below.refl _ _⟩
    case round =>
      obtain ⟨k, hk, rfl, ⟨p3, cap3, rfl⟩, ho, hg⟩ := hrel
      have ho' := Lib.hid ho
      have hg' := Lib.hid hg
      have hbz4 := Lib.hid (Nat.le_trans hbz.out hg.size)
      replace n0 := (Below.cell hg (p := ⟨w.heap.size, 0, none⟩) hlw).trans n0
      replace n1 := (Below.cell hg (p := ⟨w.heap.size, 1, none⟩) hlw).trans n1
      replace n2 := (Below.cell hg (p := ⟨w.heap.size, 2, none⟩) hlw).trans n2
      have gw := Lib.hid (show Gr w wr from Below.trans g10.out (Below.mono hg (Nat.le_of_lt hlw)))
      clear ho hg
      by_cases hlt : k < fs.length
      · obtain ⟨bf, off, rfl, d1, d2⟩ := hc'.out k hlt
        have hbf : bf < bb := Nat.lt_trans (show bf < w.heap.size from cell_lt d1) hlw
        replace d1 := gw.out.cell d1
        replace d2 := gw.out.cell d2
        have hxs := hs'.out _ (List.getElem_mem hlt)
        obtain ⟨⟨xn, xv⟩, hx⟩ : ∃ x, fs[k] = x := ⟨_, rfl⟩
        rw [hx] at d1 d2 hxs
        dsimp only at d1 d2 hxs
        have hkI : (k : Int) < fs.length := by omega
        have k1 : (⟨xn.toArray⟩ : ByteArray) ++ ⟨#[58, 32]⟩ = ⟨(xn ++ [58, 32]).toArray⟩ := cat_mk xn [58, 32]
        have z1 : ¬ 9223372036854775807 < xn.length + 2 := by omega
        obtain ⟨c1, hc1⟩ : ∃ x, xn ++ [58, 32] = x := ⟨_, rfl⟩
        have hc1l : c1.length ≤ 1000002 := by rw [← hc1, List.length_append]; show _ + 2 ≤ _; omega
        rw [hc1] at k1
        have k2 : (⟨c1.toArray⟩ : ByteArray) ++ ⟨xv.toArray⟩ = ⟨(c1 ++ xv).toArray⟩ := cat_mk c1 xv
        have z2 : ¬ 9223372036854775807 < c1.length + xv.length := by omega
        obtain ⟨c2, hc2⟩ : ∃ x, c1 ++ xv = x := ⟨_, rfl⟩
        rw [hc2] at k2
        have hnx := Lib.hid (show [s3] ++ (fs.take (k + 1)).map fl0 = ([s3] ++ (fs.take k).map fl0) ++ [c2] by
          rw [List.take_succ_eq_append_getElem hlt, List.map_append, hx, ← hc2, ← hc1]; simp [fl0])
        obtain ⟨ls, hls⟩ : ∃ l, [s3] ++ (fs.take k).map fl0 = l := ⟨_, rfl⟩
        have hlsl : ls.length = k + 1 := by rw [← hls]; simp; omega
        rw [hls] at ho' hnx
        obtain ⟨N, hN⟩ : ∃ N, k + 1 = N := ⟨_, rfl⟩
        rw [hN] at ho' hlsl ⊢
        have hNl : (ls.map sV).length + 1 = N + 1 := by rw [List.length_map, hlsl]
        have hNb : N + 1 ≤ 1000000 := by omega
        have hN' := Lib.hid hN
        clear hc1 hc2 hx hxs hls hlsl hN
        go_upto_region 7 with (fail)
        go_region_held3 (fun w' => w'.cell? ⟨w.heap.size, 1, none⟩ = some (.slice (some ⟨bf, off, none⟩) fs.length cap) ∧ w'.cell? ⟨bf, off + k * 2, none⟩ = some (.string ⟨xn.toArray⟩) ∧ w'.cell? ⟨bf, off + k * 2 + 1, none⟩ = some (.string ⟨xv.toArray⟩)) (go_keep) (first | (refine step_app1 (by rfl) (.tmp 40) (.tmp 55) 60 9 (.string ⟨#[]⟩) (.string ⟨c2.toArray⟩) 16 Tryz.underlying60 infoS rfl (by rfl) bb (.slice p3 N cap3) (ls.map sV) (by rfl) (OwnV.drew (OwnV.alloc ho'.out _)) wr.heap.size (by rfl) (cell_one _ _ _) rfl (N + 1) hNl hNb (by decide) (Nat.le_trans hbz4.out (by simp)) ?_; intro p6 cap6 w6 hown6 hb5 _; have hb6 := Below.trans (Below.drew ((Below.refl _ wr).alloc hbz4.out _)) hb5; have r0 := (Below.cell hb6 (p := ⟨w.heap.size, 1, none⟩) hlw).trans n1; have r1 := (Below.cell hb6 (p := ⟨bf, off + k * 2, none⟩) hbf).trans d1; have r2 := (Below.cell hb6 (p := ⟨bf, off + k * 2 + 1, none⟩) hbf).trans d2))
        have hown7 := Lib.hid (show OwnV 9 bb w6 (.slice p6 (N + 1) cap6) (([s3] ++ (fs.take (k + 1)).map fl0).map sV) from by
          rw [hnx.out, List.map_append]; exact hown6)
        have hg7 := Lib.hid (Below.trans hg'.out hb6)
        clear hown6 hb6 hb5 r0 r1 r2 d1 d2 k1 k2 z1 z2
        go_wp2
        go_roundw
        case rel => exact ⟨k + 1, by omega, by go_num, ⟨p6, cap6, by rw [hN'.out]⟩, hown7.out, hg7.out⟩
        case measure => simp [intOf]; omega
      · obtain rfl : k = fs.length := by omega
        rw [List.take_length] at ho'
        have howr := Lib.hid ho'.out
        have hzwr := Lib.hid hbz4.out
        have hGwr := Lib.hid hg'.out
        have hltN0 : ¬ (fs.length : Int) < fs.length := by omega
        have hm0 := Lib.hid (show ∀ x ∈ [s3] ++ fs.map fl0, x.length ≤ 2000100 from fun x hx => by
          rcases List.mem_append.1 hx with h | h
          · simp only [List.mem_singleton] at h; rw [h]; omega
          · obtain ⟨f, hf, rfl⟩ := List.mem_map.1 h
            have := hs'.out f hf
            unfold fl0
            simp only [List.length_append, List.length_cons, List.length_nil]; omega)
        obtain ⟨l0, hl0⟩ : ∃ l, [s3] ++ fs.map fl0 = l := ⟨_, rfl⟩
        have hl0l : l0.length = fs.length + 1 := by rw [← hl0]; simp
        rw [hl0] at howr hm0
        have hT0 := Lib.hid (show T = (l0 ++ (if bareB (cn : Int) then [] else [kLen ++ [58, 32] ++ Lib.itoa (b.length : Int)]) ++ []).flatMap (· ++ eolL) ++ eolL by
          rw [hhd'.out]; unfold linesR; dsimp only; rw [hl1.out, ← hl0]; rfl)
        obtain ⟨N0, hN0⟩ : ∃ n, fs.length + 1 = n := ⟨_, rfl⟩
        rw [hN0] at hl0l howr ⊢
        have hN0b : N0 ≤ 100001 := by omega
        have hN0p : 0 < N0 := by omega
        clear hl0 hN0
        have hzb := rbare10_any (cn : Int)
        cases hbare : bareB (cn : Int)
        · have hbare' := Lib.hid hbare
          rw [hbare] at hzb
          obtain ⟨nt, hnt⟩ : ∃ x, Lib.itoa (b.length : Int) = x := ⟨_, rfl⟩
          have hntl : nt.length ≤ 21 := by rw [← hnt]; exact Lib.itoa_length_le _ (by omega) (by omega)
          have k5 : (⟨#[67, 111, 110, 116, 101, 110, 116, 45, 76, 101, 110, 103, 116, 104, 58, 32]⟩ : ByteArray) ++ ⟨nt.toArray⟩ = ⟨(kLen ++ [58, 32] ++ nt).toArray⟩ := cat_mk (kLen ++ [58, 32]) nt
          have z5 : ¬ 9223372036854775807 < 16 + nt.length := by omega
          obtain ⟨e1, he1⟩ : ∃ x, kLen ++ [58, 32] ++ nt = x := ⟨_, rfl⟩
          have he1l : e1.length ≤ 40 := by rw [← he1]; simp [kLen]; omega
          rw [he1] at k5
          rw [hnt, he1] at hT0
          have hnum := Lib.hid (fun W => number_any b.length b.length W (Nat.le_refl _) hlb)
          rw [hnt] at hnum
          clear hnt he1 hbare
          go_wp2_with (go_at_call 28; refine (hzb _).mono ?_; rintro e w' ⟨rfl, rfl⟩)
          refine (hnum.out _).mono ?_
          rintro e wi ⟨rfl, hgi⟩
          have howi := Lib.hid (howr.out.gr hgi)
          have hzwi := Lib.hid (Nat.le_trans hzwr.out hgi.size)
          have hGwi := Lib.hid (Below.trans hGwr.out (Below.mono hgi hzwr.out))
          replace n2 := hgi.cell n2
          have hNn : (l0.map sV).length + 1 = N0 + 1 := by rw [List.length_map, hl0l]
          clear hgi
          go_upto_region 10 with (at_builtin; (refine wp_app1 (by rfl) _ _ 60 9 _ (.string ⟨#[]⟩) (.string ⟨e1.toArray⟩) 16 Tryz.underlying60 infoS rfl rfl bb _ (l0.map sV) rfl howi.out rfl rfl (N0 + 1) hNn (by omega) (by decide) hzwi.out ?_); intro pwn capwn wn hownwn hbwn)
          have hoown := Lib.hid hownwn
          have hzwn := Lib.hid (Nat.le_trans hzwi.out hbwn.size)
          have hGwn := Lib.hid (Below.trans hGwi.out hbwn)
          replace n2 := (Below.cell hbwn (p := ⟨w.heap.size, 2, none⟩) hlw).trans n2
          clear hownwn hbwn
          have howwn := Lib.hid (show OwnV 9 bb wn (.slice pwn (N0 + 1) capwn) ((l0 ++ [e1]).map sV) from by rw [List.map_append]; exact hoown.out)
          obtain ⟨LS, hLS⟩ : ∃ l, l0 ++ [e1] = l := ⟨_, rfl⟩
          obtain ⟨N2, hN2⟩ : ∃ n, (N0 + 1) = n := ⟨_, rfl⟩
          have hLS' := hLS
          have hoL := Lib.hid (show OwnV 9 bb wn _ (LS.map sV) from by
            rw [← hLS]
            have := howwn.out
            first | exact this | (rw [List.map_append]; exact this))
          rw [hN2] at hoL ⊢
          have hN2b : N2 ≤ 100003 := by omega
          have hmem := Lib.hid (show ∀ x ∈ LS, x.length ≤ 2000100 from by
            rw [← hLS]
            intro x hx
            try simp only [List.mem_append, List.mem_singleton] at hx
            rcases hx with hx | rfl
            · exact hm0.out x hx
            · omega)
          have hTT := Lib.hid (show T = LS.flatMap (· ++ eolL) ++ eolL by rw [hT0.out, hbare'.out, ← hLS]; simp)
          have hrow := hoL.out.row (by rw [List.length_map, ← hLS]; (try simp only [List.length_append, List.length_cons, List.length_nil]); omega)
          obtain ⟨gz, capz, hve, hgz1, hgz2, hcl, _⟩ := hrow
          injection hve with hp5 hx1 hx2
          subst hp5
          subst hx2
          clear hx1
          have hcells := Lib.hid hcl
          clear hcl hLS
          have hLl : LS.length = N2 := by
            rw [← hLS']
            try simp only [List.length_append, List.length_cons, List.length_nil]
            omega
          clear hLS'
          go_wp2
          go_loopw [10, 11] (fun v i W => ∃ k : Nat, k ≤ N2 ∧ i = .int .i64 k ∧ v = .string ⟨((LS.take k).flatMap (· ++ eolL)).toArray⟩ ∧ W = wn) (fun _ i _ => N2 - (intOf i).toNat)
          case atStart => exact ⟨0, Nat.zero_le _, rfl, rfl, by first | trivial | rfl⟩
          case round =>
            obtain ⟨k, hk, rfl, rfl, rfl⟩ := hrel
            have hql := fm_len (LS.take k) (fun x hx => hmem.out x (List.mem_of_mem_take hx))
            rw [List.length_take] at hql
            by_cases hlt : k < N2
            · have hltI : (k : Int) < N2 := by omega
              have hkl : k < LS.length := by omega
              have hcell := hcells.out k _ (show (LS.map sV)[k]? = some (sV LS[k]) by simp [hkl])
              have hxl := hmem.out _ (List.getElem_mem hkl)
              have hnx := fm_take LS k hkl
              obtain ⟨x, hx⟩ : ∃ x, LS[k] = x := ⟨_, rfl⟩
              rw [hx] at hcell hxl hnx
              unfold sV at hcell
              obtain ⟨q, hq⟩ : ∃ q, (LS.take k).flatMap (· ++ eolL) = q := ⟨_, rfl⟩
              rw [hq] at hql hnx ⊢
              have hqb : q.length ≤ 1000000000000 := by
                have : min k LS.length ≤ 100010 := by omega
                omega
              have k1 : (⟨q.toArray⟩ : ByteArray) ++ ⟨x.toArray⟩ = ⟨(q ++ x).toArray⟩ := cat_mk q x
              have z1 : ¬ 9223372036854775807 < q.length + x.length := by omega
              obtain ⟨c1, hc1⟩ : ∃ y, q ++ x = y := ⟨_, rfl⟩
              have hc1l : c1.length ≤ 1000002000100 := by rw [← hc1, List.length_append]; omega
              rw [hc1] at k1 hnx
              have k2 : (⟨c1.toArray⟩ : ByteArray) ++ ⟨#[13, 10]⟩ = ⟨(c1 ++ eolL).toArray⟩ := cat_mk c1 eolL
              have z2 : ¬ 9223372036854775807 < c1.length + 2 := by omega
              have hnx' := Lib.hid hnx
              obtain ⟨c2, hc2⟩ : ∃ y, c1 ++ eolL = y := ⟨_, rfl⟩
              rw [hc2] at k2 hnx'
              clear hx hq hc1 hc2 hnx hql
              go_wp2
              go_roundw
              case rel => exact ⟨k + 1, by omega, by go_num, by rw [hnx'.out], by first | trivial | rfl⟩
              case measure => simp [intOf]; omega
            · obtain rfl : k = N2 := by omega
              have hall : LS.take k = LS := List.take_of_length_le (by omega)
              rw [hall] at hql ⊢
              have hltN : ¬ (k : Int) < k := by omega
              obtain ⟨q, hq⟩ : ∃ q, LS.flatMap (· ++ eolL) = q := ⟨_, rfl⟩
              have hTT2 := Lib.hid (show T = q ++ eolL by rw [hTT.out, hq])
              have hqb : q.length ≤ 1000000000000 := by
                rw [hq] at hql
                have : min k LS.length ≤ 100010 := by omega
                omega
              rw [hq]
              have k3 : (⟨q.toArray⟩ : ByteArray) ++ ⟨#[13, 10]⟩ = ⟨(q ++ eolL).toArray⟩ := cat_mk q eolL
              have z3 : ¬ 9223372036854775807 < q.length + 2 := by omega
              rw [← hTT2.out] at k3
              have hTl : T.length ≤ 1000000000002 := by rw [hTT2.out, List.length_append]; show _ + 2 ≤ _; omega
              have hgf := Lib.hid (show Gr w _ from Below.trans g10.out (Below.mono hGwn.out (Nat.le_of_lt hlw)))
              clear hq hql hall
              cases head with
              | true =>
                go_wp2
                go_ret2
                exact ⟨by rw [hfin.out]; simp [byteV], hgf.out⟩
              | false =>
                have k4 : (⟨T.toArray⟩ : ByteArray) ++ ⟨b.toArray⟩ = ⟨(T ++ b).toArray⟩ := cat_mk T b
                have z4 : ¬ 9223372036854775807 < T.length + b.length := by omega
                go_wp2
                go_ret2
                exact ⟨by rw [hfin.out]; simp [byteV], hgf.out⟩
        · have hbare' := Lib.hid hbare
          rw [hbare] at hzb
          clear hbare
          go_upto_region 10 with (go_at_call 28; refine (hzb _).mono ?_; rintro e w' ⟨rfl, rfl⟩)
          obtain ⟨LS, hLS⟩ : ∃ l, l0 = l := ⟨_, rfl⟩
          obtain ⟨N2, hN2⟩ : ∃ n, N0 = n := ⟨_, rfl⟩
          have hLS' := hLS
          have hoL := Lib.hid (show OwnV 9 bb wr _ (LS.map sV) from by
            rw [← hLS]
            have := howr.out
            first | exact this | (rw [List.map_append]; exact this))
          rw [hN2] at hoL ⊢
          have hN2b : N2 ≤ 100003 := by omega
          have hmem := Lib.hid (show ∀ x ∈ LS, x.length ≤ 2000100 from by
            rw [← hLS]
            intro x hx
            try simp only [List.mem_append, List.mem_singleton] at hx
            exact hm0.out x hx)
          have hTT := Lib.hid (show T = LS.flatMap (· ++ eolL) ++ eolL by rw [hT0.out, hbare'.out, ← hLS]; simp)
          have hrow := hoL.out.row (by rw [List.length_map, ← hLS]; (try simp only [List.length_append, List.length_cons, List.length_nil]); omega)
          obtain ⟨gz, capz, hve, hgz1, hgz2, hcl, _⟩ := hrow
          injection hve with hp5 hx1 hx2
          subst hp5
          subst hx2
          clear hx1
          have hcells := Lib.hid hcl
          clear hcl hLS
          have hLl : LS.length = N2 := by
            rw [← hLS']
            try simp only [List.length_append, List.length_cons, List.length_nil]
            omega
          clear hLS'
          go_wp2
          go_loopw [10, 11] (fun v i W => ∃ k : Nat, k ≤ N2 ∧ i = .int .i64 k ∧ v = .string ⟨((LS.take k).flatMap (· ++ eolL)).toArray⟩ ∧ W = wr) (fun _ i _ => N2 - (intOf i).toNat)
          case atStart => exact ⟨0, Nat.zero_le _, rfl, rfl, by first | trivial | rfl⟩
          case round =>
            obtain ⟨k, hk, rfl, rfl, rfl⟩ := hrel
            have hql := fm_len (LS.take k) (fun x hx => hmem.out x (List.mem_of_mem_take hx))
            rw [List.length_take] at hql
            by_cases hlt : k < N2
            · have hltI : (k : Int) < N2 := by omega
              have hkl : k < LS.length := by omega
              have hcell := hcells.out k _ (show (LS.map sV)[k]? = some (sV LS[k]) by simp [hkl])
              have hxl := hmem.out _ (List.getElem_mem hkl)
              have hnx := fm_take LS k hkl
              obtain ⟨x, hx⟩ : ∃ x, LS[k] = x := ⟨_, rfl⟩
              rw [hx] at hcell hxl hnx
              unfold sV at hcell
              obtain ⟨q, hq⟩ : ∃ q, (LS.take k).flatMap (· ++ eolL) = q := ⟨_, rfl⟩
              rw [hq] at hql hnx ⊢
              have hqb : q.length ≤ 1000000000000 := by
                have : min k LS.length ≤ 100010 := by omega
                omega
              have k1 : (⟨q.toArray⟩ : ByteArray) ++ ⟨x.toArray⟩ = ⟨(q ++ x).toArray⟩ := cat_mk q x
              have z1 : ¬ 9223372036854775807 < q.length + x.length := by omega
              obtain ⟨c1, hc1⟩ : ∃ y, q ++ x = y := ⟨_, rfl⟩
              have hc1l : c1.length ≤ 1000002000100 := by rw [← hc1, List.length_append]; omega
              rw [hc1] at k1 hnx
              have k2 : (⟨c1.toArray⟩ : ByteArray) ++ ⟨#[13, 10]⟩ = ⟨(c1 ++ eolL).toArray⟩ := cat_mk c1 eolL
              have z2 : ¬ 9223372036854775807 < c1.length + 2 := by omega
              have hnx' := Lib.hid hnx
              obtain ⟨c2, hc2⟩ : ∃ y, c1 ++ eolL = y := ⟨_, rfl⟩
              rw [hc2] at k2 hnx'
              clear hx hq hc1 hc2 hnx hql
              go_wp2
              go_roundw
              case rel => exact ⟨k + 1, by omega, by go_num, by rw [hnx'.out], by first | trivial | rfl⟩
              case measure => simp [intOf]; omega
            · obtain rfl : k = N2 := by omega
              have hall : LS.take k = LS := List.take_of_length_le (by omega)
              rw [hall] at hql ⊢
              have hltN : ¬ (k : Int) < k := by omega
              obtain ⟨q, hq⟩ : ∃ q, LS.flatMap (· ++ eolL) = q := ⟨_, rfl⟩
              have hTT2 := Lib.hid (show T = q ++ eolL by rw [hTT.out, hq])
              have hqb : q.length ≤ 1000000000000 := by
                rw [hq] at hql
                have : min k LS.length ≤ 100010 := by omega
                omega
              rw [hq]
              have k3 : (⟨q.toArray⟩ : ByteArray) ++ ⟨#[13, 10]⟩ = ⟨(q ++ eolL).toArray⟩ := cat_mk q eolL
              have z3 : ¬ 9223372036854775807 < q.length + 2 := by omega
              rw [← hTT2.out] at k3
              have hTl : T.length ≤ 1000000000002 := by rw [hTT2.out, List.length_append]; show _ + 2 ≤ _; omega
              have hgf := Lib.hid (show Gr w _ from Below.trans g10.out (Below.mono hGwr.out (Nat.le_of_lt hlw)))
              clear hq hql hall
              cases head with
              | true =>
                go_wp2
                go_ret2
                exact ⟨by rw [hfin.out]; simp [byteV], hgf.out⟩
              | false =>
                have k4 : (⟨T.toArray⟩ : ByteArray) ++ ⟨b.toArray⟩ = ⟨(T ++ b).toArray⟩ := cat_mk T b
                have z4 : ¬ 9223372036854775807 < T.length + b.length := by omega
                go_wp2
                go_ret2
                exact ⟨by rw [hfin.out]; simp [byteV], hgf.out⟩
end Go.Proofs.YtfcokldbpjkjpaaGreatDoor
