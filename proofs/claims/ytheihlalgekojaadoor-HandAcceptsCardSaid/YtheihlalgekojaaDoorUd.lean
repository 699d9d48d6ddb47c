/-
  The document's accept of a key, and the statement HandAccepts.
-/
import Derived.Test.YtheihlalgekojaaDoorUb
import Derived.Test.YtheihlalgekojaaDoorUc
import Derived.Test.YtheihlalgekojaaDoorHe
namespace Go.Proofs.YtheihlalgekojaaDoor
open Go.RowKit
attribute [local go_sem] Oper.semAt_some

set_option maxHeartbeats 2000000 in
set_option maxRecDepth 100000 in
theorem raccept_any (k : List UInt8) (hk : k.length ≤ 9000) (w : World) : Calls Tryd.prog 9 #[.string ⟨k.toArray⟩] w fun e w' => e = .returned (.string ⟨(acceptL k).toArray⟩) ∧ Gr w w' := by
  have hcat : (⟨k.toArray⟩ : ByteArray) ++ ⟨#[50, 53, 56, 69, 65, 70, 65, 53, 45, 69, 57, 49, 52, 45, 52, 55, 68, 65, 45, 57, 53, 67, 65, 45, 67, 53, 65, 66, 48, 68, 67, 56, 53, 66, 49, 49]⟩ = ⟨(k ++ guidL).toArray⟩ := cat_mk k guidL
  have hcl : ¬ 9223372036854775807 < k.length + 36 := by omega
  obtain ⟨u, hu⟩ : ∃ u, k ++ guidL = u := ⟨_, rfl⟩
  have hul := Lib.hid (show u.length ≤ 10000 by rw [← hu, List.length_append]; show _ + 36 ≤ _; omega)
  obtain ⟨L, hL⟩ : ∃ L, shaL u = L := ⟨_, rfl⟩
  have hacc : acceptL k = encL L := by unfold acceptL; rw [hu, hL]
  have hLl : L.length = 20 := hL ▸ out_len _
  rw [hu] at hcat
  rw [hacc]
  have hsum := Lib.hid (fun W => rsum_any u hul.out W)
  rw [hL] at hsum
  have henc := Lib.hid (fun W => rencode_any L (by omega) W)
  clear hu hL hacc
  go_enter Tryd.func9, Tryd.ntmps9
  go_wp2_with fail
  refine (hsum.out _).mono ?_
  rintro e w1 ⟨rfl, hg⟩
  have g1 := Lib.hid hg
  clear hg hcat
  have hlen : (bcells L).length = 20 := by rw [bcells_len]; exact hLl
  have o1 : OutAt (w1.alloc (.cells #[.int .u8 0, .int .u8 0, .int .u8 0, .int .u8 0, .int .u8 0, .int .u8 0, .int .u8 0, .int .u8 0, .int .u8 0, .int .u8 0, .int .u8 0, .int .u8 0, .int .u8 0, .int .u8 0, .int .u8 0, .int .u8 0, .int .u8 0, .int .u8 0, .int .u8 0, .int .u8 0] 49)) w1.heap.size [] := (show OutAt (w1.alloc (.cells (Array.replicate 20 (.int .u8 0)) 49)) w1.heap.size [] from ⟨fun j hj => (by
      simp only [World.cell?, World.alloc_heap_new]
      rw [Array.getElem?_replicate, if_pos hj]; rfl), fun j => World.frozen?_alloc_at _ _ _ _ rfl⟩)
  have g2 := Lib.hid (g1.out.trans (Gr.alloc w1 (.cells #[.int .u8 0, .int .u8 0, .int .u8 0, .int .u8 0, .int .u8 0, .int .u8 0, .int .u8 0, .int .u8 0, .int .u8 0, .int .u8 0, .int .u8 0, .int .u8 0, .int .u8 0, .int .u8 0, .int .u8 0, .int .u8 0, .int .u8 0, .int .u8 0, .int .u8 0, .int .u8 0] 49)))
  have hbw := Lib.hid (show w.heap.size ≤ w1.heap.size from g1.out.size)
  unfold bytesV
  have hst : (storeCells ⟨w1.heap.size, 0, none⟩ (bcells L) 0).run Tryd.prog (w1.alloc (.cells #[.int .u8 0, .int .u8 0, .int .u8 0, .int .u8 0, .int .u8 0, .int .u8 0, .int .u8 0, .int .u8 0, .int .u8 0, .int .u8 0, .int .u8 0, .int .u8 0, .int .u8 0, .int .u8 0, .int .u8 0, .int .u8 0, .int .u8 0, .int .u8 0, .int .u8 0, .int .u8 0] 49)) = .ok () ((w1.alloc (.cells #[.int .u8 0, .int .u8 0, .int .u8 0, .int .u8 0, .int .u8 0, .int .u8 0, .int .u8 0, .int .u8 0, .int .u8 0, .int .u8 0, .int .u8 0, .int .u8 0, .int .u8 0, .int .u8 0, .int .u8 0, .int .u8 0, .int .u8 0, .int .u8 0, .int .u8 0, .int .u8 0] 49)).setCells w1.heap.size 0 (bcells L)) := run_storeCells_cells w1.heap.size 0 (bcells L) 0 _ (fun j hj => by rw [hlen] at hj; rw [Nat.zero_add, o1.1 j hj]; rfl) (fun j _ => by rw [Nat.zero_add]; exact o1.2 j) (bcells_one _)
  have hat := World.rangeAt_setCells_same (w1.alloc (.cells #[.int .u8 0, .int .u8 0, .int .u8 0, .int .u8 0, .int .u8 0, .int .u8 0, .int .u8 0, .int .u8 0, .int .u8 0, .int .u8 0, .int .u8 0, .int .u8 0, .int .u8 0, .int .u8 0, .int .u8 0, .int .u8 0, .int .u8 0, .int .u8 0, .int .u8 0, .int .u8 0] 49)) w1.heap.size 0 (bcells L) (fun j hj => by rw [hlen] at hj; rw [Nat.zero_add]; exact ⟨by rw [o1.1 j hj]; rfl, o1.2 j⟩)
  have hg3 := Lib.hid (Gr.setCells hbw.out (bcells L) 0 g2.out)
  have hcv : (convert 37 9 (.slice (some ⟨w1.heap.size, 0, none⟩) 20 20)).run Tryd.prog ((w1.alloc (.cells #[.int .u8 0, .int .u8 0, .int .u8 0, .int .u8 0, .int .u8 0, .int .u8 0, .int .u8 0, .int .u8 0, .int .u8 0, .int .u8 0, .int .u8 0, .int .u8 0, .int .u8 0, .int .u8 0, .int .u8 0, .int .u8 0, .int .u8 0, .int .u8 0, .int .u8 0, .int .u8 0] 49)).setCells w1.heap.size 0 (bcells L)) = .ok (.string ⟨L.toArray⟩) ((w1.alloc (.cells #[.int .u8 0, .int .u8 0, .int .u8 0, .int .u8 0, .int .u8 0, .int .u8 0, .int .u8 0, .int .u8 0, .int .u8 0, .int .u8 0, .int .u8 0, .int .u8 0, .int .u8 0, .int .u8 0, .int .u8 0, .int .u8 0, .int .u8 0, .int .u8 0, .int .u8 0, .int .u8 0] 49)).setCells w1.heap.size 0 (bcells L)) := by
    have := run_convert_bytes_back (P := Tryd.prog) ((w1.alloc (.cells #[.int .u8 0, .int .u8 0, .int .u8 0, .int .u8 0, .int .u8 0, .int .u8 0, .int .u8 0, .int .u8 0, .int .u8 0, .int .u8 0, .int .u8 0, .int .u8 0, .int .u8 0, .int .u8 0, .int .u8 0, .int .u8 0, .int .u8 0, .int .u8 0, .int .u8 0, .int .u8 0] 49)).setCells w1.heap.size 0 (bcells L)) 37 9 5 ⟨w1.heap.size, 0, none⟩ 20 L Tryd.underlying37 Tryd.underlying5 Tryd.underlying9 (fun j hj => by
      have h := hat j _ (bcells_get L j hj)
      rw [Addr.add_mid]; exact h)
    rwa [hLl] at this
  clear hat o1
  obtain ⟨cs, hcs⟩ : ∃ cs, bcells L = cs := ⟨_, rfl⟩
  rw [hcs] at hst hlen hg3 hcv ⊢
  clear hcs
  go_wp2_with fail
  refine (henc.out _).mono ?_
  rintro e w3 ⟨rfl, hg⟩
  have g3 := Lib.hid (hg3.out.trans hg)
  clear hg
  go_wp2
  go_ret
  exact ⟨rfl, g3.out⟩
set_option maxHeartbeats 2000000 in
set_option maxRecDepth 100000 in
theorem accepts_any (s : List UInt8) (hs : s.length ≤ 9223372036854775807) (w : World) (hG : G w) :
    Calls Tryd.prog 3 #[.string ⟨s.toArray⟩] w fun e w' => e = .returned (.bool true) ∧ Gr w w' := by
  have hG' := Lib.hid hG
  clear hG
  have hx1 : (⟨s.toArray⟩ : ByteArray).extract 0 3000 = ⟨(s.take 3000).toArray⟩ := by rw [extract_mk]; simp
  by_cases hl : 3000 < s.length
  · have hlI : (3000 : Int) < s.length := by omega
    have hlI2 : (3000 : Int) ≤ s.length := by omega
    obtain ⟨k, hk⟩ : ∃ k, s.take 3000 = k := ⟨_, rfl⟩
    have hkl : k.length ≤ 3000 := by rw [← hk, List.length_take]; omega
    rw [hk] at hx1
    have h1 := Lib.hid (fun W => accept_any k (by omega) W)
    have h2 := Lib.hid (fun W => raccept_any k (by omega) W)
    obtain ⟨a, ha⟩ : ∃ a, acceptL k = a := ⟨_, rfl⟩
    rw [ha] at h1 h2
    clear hk ha
    go_enter Tryd.func3, Tryd.ntmps3
    go_wp2_with fail
    refine (h1.out _).mono ?_
    rintro e w1 ⟨rfl, g1⟩
    have g1' := Lib.hid g1
    clear g1
    go_wp2_with fail
    refine (h2.out _).mono ?_
    rintro e w2 ⟨rfl, g2⟩
    have g2' := Lib.hid (g1'.out.trans g2)
    clear g2
    go_wp2_with fail
    refine (wakes_any _ (hG'.out.gr g2'.out)).mono ?_
    rintro e w3 ⟨rfl, g3⟩
    have g3' := Lib.hid (g2'.out.trans g3)
    clear g3
    go_wp2
    go_ret
    exact ⟨rfl, g3'.out⟩
  · have hlI : ¬ (3000 : Int) < s.length := by omega
    have h1 := Lib.hid (fun W => accept_any s (by omega) W)
    have h2 := Lib.hid (fun W => raccept_any s (by omega) W)
    obtain ⟨a, ha⟩ : ∃ a, acceptL s = a := ⟨_, rfl⟩
    rw [ha] at h1 h2
    clear ha hx1
    go_enter Tryd.func3, Tryd.ntmps3
    go_wp2_with fail
    refine (h1.out _).mono ?_
    rintro e w1 ⟨rfl, g1⟩
    have g1' := Lib.hid g1
    clear g1
    go_wp2_with fail
    refine (h2.out _).mono ?_
    rintro e w2 ⟨rfl, g2⟩
    have g2' := Lib.hid (g1'.out.trans g2)
    clear g2
    go_wp2_with fail
    refine (wakes_any _ (hG'.out.gr g2'.out)).mono ?_
    rintro e w3 ⟨rfl, g3⟩
    have g3' := Lib.hid (g2'.out.trans g3)
    clear g3
    go_wp2
    go_ret
    exact ⟨rfl, g3'.out⟩
end Go.Proofs.YtheihlalgekojaaDoor
