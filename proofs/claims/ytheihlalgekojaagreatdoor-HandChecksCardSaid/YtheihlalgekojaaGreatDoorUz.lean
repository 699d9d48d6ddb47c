/-
  The document's accept of a key.
-/
import Derived.Test.YtheihlalgekojaaGreatDoorUb
import Derived.Test.YtheihlalgekojaaGreatDoorUc
import Derived.Test.YtheihlalgekojaaGreatDoorHe
namespace Go.Proofs.YtheihlalgekojaaGreatDoor
open Go.RowKit
attribute [local go_sem] Oper.semAt_some

set_option maxHeartbeats 2000000 in
set_option maxRecDepth 100000 in
theorem raccept_any (k : List UInt8) (hk : k.length ≤ 9000) (w : World) : Calls Tryz.prog 19 #[.string ⟨k.toArray⟩] w fun e w' => e = .returned (.string ⟨(acceptL k).toArray⟩) ∧ Gr w w' := by
  have hcat : (⟨k.toArray⟩ : ByteArray) ++ ⟨#[50, 53, 56, 69, 65, 70, 65, 53, 45, 69, 57, 49, 52, 45, 52, 55, 68, 65, 45, 57, 53, 67, 65, 45, 67, 53, 65, 66, 48, 68, 67, 56, 53, 66, 49, 49]⟩ = ⟨(k ++ guidL).toArray⟩ := cat_mk k guidL
  have hcl : ¬ 9223372036854775807 < k.length + 36 := by omega
  obtain ⟨u, hu⟩ : ∃ u, k ++ guidL = u := ⟨_, rfl⟩
  have hul := Lib.hid (show u.length ≤ 10000 by rw [← hu, List.length_append]; show _ + 36 ≤ _; omega)
  obtain ⟨L, hL⟩ : ∃ L, shaL u = L := ⟨_, rfl⟩
  have hacc : acceptL k = encL L := by unfold acceptL; rw [hu, hL]
  have hLl : L.length = 20 := hL ▸ out_len _
  rw [hu] at hcat
  rw [hacc]
  have hsum := Lib.hid (fun W => rsum_any u hul.out W)
  rw [hL] at hsum
  have henc := Lib.hid (fun W => rencode_any L (by omega) W)
  clear hu hL hacc
  go_enter Tryz.func19, Tryz.ntmps19
  go_wp2_with fail
  refine (hsum.out _).mono ?_
  rintro e w1 ⟨rfl, hg⟩
  have g1 := Lib.hid hg
  clear hg hcat
  have hlen : (bcells L).length = 20 := by rw [bcells_len]; exact hLl
  have o1 : OutAt (w1.alloc (.cells #[.int .u8 0, .int .u8 0, .int .u8 0, .int .u8 0, .int .u8 0, .int .u8 0, .int .u8 0, .int .u8 0, .int .u8 0, .int .u8 0, .int .u8 0, .int .u8 0, .int .u8 0, .int .u8 0, .int .u8 0, .int .u8 0, .int .u8 0, .int .u8 0, .int .u8 0, .int .u8 0] 45)) w1.heap.size [] := (show OutAt (w1.alloc (.cells (Array.replicate 20 (.int .u8 0)) 45)) w1.heap.size [] from ⟨fun j hj => (by
      simp only [World.cell?, World.alloc_heap_new]
      rw [Array.getElem?_replicate, if_pos hj]; rfl), fun j => World.frozen?_alloc_at _ _ _ _ rfl⟩)
  have g2 := Lib.hid (g1.out.trans (Gr.alloc w1 (.cells #[.int .u8 0, .int .u8 0, .int .u8 0, .int .u8 0, .int .u8 0, .int .u8 0, .int .u8 0, .int .u8 0, .int .u8 0, .int .u8 0, .int .u8 0, .int .u8 0, .int .u8 0, .int .u8 0, .int .u8 0, .int .u8 0, .int .u8 0, .int .u8 0, .int .u8 0, .int .u8 0] 45)))
  have hbw := Lib.hid (show w.heap.size ≤ w1.heap.size from g1.out.size)
  unfold bytesV
  have hst : (storeCells ⟨w1.heap.size, 0, none⟩ (bcells L) 0).run Tryz.prog (w1.alloc (.cells #[.int .u8 0, .int .u8 0, .int .u8 0, .int .u8 0, .int .u8 0, .int .u8 0, .int .u8 0, .int .u8 0, .int .u8 0, .int .u8 0, .int .u8 0, .int .u8 0, .int .u8 0, .int .u8 0, .int .u8 0, .int .u8 0, .int .u8 0, .int .u8 0, .int .u8 0, .int .u8 0] 45)) = .ok () ((w1.alloc (.cells #[.int .u8 0, .int .u8 0, .int .u8 0, .int .u8 0, .int .u8 0, .int .u8 0, .int .u8 0, .int .u8 0, .int .u8 0, .int .u8 0, .int .u8 0, .int .u8 0, .int .u8 0, .int .u8 0, .int .u8 0, .int .u8 0, .int .u8 0, .int .u8 0, .int .u8 0, .int .u8 0] 45)).setCells w1.heap.size 0 (bcells L)) := run_storeCells_cells w1.heap.size 0 (bcells L) 0 _ (fun j hj => by rw [hlen] at hj; rw [Nat.zero_add, o1.1 j hj]; rfl) (fun j _ => by rw [Nat.zero_add]; exact o1.2 j) (bcells_one _)
  have hat := World.rangeAt_setCells_same (w1.alloc (.cells #[.int .u8 0, .int .u8 0, .int .u8 0, .int .u8 0, .int .u8 0, .int .u8 0, .int .u8 0, .int .u8 0, .int .u8 0, .int .u8 0, .int .u8 0, .int .u8 0, .int .u8 0, .int .u8 0, .int .u8 0, .int .u8 0, .int .u8 0, .int .u8 0, .int .u8 0, .int .u8 0] 45)) w1.heap.size 0 (bcells L) (fun j hj => by rw [hlen] at hj; rw [Nat.zero_add]; exact ⟨by rw [o1.1 j hj]; rfl, o1.2 j⟩)
  have hg3 := Lib.hid (Gr.setCells hbw.out (bcells L) 0 g2.out)
  have hcv : (convert 47 9 (.slice (some ⟨w1.heap.size, 0, none⟩) 20 20)).run Tryz.prog ((w1.alloc (.cells #[.int .u8 0, .int .u8 0, .int .u8 0, .int .u8 0, .int .u8 0, .int .u8 0, .int .u8 0, .int .u8 0, .int .u8 0, .int .u8 0, .int .u8 0, .int .u8 0, .int .u8 0, .int .u8 0, .int .u8 0, .int .u8 0, .int .u8 0, .int .u8 0, .int .u8 0, .int .u8 0] 45)).setCells w1.heap.size 0 (bcells L)) = .ok (.string ⟨L.toArray⟩) ((w1.alloc (.cells #[.int .u8 0, .int .u8 0, .int .u8 0, .int .u8 0, .int .u8 0, .int .u8 0, .int .u8 0, .int .u8 0, .int .u8 0, .int .u8 0, .int .u8 0, .int .u8 0, .int .u8 0, .int .u8 0, .int .u8 0, .int .u8 0, .int .u8 0, .int .u8 0, .int .u8 0, .int .u8 0] 45)).setCells w1.heap.size 0 (bcells L)) := by
    have := run_convert_bytes_back (P := Tryz.prog) ((w1.alloc (.cells #[.int .u8 0, .int .u8 0, .int .u8 0, .int .u8 0, .int .u8 0, .int .u8 0, .int .u8 0, .int .u8 0, .int .u8 0, .int .u8 0, .int .u8 0, .int .u8 0, .int .u8 0, .int .u8 0, .int .u8 0, .int .u8 0, .int .u8 0, .int .u8 0, .int .u8 0, .int .u8 0] 45)).setCells w1.heap.size 0 (bcells L)) 47 9 5 ⟨w1.heap.size, 0, none⟩ 20 L Tryz.underlying47 Tryz.underlying5 Tryz.underlying9 (fun j hj => by
      have h := hat j _ (bcells_get L j hj)
      rw [Addr.add_mid]; exact h)
    rwa [hLl] at this
  clear hat o1
  obtain ⟨cs, hcs⟩ : ∃ cs, bcells L = cs := ⟨_, rfl⟩
  rw [hcs] at hst hlen hg3 hcv ⊢
  clear hcs
  go_wp2_with fail
  refine (henc.out _).mono ?_
  rintro e w3 ⟨rfl, hg⟩
  have g3 := Lib.hid (hg3.out.trans hg)
  clear hg
  go_wp2
  go_ret
  exact ⟨rfl, g3.out⟩
end Go.Proofs.YtheihlalgekojaaGreatDoor
