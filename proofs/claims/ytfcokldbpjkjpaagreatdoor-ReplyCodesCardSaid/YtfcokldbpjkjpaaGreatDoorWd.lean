/-
  Replies: the walk over ReplyCodes. (Printed by mk_wd.py.)
-/
import Derived.Test.YtfcokldbpjkjpaaGreatDoorWc
namespace Go.Proofs.YtfcokldbpjkjpaaGreatDoor
open Go.RowKit
attribute [local go_sem] Oper.semAt_some
set_option maxHeartbeats 16000000 in
set_option maxRecDepth 100000 in
theorem codes10_any (c : Int) (n v : List UInt8) (w : World) (hG : G w) (hcr : -9223372036854775808 ≤ c ∧ c ≤ 9223372036854775807) (hn : n.length ≤ 9223372036854775807) (hv : v.length ≤ 9223372036854775807) :
    Calls Tryz.prog 5 #[.int .i64 c, .agg #[.string ⟨n.toArray⟩, .string ⟨v.toArray⟩]] w fun e w' => e = .returned (.bool true) ∧ Gr w w' := by
  have hG' := Lib.hid hG
  have g0 := Lib.hid (Gr.alloc w (.cells #[.string ⟨n.toArray⟩, .string ⟨v.toArray⟩] 41))
  have m0 : (w.alloc (.cells #[.string ⟨n.toArray⟩, .string ⟨v.toArray⟩] 41)).cell? ⟨w.heap.size, 0, none⟩ = some (.string ⟨n.toArray⟩) := cell_new7 w [.string ⟨n.toArray⟩, .string ⟨v.toArray⟩] _ 0 _ rfl
  have m1 : (w.alloc (.cells #[.string ⟨n.toArray⟩, .string ⟨v.toArray⟩] 41)).cell? ⟨w.heap.size, 1, none⟩ = some (.string ⟨v.toArray⟩) := cell_new7 w [.string ⟨n.toArray⟩, .string ⟨v.toArray⟩] _ 1 _ rfl
  by_cases hnI : (1000 : Int) < n.length
  · go_enter Tryz.func5, Tryz.ntmps5
    go_upto_region 1 with (fail)
    generalize (w.alloc (.cells #[.string ⟨n.toArray⟩, .string ⟨v.toArray⟩] 41)) = w1 at g0 m0 m1 ⊢
    go_wp2_with fail
    refine (awake10_any _ (hG'.out.gr g0.out)).mono ?_
    rintro e w2 ⟨rfl, hb⟩
    have g2 := Lib.hid (g0.out.trans hb)
    replace m0 := hb.cell m0
    replace m1 := hb.cell m1
    clear hb hG
    go_wp2
    go_ret
    exact ⟨rfl, g2.out⟩
  by_cases hvI : (1000 : Int) < v.length
  · go_enter Tryz.func5, Tryz.ntmps5
    go_upto_region 1 with (fail)
    generalize (w.alloc (.cells #[.string ⟨n.toArray⟩, .string ⟨v.toArray⟩] 41)) = w1 at g0 m0 m1 ⊢
    go_wp2_with fail
    refine (awake10_any _ (hG'.out.gr g0.out)).mono ?_
    rintro e w2 ⟨rfl, hb⟩
    have g2 := Lib.hid (g0.out.trans hb)
    replace m0 := hb.cell m0
    replace m1 := hb.cell m1
    clear hb hG
    go_wp2
    go_ret
    exact ⟨rfl, g2.out⟩
  have hn1 : n.length ≤ 1000 := by omega
  have hv1 : v.length ≤ 1000 := by omega
  have hrs := Lib.hid (fun W => rreason_any c W)
  have hxl := reason_len c
  obtain ⟨x, hx⟩ : ∃ x, reasonL c = x := ⟨_, rfl⟩
  rw [hx] at hrs hxl
  clear hx
  have cs1 : (⟨#[72, 84, 84, 80, 47, 49, 46, 49, 32]⟩ : ByteArray) ++ ⟨x.toArray⟩ = ⟨([72, 84, 84, 80, 47, 49, 46, 49, 32] ++ x).toArray⟩ := cat_mk [72, 84, 84, 80, 47, 49, 46, 49, 32] x
  have zs1 : ¬ 9223372036854775807 < ([72, 84, 84, 80, 47, 49, 46, 49, 32] : List UInt8).length + (x : List UInt8).length := by (try simp only [List.length_cons, List.length_nil]); omega
  have ls1 : ([72, 84, 84, 80, 47, 49, 46, 49, 32] ++ x : List UInt8).length ≤ 100 := by simp only [List.length_append, List.length_cons, List.length_nil]; omega
  obtain ⟨s1, hs1⟩ : ∃ y, ([72, 84, 84, 80, 47, 49, 46, 49, 32] ++ x : List UInt8) = y := ⟨_, rfl⟩
  rw [hs1] at cs1 ls1
  try simp only [List.length_cons, List.length_nil, Nat.zero_add, Nat.reduceAdd] at zs1
  clear hs1
  have cs2 : (⟨s1.toArray⟩ : ByteArray) ++ ⟨#[13, 10, 13, 10]⟩ = ⟨(s1 ++ [13, 10, 13, 10]).toArray⟩ := cat_mk s1 [13, 10, 13, 10]
  have zs2 : ¬ 9223372036854775807 < (s1 : List UInt8).length + ([13, 10, 13, 10] : List UInt8).length := by (try simp only [List.length_cons, List.length_nil]); omega
  have ls2 : (s1 ++ [13, 10, 13, 10] : List UInt8).length ≤ 200 := by simp only [List.length_append, List.length_cons, List.length_nil]; omega
  obtain ⟨s2, hs2⟩ : ∃ y, (s1 ++ [13, 10, 13, 10] : List UInt8) = y := ⟨_, rfl⟩
  rw [hs2] at cs2 ls2
  try simp only [List.length_cons, List.length_nil, Nat.zero_add, Nat.reduceAdd] at zs2
  clear hs2
  have ct1 : (⟨#[72, 84, 84, 80, 47, 49, 46, 49, 32, 50, 48, 48, 32, 13, 10]⟩ : ByteArray) ++ ⟨n.toArray⟩ = ⟨([72, 84, 84, 80, 47, 49, 46, 49, 32, 50, 48, 48, 32, 13, 10] ++ n).toArray⟩ := cat_mk [72, 84, 84, 80, 47, 49, 46, 49, 32, 50, 48, 48, 32, 13, 10] n
  have zt1 : ¬ 9223372036854775807 < ([72, 84, 84, 80, 47, 49, 46, 49, 32, 50, 48, 48, 32, 13, 10] : List UInt8).length + (n : List UInt8).length := by (try simp only [List.length_cons, List.length_nil]); omega
  have lt1 : ([72, 84, 84, 80, 47, 49, 46, 49, 32, 50, 48, 48, 32, 13, 10] ++ n : List UInt8).length ≤ 1100 := by simp only [List.length_append, List.length_cons, List.length_nil]; omega
  obtain ⟨t1, ht1⟩ : ∃ y, ([72, 84, 84, 80, 47, 49, 46, 49, 32, 50, 48, 48, 32, 13, 10] ++ n : List UInt8) = y := ⟨_, rfl⟩
  rw [ht1] at ct1 lt1
  try simp only [List.length_cons, List.length_nil, Nat.zero_add, Nat.reduceAdd] at zt1
  clear ht1
  have ct2 : (⟨t1.toArray⟩ : ByteArray) ++ ⟨#[58]⟩ = ⟨(t1 ++ [58]).toArray⟩ := cat_mk t1 [58]
  have zt2 : ¬ 9223372036854775807 < (t1 : List UInt8).length + ([58] : List UInt8).length := by (try simp only [List.length_cons, List.length_nil]); omega
  have lt2 : (t1 ++ [58] : List UInt8).length ≤ 1200 := by simp only [List.length_append, List.length_cons, List.length_nil]; omega
  obtain ⟨t2, ht2⟩ : ∃ y, (t1 ++ [58] : List UInt8) = y := ⟨_, rfl⟩
  rw [ht2] at ct2 lt2
  try simp only [List.length_cons, List.length_nil, Nat.zero_add, Nat.reduceAdd] at zt2
  clear ht2
  have ct3 : (⟨t2.toArray⟩ : ByteArray) ++ ⟨v.toArray⟩ = ⟨(t2 ++ v).toArray⟩ := cat_mk t2 v
  have zt3 : ¬ 9223372036854775807 < (t2 : List UInt8).length + (v : List UInt8).length := by (try simp only [List.length_cons, List.length_nil]); omega
  have lt3 : (t2 ++ v : List UInt8).length ≤ 2300 := by simp only [List.length_append, List.length_cons, List.length_nil]; omega
  obtain ⟨t3, ht3⟩ : ∃ y, (t2 ++ v : List UInt8) = y := ⟨_, rfl⟩
  rw [ht3] at ct3 lt3
  try simp only [List.length_cons, List.length_nil, Nat.zero_add, Nat.reduceAdd] at zt3
  clear ht3
  have ct4 : (⟨t3.toArray⟩ : ByteArray) ++ ⟨#[13, 10, 67, 111, 110, 116, 101, 110, 116, 45, 76, 101, 110, 103, 116, 104, 58, 32, 49, 13, 10, 13, 10, 120]⟩ = ⟨(t3 ++ [13, 10, 67, 111, 110, 116, 101, 110, 116, 45, 76, 101, 110, 103, 116, 104, 58, 32, 49, 13, 10, 13, 10, 120]).toArray⟩ := cat_mk t3 [13, 10, 67, 111, 110, 116, 101, 110, 116, 45, 76, 101, 110, 103, 116, 104, 58, 32, 49, 13, 10, 13, 10, 120]
  have zt4 : ¬ 9223372036854775807 < (t3 : List UInt8).length + ([13, 10, 67, 111, 110, 116, 101, 110, 116, 45, 76, 101, 110, 103, 116, 104, 58, 32, 49, 13, 10, 13, 10, 120] : List UInt8).length := by (try simp only [List.length_cons, List.length_nil]); omega
  have lt4 : (t3 ++ [13, 10, 67, 111, 110, 116, 101, 110, 116, 45, 76, 101, 110, 103, 116, 104, 58, 32, 49, 13, 10, 13, 10, 120] : List UInt8).length ≤ 2400 := by simp only [List.length_append, List.length_cons, List.length_nil]; omega
  obtain ⟨t4, ht4⟩ : ∃ y, (t3 ++ [13, 10, 67, 111, 110, 116, 101, 110, 116, 45, 76, 101, 110, 103, 116, 104, 58, 32, 49, 13, 10, 13, 10, 120] : List UInt8) = y := ⟨_, rfl⟩
  rw [ht4] at ct4 lt4
  try simp only [List.length_cons, List.length_nil, Nat.zero_add, Nat.reduceAdd] at zt4
  clear ht4
  have cu1 : (⟨#[72, 84, 84, 80, 47, 49, 46, 49, 32, 49, 48, 49, 32, 13, 10]⟩ : ByteArray) ++ ⟨n.toArray⟩ = ⟨([72, 84, 84, 80, 47, 49, 46, 49, 32, 49, 48, 49, 32, 13, 10] ++ n).toArray⟩ := cat_mk [72, 84, 84, 80, 47, 49, 46, 49, 32, 49, 48, 49, 32, 13, 10] n
  have zu1 : ¬ 9223372036854775807 < ([72, 84, 84, 80, 47, 49, 46, 49, 32, 49, 48, 49, 32, 13, 10] : List UInt8).length + (n : List UInt8).length := by (try simp only [List.length_cons, List.length_nil]); omega
  have lu1 : ([72, 84, 84, 80, 47, 49, 46, 49, 32, 49, 48, 49, 32, 13, 10] ++ n : List UInt8).length ≤ 1100 := by simp only [List.length_append, List.length_cons, List.length_nil]; omega
  obtain ⟨u1, hu1⟩ : ∃ y, ([72, 84, 84, 80, 47, 49, 46, 49, 32, 49, 48, 49, 32, 13, 10] ++ n : List UInt8) = y := ⟨_, rfl⟩
  rw [hu1] at cu1 lu1
  try simp only [List.length_cons, List.length_nil, Nat.zero_add, Nat.reduceAdd] at zu1
  clear hu1
  have cu2 : (⟨u1.toArray⟩ : ByteArray) ++ ⟨#[58]⟩ = ⟨(u1 ++ [58]).toArray⟩ := cat_mk u1 [58]
  have zu2 : ¬ 9223372036854775807 < (u1 : List UInt8).length + ([58] : List UInt8).length := by (try simp only [List.length_cons, List.length_nil]); omega
  have lu2 : (u1 ++ [58] : List UInt8).length ≤ 1200 := by simp only [List.length_append, List.length_cons, List.length_nil]; omega
  obtain ⟨u2, hu2⟩ : ∃ y, (u1 ++ [58] : List UInt8) = y := ⟨_, rfl⟩
  rw [hu2] at cu2 lu2
  try simp only [List.length_cons, List.length_nil, Nat.zero_add, Nat.reduceAdd] at zu2
  clear hu2
  have cu3 : (⟨u2.toArray⟩ : ByteArray) ++ ⟨v.toArray⟩ = ⟨(u2 ++ v).toArray⟩ := cat_mk u2 v
  have zu3 : ¬ 9223372036854775807 < (u2 : List UInt8).length + (v : List UInt8).length := by (try simp only [List.length_cons, List.length_nil]); omega
  have lu3 : (u2 ++ v : List UInt8).length ≤ 2300 := by simp only [List.length_append, List.length_cons, List.length_nil]; omega
  obtain ⟨u3, hu3⟩ : ∃ y, (u2 ++ v : List UInt8) = y := ⟨_, rfl⟩
  rw [hu3] at cu3 lu3
  try simp only [List.length_cons, List.length_nil, Nat.zero_add, Nat.reduceAdd] at zu3
  clear hu3
  have cu4 : (⟨u3.toArray⟩ : ByteArray) ++ ⟨#[13, 10, 13, 10]⟩ = ⟨(u3 ++ [13, 10, 13, 10]).toArray⟩ := cat_mk u3 [13, 10, 13, 10]
  have zu4 : ¬ 9223372036854775807 < (u3 : List UInt8).length + ([13, 10, 13, 10] : List UInt8).length := by (try simp only [List.length_cons, List.length_nil]); omega
  have lu4 : (u3 ++ [13, 10, 13, 10] : List UInt8).length ≤ 2400 := by simp only [List.length_append, List.length_cons, List.length_nil]; omega
  obtain ⟨u4, hu4⟩ : ∃ y, (u3 ++ [13, 10, 13, 10] : List UInt8) = y := ⟨_, rfl⟩
  rw [hu4] at cu4 lu4
  try simp only [List.length_cons, List.length_nil, Nat.zero_add, Nat.reduceAdd] at zu4
  clear hu4
  have q1 := Lib.hid (fun W (hg : Gr w W) => reads10_any s2 false W (hG'.out.gr hg) (by omega))
  have q2 := Lib.hid (fun W (hg : Gr w W) => reads10_any t4 false W (hG'.out.gr hg) (by omega))
  have q3 := Lib.hid (fun W (hg : Gr w W) => reads10_any u4 false W (hG'.out.gr hg) (by omega))
  have hls : ∀ f ∈ [(n, v)], f.1.length ≤ 9223372036854775807 ∧ f.2.length ≤ 9223372036854775807 := fun f hf => by
    rw [List.mem_singleton] at hf; subst hf; exact ⟨hn, hv⟩
  have p1 := Lib.hid (fun (hd cl : Bool) (N : Nat) W (hg : Gr w W) (hf : FieldsAt W (.slice (some ⟨N, 0, none⟩) 1 1) [(n, v)]) => (show Calls Tryz.prog 3 #[.agg #[.int .i64 c, .slice (some ⟨N, 0, none⟩) 1 1, .string ⟨#[]⟩], .bool hd, .bool cl] W fun e w' => e = .returned (.bool true) ∧ Gr W w' from
    writes10_any ⟨c, [(n, v)], []⟩ _ hd cl W (hG'.out.gr hg) hf (by simp) (by simp) hls hcr))
  have p2 := Lib.hid (fun (hd cl : Bool) (N : Nat) W (hg : Gr w W) (hf : FieldsAt W (.slice (some ⟨N, 0, none⟩) 1 1) [(n, v)]) => (show Calls Tryz.prog 3 #[.agg #[.int .i64 c, .slice (some ⟨N, 0, none⟩) 1 1, .string ⟨#[120]⟩], .bool hd, .bool cl] W fun e w' => e = .returned (.bool true) ∧ Gr W w' from
    writes10_any ⟨c, [(n, v)], [120]⟩ _ hd cl W (hG'.out.gr hg) hf (by simp) (by simp) hls hcr))
  clear hls hcr hn hv hG ls1 ls2 lt1 lt2 lt3 lt4 lu1 lu2 lu3 lu4
  go_enter Tryz.func5, Tryz.ntmps5
  go_upto_region 1 with (fail)
  generalize (w.alloc (.cells #[.string ⟨n.toArray⟩, .string ⟨v.toArray⟩] 41)) = w1 at g0 m0 m1 ⊢
  go_wp2_with fail
  refine (awake10_any _ (hG'.out.gr g0.out)).mono ?_
  rintro e w2 ⟨rfl, hb⟩
  have g2 := Lib.hid (g0.out.trans hb)
  replace m0 := hb.cell m0
  replace m1 := hb.cell m1
  clear hb
  go_upto_region 8 with (fail)
  have a0 : (((w2.alloc (.cells #[.string ⟨n.toArray⟩, .string ⟨v.toArray⟩] 41)).alloc (.cells #[.int .i64 c, .slice (some ⟨w2.heap.size, 0, none⟩) 1 1, .string ⟨#[]⟩] 24)).alloc (.cells #[.int .i64 c, .slice (some ⟨w2.heap.size, 0, none⟩) 1 1, .string ⟨#[120]⟩] 24)).cell? ⟨w2.heap.size + 1, 0, none⟩ = some (.int .i64 c) := by simp [go_sem]
  have a1 : (((w2.alloc (.cells #[.string ⟨n.toArray⟩, .string ⟨v.toArray⟩] 41)).alloc (.cells #[.int .i64 c, .slice (some ⟨w2.heap.size, 0, none⟩) 1 1, .string ⟨#[]⟩] 24)).alloc (.cells #[.int .i64 c, .slice (some ⟨w2.heap.size, 0, none⟩) 1 1, .string ⟨#[120]⟩] 24)).cell? ⟨w2.heap.size + 1, 1, none⟩ = some (.slice (some ⟨w2.heap.size, 0, none⟩) 1 1) := by simp [go_sem]
  have a2 : (((w2.alloc (.cells #[.string ⟨n.toArray⟩, .string ⟨v.toArray⟩] 41)).alloc (.cells #[.int .i64 c, .slice (some ⟨w2.heap.size, 0, none⟩) 1 1, .string ⟨#[]⟩] 24)).alloc (.cells #[.int .i64 c, .slice (some ⟨w2.heap.size, 0, none⟩) 1 1, .string ⟨#[120]⟩] 24)).cell? ⟨w2.heap.size + 1, 2, none⟩ = some (.string ⟨#[]⟩) := by simp [go_sem]
  have b0 : (((w2.alloc (.cells #[.string ⟨n.toArray⟩, .string ⟨v.toArray⟩] 41)).alloc (.cells #[.int .i64 c, .slice (some ⟨w2.heap.size, 0, none⟩) 1 1, .string ⟨#[]⟩] 24)).alloc (.cells #[.int .i64 c, .slice (some ⟨w2.heap.size, 0, none⟩) 1 1, .string ⟨#[120]⟩] 24)).cell? ⟨w2.heap.size + 1 + 1, 0, none⟩ = some (.int .i64 c) := by simp [go_sem]
  have b1 : (((w2.alloc (.cells #[.string ⟨n.toArray⟩, .string ⟨v.toArray⟩] 41)).alloc (.cells #[.int .i64 c, .slice (some ⟨w2.heap.size, 0, none⟩) 1 1, .string ⟨#[]⟩] 24)).alloc (.cells #[.int .i64 c, .slice (some ⟨w2.heap.size, 0, none⟩) 1 1, .string ⟨#[120]⟩] 24)).cell? ⟨w2.heap.size + 1 + 1, 1, none⟩ = some (.slice (some ⟨w2.heap.size, 0, none⟩) 1 1) := by simp [go_sem]
  have b2 : (((w2.alloc (.cells #[.string ⟨n.toArray⟩, .string ⟨v.toArray⟩] 41)).alloc (.cells #[.int .i64 c, .slice (some ⟨w2.heap.size, 0, none⟩) 1 1, .string ⟨#[]⟩] 24)).alloc (.cells #[.int .i64 c, .slice (some ⟨w2.heap.size, 0, none⟩) 1 1, .string ⟨#[120]⟩] 24)).cell? ⟨w2.heap.size + 1 + 1, 2, none⟩ = some (.string ⟨#[120]⟩) := by simp [go_sem]
  have e0 : (((w2.alloc (.cells #[.string ⟨n.toArray⟩, .string ⟨v.toArray⟩] 41)).alloc (.cells #[.int .i64 c, .slice (some ⟨w2.heap.size, 0, none⟩) 1 1, .string ⟨#[]⟩] 24)).alloc (.cells #[.int .i64 c, .slice (some ⟨w2.heap.size, 0, none⟩) 1 1, .string ⟨#[120]⟩] 24)).cell? ⟨w2.heap.size, 0, none⟩ = some (.string ⟨n.toArray⟩) := by simp [go_sem]
  have e1 : (((w2.alloc (.cells #[.string ⟨n.toArray⟩, .string ⟨v.toArray⟩] 41)).alloc (.cells #[.int .i64 c, .slice (some ⟨w2.heap.size, 0, none⟩) 1 1, .string ⟨#[]⟩] 24)).alloc (.cells #[.int .i64 c, .slice (some ⟨w2.heap.size, 0, none⟩) 1 1, .string ⟨#[120]⟩] 24)).cell? ⟨w2.heap.size, 1, none⟩ = some (.string ⟨v.toArray⟩) := by simp [go_sem]
  have gg : Gr w2 (((w2.alloc (.cells #[.string ⟨n.toArray⟩, .string ⟨v.toArray⟩] 41)).alloc (.cells #[.int .i64 c, .slice (some ⟨w2.heap.size, 0, none⟩) 1 1, .string ⟨#[]⟩] 24)).alloc (.cells #[.int .i64 c, .slice (some ⟨w2.heap.size, 0, none⟩) 1 1, .string ⟨#[120]⟩] 24)) := ((Gr.alloc _ _).alloc1 _).alloc1 _
  generalize (((w2.alloc (.cells #[.string ⟨n.toArray⟩, .string ⟨v.toArray⟩] 41)).alloc (.cells #[.int .i64 c, .slice (some ⟨w2.heap.size, 0, none⟩) 1 1, .string ⟨#[]⟩] 24)).alloc (.cells #[.int .i64 c, .slice (some ⟨w2.heap.size, 0, none⟩) 1 1, .string ⟨#[120]⟩] 24)) = w3 at a0 a1 a2 b0 b1 b2 e0 e1 gg ⊢
  have hF := Lib.hid (show FieldsAt w3 (.slice (some ⟨w2.heap.size, 0, none⟩) 1 1) [(n, v)] from ⟨_, 1, rfl, fun i hi => by
    obtain rfl : i = 0 := by simp at hi; omega
    exact ⟨w2.heap.size, 0, rfl, e0, e1⟩⟩)
  replace m0 := gg.cell m0
  replace m1 := gg.cell m1
  have g3 := Lib.hid (g2.out.trans gg)
  clear gg e0 e1
  go_wp2_with fail
  refine (p1.out false false _ _ g3.out hF.out).mono ?_
  rintro e w4 ⟨rfl, hb⟩
  replace m0 := hb.cell m0
  replace m1 := hb.cell m1
  replace a0 := hb.cell a0
  replace a1 := hb.cell a1
  replace a2 := hb.cell a2
  replace b0 := hb.cell b0
  replace b1 := hb.cell b1
  replace b2 := hb.cell b2
  have g4 := Lib.hid (g3.out.trans hb)
  have hF4 := Lib.hid (hF.out.gr hb)
  clear hb
  go_wp2_with fail
  refine (p1.out false true _ _ g4.out hF4.out).mono ?_
  rintro e w5 ⟨rfl, hb⟩
  replace m0 := hb.cell m0
  replace m1 := hb.cell m1
  replace a0 := hb.cell a0
  replace a1 := hb.cell a1
  replace a2 := hb.cell a2
  replace b0 := hb.cell b0
  replace b1 := hb.cell b1
  replace b2 := hb.cell b2
  have g5 := Lib.hid (g4.out.trans hb)
  have hF5 := Lib.hid (hF4.out.gr hb)
  clear hb
  go_wp2_with fail
  refine (p2.out true true _ _ g5.out hF5.out).mono ?_
  rintro e w6 ⟨rfl, hb⟩
  replace m0 := hb.cell m0
  replace m1 := hb.cell m1
  replace a0 := hb.cell a0
  replace a1 := hb.cell a1
  replace a2 := hb.cell a2
  replace b0 := hb.cell b0
  replace b1 := hb.cell b1
  replace b2 := hb.cell b2
  have g6 := Lib.hid (g5.out.trans hb)
  have hF6 := Lib.hid (hF5.out.gr hb)
  clear hb
  go_wp2_with fail
  refine (hrs.out _).mono ?_
  rintro e w7 ⟨rfl, hb⟩
  replace m0 := hb.cell m0
  replace m1 := hb.cell m1
  replace a0 := hb.cell a0
  replace a1 := hb.cell a1
  replace a2 := hb.cell a2
  replace b0 := hb.cell b0
  replace b1 := hb.cell b1
  replace b2 := hb.cell b2
  have g7 := Lib.hid (g6.out.trans hb)
  have hF7 := Lib.hid (hF6.out.gr hb)
  clear hb
  go_wp2_with fail
  refine (q1.out _ g7.out).mono ?_
  rintro e w8 ⟨rfl, hb⟩
  replace m0 := hb.cell m0
  replace m1 := hb.cell m1
  replace a0 := hb.cell a0
  replace a1 := hb.cell a1
  replace a2 := hb.cell a2
  replace b0 := hb.cell b0
  replace b1 := hb.cell b1
  replace b2 := hb.cell b2
  have g8 := Lib.hid (g7.out.trans hb)
  have hF8 := Lib.hid (hF7.out.gr hb)
  clear hb
  go_wp2_with fail
  refine (q2.out _ g8.out).mono ?_
  rintro e w9 ⟨rfl, hb⟩
  replace m0 := hb.cell m0
  replace m1 := hb.cell m1
  replace a0 := hb.cell a0
  replace a1 := hb.cell a1
  replace a2 := hb.cell a2
  replace b0 := hb.cell b0
  replace b1 := hb.cell b1
  replace b2 := hb.cell b2
  have g9 := Lib.hid (g8.out.trans hb)
  have hF9 := Lib.hid (hF8.out.gr hb)
  clear hb
  go_wp2_with fail
  refine (q3.out _ g9.out).mono ?_
  rintro e w10 ⟨rfl, hb⟩
  replace m0 := hb.cell m0
  replace m1 := hb.cell m1
  replace a0 := hb.cell a0
  replace a1 := hb.cell a1
  replace a2 := hb.cell a2
  replace b0 := hb.cell b0
  replace b1 := hb.cell b1
  replace b2 := hb.cell b2
  have g10 := Lib.hid (g9.out.trans hb)
  have hF10 := Lib.hid (hF9.out.gr hb)
  clear hb
  go_wp2
  go_ret
  exact ⟨rfl, g10.out⟩
end Go.Proofs.YtfcokldbpjkjpaaGreatDoor
