/-
  Replies: Read.
-/
import Derived.Test.YtfcokldbpjkjpaaGreatDoorVi
namespace Go.Proofs.YtfcokldbpjkjpaaGreatDoor
open Go.RowKit
attribute [local go_sem] Oper.semAt_some

def rdR (x : Rd10) : Rp := match x with
  | .good r _ _ => r
  | .bad _ => ⟨0, [], []⟩
def rdC (x : Rd10) : Bool := match x with
  | .good _ c _ => c
  | .bad _ => false
def rdN (x : Rd10) : Nat := match x with
  | .good _ _ n => n
  | .bad _ => 0
def rdE (x : Rd10) : Nat := match x with
  | .good _ _ _ => 0
  | .bad e => e
def rdV (x : Rd10) (v : Value) : Value := .tuple #[(rdR x).V v, .bool (rdC x), .int .i64 (rdN x), .int .i64 (rdE x)]
/-- What Read says. -/
def ReadPost (x : Rd10) (w : World) (e : Ending) (w' : World) : Prop := ∃ v, e = .returned (rdV x v) ∧ FieldsAt w' v (rdR x).fs ∧ Gr w w'
theorem readPost_bad (n : Nat) (z : Int) (hz : z = n) {x : Rd10} (hx : x = .bad n) {w w' : World} (h : Gr w w') : ReadPost x w (.returned (.tuple #[.agg #[.int .i64 0, .slice none 0 0, .string ⟨#[]⟩], .bool false, .int .i64 0, .int .i64 z])) w' := by
  subst hz hx
  exact ⟨.slice none 0 0, rfl, fieldsAt_none _ _, h⟩
theorem readPost_good {r : Rp} {cl : Bool} {n : Nat} {w w' : World} {v : Value} (hf : FieldsAt w' v r.fs) (h : Gr w w') : ReadPost (.good r cl n) w (.returned (.tuple #[.agg #[.int .i64 r.code, v, .string ⟨r.b.toArray⟩], .bool cl, .int .i64 n, .int .i64 0])) w' :=
  ⟨v, rfl, hf, h⟩
theorem index_any (l sub : List UInt8) (w : World) (hG : G w) (hl : l.length < 4294967281) :
    Calls Tryz.prog 33 #[.string ⟨l.toArray⟩, .string ⟨sub.toArray⟩] w fun e w' => e = .returned (.int .i64 (Lib.index l sub)) ∧ w' = w := by
  obtain ⟨m, hm⟩ := hG.max
  exact Tryz.strings_Index ⟨l.toArray⟩ ⟨sub.toArray⟩ m w (by rw [size_mk]; exact hl) hm
theorem splitE_count (s : List UInt8) : Lib.splitK eolL 0 (Lib.count s eolL) s = splitE s := split_eq s
theorem split_any (l : List UInt8) (w : World) (hG : G w) (hl : l.length < 4294967281) :
    Calls Tryz.prog 35 #[.string ⟨l.toArray⟩, .string ⟨#[13, 10]⟩] w fun e w' => (∃ v, e = .returned v ∧ TextsAt w' v (splitE l)) ∧ Gr w w' := by
  obtain ⟨m, hm⟩ := hG.max
  refine (Tryz.strings_Split ⟨l.toArray⟩ ⟨#[13, 10]⟩ m w (by rw [size_mk]; exact hl) hm (by decide)).mono ?_
  rintro e w' ⟨rfl, rfl⟩
  have hd := Lib.splitB_data ⟨#[13, 10]⟩ 0 (Lib.countB ⟨l.toArray⟩ ⟨#[13, 10]⟩) ⟨l.toArray⟩
  have hlen := Lib.splitB_all ⟨#[13, 10]⟩ (by decide) 0 _ ⟨l.toArray⟩ rfl
  have e2 : (Lib.splitB ⟨#[13, 10]⟩ 0 (Lib.countB ⟨l.toArray⟩ ⟨#[13, 10]⟩) ⟨l.toArray⟩).map (·.data.toList) = splitE l := hd.trans (splitE_count l)
  obtain ⟨L, hL⟩ : ∃ L, Lib.splitB ⟨#[13, 10]⟩ 0 (Lib.countB ⟨l.toArray⟩ ⟨#[13, 10]⟩) ⟨l.toArray⟩ = L := ⟨_, rfl⟩
  rw [hL] at e2 hlen ⊢
  rw [← hlen]
  refine ⟨⟨_, rfl, some ⟨w.heap.size, 0, none⟩, L.length, by rw [← e2, List.length_map], by rw [← e2, List.length_map]; exact Nat.le_refl _, fun i hi => ⟨w.heap.size, 0, rfl, ?_⟩⟩, Gr.alloc _ _⟩
  rw [Nat.zero_add]
  have hi2 : i < L.length := by rw [← e2, List.length_map] at hi; exact hi
  refine cell_new7 w (L.map Value.string) _ i _ ?_
  have e3 : (splitE l)[i] = L[i].data.toList := by simp [← e2]
  rw [e3]
  simp [hi2]
theorem splitE_len : ∀ (n : Nat) (s : List UInt8), s.length ≤ n → (splitE s).length ≤ s.length + 1 ∧ ∀ l ∈ splitE s, l.length ≤ s.length
  | 0, s, h => by
    obtain rfl : s = [] := List.eq_nil_of_length_eq_zero (by omega)
    simp [splitE]
  | n + 1, [], h => by simp [splitE]
  | n + 1, c :: t, h => by
    rw [List.length_cons] at h
    by_cases hc : c = 13 ∧ t.head? = some 10
    · obtain ⟨rfl, h2⟩ := hc
      cases t with
      | nil => simp at h2
      | cons d t =>
        simp at h2; subst h2
        rw [List.length_cons] at h
        obtain ⟨h1, h2⟩ := splitE_len n t (by omega)
        rw [splitE_eol]
        refine ⟨by simp; omega, fun l hl => ?_⟩
        rcases List.mem_cons.1 hl with rfl | hl
        · simp
        · have := h2 l hl; simp; omega
    · obtain ⟨h1, h2⟩ := splitE_len n t (by omega)
      rw [splitE_other hc]
      have hne := splitE_ne t
      obtain ⟨a, b, hab⟩ : ∃ a b, splitE t = a :: b := by
        cases e : splitE t with
        | nil => exact absurd e hne
        | cons a b => exact ⟨a, b, rfl⟩
      rw [hab] at h1 h2 ⊢
      simp only [List.headD_cons, List.tail_cons, List.length_cons] at h1 ⊢
      refine ⟨by omega, fun l hl => ?_⟩
      rcases List.mem_cons.1 hl with rfl | hl
      · have := h2 a (by simp); simp; omega
      · have := h2 l (by simp [hl]); omega
theorem FieldsAt.put' {W : World} {pv : Option Addr} {n cap : Nat} {fs : List Fl} (h : FieldsAt W (.slice pv n cap) fs) {b : Nat} (hb : ∀ p : Addr, pv = some p → p.block ≠ b) (o : Nat) (u : Value) : FieldsAt (W.setCell ⟨b, o, none⟩ u) (.slice pv n cap) fs := by
  cases pv with
  | none =>
    obtain ⟨p9, c9, e9, hc9⟩ := h
    injection e9 with e9 e10 _
    refine ⟨none, cap, by rw [e10], fun i hi => ?_⟩
    obtain ⟨b9, o9, e8, _⟩ := hc9 i hi
    rw [← e9] at e8; cases e8
  | some p => exact h.put (hb p rfl) u
/-- The ways of Read. -/
theorem readR_none {s : List UInt8} {head : Bool} (h : Lib.index s eol2 = -1) : readR s head = if s.length < 65536 then .bad 7 else .bad 8 := by
  unfold readR; rw [if_pos h]
theorem readR_at {s : List UInt8} {head : Bool} {i : Nat} (h : Lib.index s eol2 = i) : readR s head = match partsR (splitE (s.take i)) with
    | none => .bad 8
    | some (c, fs, close, n) => if s.length < i + 4 + (if head then 0 else n.getD 0) then .bad 7 else .good ⟨c, fs, (s.drop (i + 4)).take (if head then 0 else n.getD 0)⟩ close (i + 4 + (if head then 0 else n.getD 0)) := by
  unfold readR; rw [h, if_neg (by omega), Int.toNat_natCast]; rfl
set_option maxHeartbeats 8000000 in
set_option maxRecDepth 100000 in
theorem read_any (s : List UInt8) (head : Bool) (w : World) (hG : G w) (hl : s.length ≤ 800000) :
    Calls Tryz.prog 18 #[.string ⟨s.toArray⟩, .bool head] w (ReadPost (readR s head) w) := by
  have hG' := Lib.hid hG
  have hi := Lib.hid (fun W hGW => index_any s eol2 W hGW (by omega))
  have hl2 : ¬ 9223372036854775807 < s.length := by omega
  go_enter Tryz.func18, Tryz.ntmps18
  have g0 := Gr.alloc w (.cells #[.int .i64 0, .slice none 0 0, .string ⟨#[]⟩] 24)
  have c0 : (w.alloc (.cells #[.int .i64 0, .slice none 0 0, .string ⟨#[]⟩] 24)).cell? ⟨w.heap.size, 0, none⟩ = some (.int .i64 0) := by simp [go_sem]
  have c1 : (w.alloc (.cells #[.int .i64 0, .slice none 0 0, .string ⟨#[]⟩] 24)).cell? ⟨w.heap.size, 1, none⟩ = some (.slice none 0 0) := by simp [go_sem]
  have c2 : (w.alloc (.cells #[.int .i64 0, .slice none 0 0, .string ⟨#[]⟩] 24)).cell? ⟨w.heap.size, 2, none⟩ = some (.string ⟨#[]⟩) := by simp [go_sem]
  have f0 : ∀ o, (w.alloc (.cells #[.int .i64 0, .slice none 0 0, .string ⟨#[]⟩] 24)).frozen? ⟨w.heap.size, o, none⟩ = false := fun o => by simp [go_sem]
  have hz : w.heap.size < (w.alloc (.cells #[.int .i64 0, .slice none 0 0, .string ⟨#[]⟩] 24)).heap.size := by simp
  go_upto_region 1 with (fail)
  generalize w.alloc (.cells #[.int .i64 0, .slice none 0 0, .string ⟨#[]⟩] 24) = w1 at g0 c0 c1 c2 f0 hz ⊢
  have g0' := Lib.hid g0
  clear g0 hG
  go_wp2_with fail
  refine (hi.out _ (hG'.out.gr g0'.out)).mono ?_
  rintro e w' ⟨rfl, rfl⟩
  rcases Lib.index_spec s eol2 with ⟨hix, _⟩ | ⟨i, hix, _, _, _⟩
  · rw [hix]
    have hR := readR_none (head := head) hix
    clear hix
    by_cases h6 : s.length < 65536
    · rw [if_pos h6] at hR
      have h6I : (s.length : Int) < 65536 := by omega
      have hfin := Lib.hid (readPost_bad 7 7 rfl hR (((g0'.out.setCell (p := ⟨w.heap.size, 0, none⟩) (Nat.le_refl _) (.int .i64 0)).setCell (p := ⟨w.heap.size, 1, none⟩) (Nat.le_refl _) (.slice none 0 0)).setCell (p := ⟨w.heap.size, 2, none⟩) (Nat.le_refl _) (.string ⟨#[]⟩)))
      clear hR h6
      go_wp2
      refine bodyPost_ret (v := .tuple #[.agg #[.int .i64 0, .slice none 0 0, .string ⟨#[]⟩], .bool false, .int .i64 0, .int .i64 7]) ?_ rfl hfin.out
      simp [results, Tryz.results18, go_sem, c0, c1, c2]
    · rw [if_neg h6] at hR
      have h6I : decide ((s.length : Int) < 65536) = false := decide_eq_false (by omega)
      have hfin := Lib.hid (readPost_bad 8 8 rfl hR (((g0'.out.setCell (p := ⟨w.heap.size, 0, none⟩) (Nat.le_refl _) (.int .i64 0)).setCell (p := ⟨w.heap.size, 1, none⟩) (Nat.le_refl _) (.slice none 0 0)).setCell (p := ⟨w.heap.size, 2, none⟩) (Nat.le_refl _) (.string ⟨#[]⟩)))
      clear hR h6
      go_wp2
      refine bodyPost_ret (v := .tuple #[.agg #[.int .i64 0, .slice none 0 0, .string ⟨#[]⟩], .bool false, .int .i64 0, .int .i64 8]) ?_ rfl hfin.out
      simp [results, Tryz.results18, go_sem, c0, c1, c2]
  · rw [hix]
    have hroom := Lib.index_room s eol2 (by rw [hix]; omega)
    rw [hix] at hroom
    have hroom2 : i + 4 ≤ s.length := by have : eol2.length = 4 := rfl; omega
    have hR0 := readR_at (head := head) hix
    clear hix hroom
    have hi0 : ¬ (i : Int) < 0 := by omega
    have hsp := Lib.hid (fun W hGW => split_any (s.take i) W hGW (by rw [List.length_take]; omega))
    obtain ⟨z1, z2⟩ := splitE_len _ (s.take i) (Nat.le_refl _)
    rw [List.length_take] at z1 z2
    obtain ⟨l0, tl, hls⟩ : ∃ a b, splitE (s.take i) = a :: b := by
      cases e : splitE (s.take i) with
      | nil => exact absurd e (splitE_ne _)
      | cons a b => exact ⟨a, b, rfl⟩
    rw [hls] at hsp hR0 z1 z2
    have hR := Lib.hid hR0
    clear hR0
    have hpa := Lib.hid (fun t W hGW hT => parts_any l0 tl t W hGW hT (by simp at z1; omega) (fun l hl => by have := z2 l hl; omega))
    have hpq := Lib.hid (progP_eq (l0 :: tl))
    have hex : (⟨s.toArray⟩ : ByteArray).extract 0 i = ⟨(s.take i).toArray⟩ := by rw [extract_mk]; simp
    have hiI : (i : Int) ≤ s.length := by omega
    clear hls z1 z2
    go_wp2_with fail
    refine (hsp.out _ (hG'.out.gr g0'.out)).mono ?_
    rintro e w2 ⟨⟨tv, rfl, hT⟩, hb⟩
    have hT' := Lib.hid hT
    replace c0 := hb.cell c0
    replace c1 := hb.cell c1
    replace c2 := hb.cell c2
    replace f0 := fun o => (Below.frozen hb (show (⟨w.heap.size, o, none⟩ : Addr).block < w'.heap.size from hz)).trans (f0 o)
    replace hz := Nat.lt_of_lt_of_le hz (Below.size hb)
    have g2' := Lib.hid (g0'.out.trans hb)
    clear hb hT hex
    go_wp2_with fail
    refine (hpa.out tv _ (hG'.out.gr g2'.out) hT'.out).mono ?_
    rintro e w3 ⟨v, rfl, hF, hb⟩
    replace c0 := hb.cell c0
    replace c1 := hb.cell c1
    replace c2 := hb.cell c2
    replace f0 := fun o => (Below.frozen hb (show (⟨w.heap.size, o, none⟩ : Addr).block < w2.heap.size from hz)).trans (f0 o)
    replace hz := Nat.lt_of_lt_of_le hz (Below.size hb)
    have g3' := Lib.hid (g2'.out.trans hb)
    clear hb
    obtain ⟨⟨c, st⟩, hpp⟩ : ∃ x, progP (l0 :: tl) = x := ⟨_, rfl⟩
    obtain ⟨okb, hok⟩ : ∃ x, progOk (l0 :: tl) = x := ⟨_, rfl⟩
    have hpq2 := hpq.out
    rw [hpp, hok] at hpq2
    rw [hpp] at hF
    rw [hpp, hok]
    obtain ⟨fs, cl, n, ok⟩ := st
    obtain ⟨pv, capv, rfl, _⟩ := hF.at
    have hnb : ∀ p : Addr, pv = some p → p.block ≠ w.heap.size := fun p e => by
      subst e
      have := (World.ownsRow.lt hF p.block rfl).1
      have := Below.size g2'.out
      omega
    have hF' := Lib.hid hF.at
    clear hF hpq hok hpp
    unfold Rp.V
    dsimp only at hF' ⊢
    have k0 : (((w3.setCell ⟨w.heap.size, 0, none⟩ (.int .i64 c)).setCell ⟨w.heap.size, 1, none⟩ (.slice pv fs.length capv)).setCell ⟨w.heap.size, 2, none⟩ (.string ⟨#[]⟩)).cell? ⟨w.heap.size, 0, none⟩ = some (.int .i64 c) := by simp [go_sem, c0]
    have k1 : (((w3.setCell ⟨w.heap.size, 0, none⟩ (.int .i64 c)).setCell ⟨w.heap.size, 1, none⟩ (.slice pv fs.length capv)).setCell ⟨w.heap.size, 2, none⟩ (.string ⟨#[]⟩)).cell? ⟨w.heap.size, 1, none⟩ = some (.slice pv fs.length capv) := by simp [go_sem, c1]
    have k2 : (((w3.setCell ⟨w.heap.size, 0, none⟩ (.int .i64 c)).setCell ⟨w.heap.size, 1, none⟩ (.slice pv fs.length capv)).setCell ⟨w.heap.size, 2, none⟩ (.string ⟨#[]⟩)).cell? ⟨w.heap.size, 2, none⟩ = some (.string ⟨#[]⟩) := by simp [go_sem, c2]
    have f1 : ∀ o, (((w3.setCell ⟨w.heap.size, 0, none⟩ (.int .i64 c)).setCell ⟨w.heap.size, 1, none⟩ (.slice pv fs.length capv)).setCell ⟨w.heap.size, 2, none⟩ (.string ⟨#[]⟩)).frozen? ⟨w.heap.size, o, none⟩ = false := fun o => by simp [go_sem, f0]
    have g4 : Gr w (((w3.setCell ⟨w.heap.size, 0, none⟩ (.int .i64 c)).setCell ⟨w.heap.size, 1, none⟩ (.slice pv fs.length capv)).setCell ⟨w.heap.size, 2, none⟩ (.string ⟨#[]⟩)) := ((g3'.out.setCell (Nat.le_refl _) _).setCell (Nat.le_refl _) _).setCell (Nat.le_refl _) _
    have hF4 : FieldsAt (((w3.setCell ⟨w.heap.size, 0, none⟩ (.int .i64 c)).setCell ⟨w.heap.size, 1, none⟩ (.slice pv fs.length capv)).setCell ⟨w.heap.size, 2, none⟩ (.string ⟨#[]⟩)) (.slice pv fs.length capv) fs := by
      exact ((hF'.out.put' hnb 0 _).put' hnb 1 _).put' hnb 2 _
    go_upto_region 7 with (fail)
    generalize (((w3.setCell ⟨w.heap.size, 0, none⟩ (.int .i64 c)).setCell ⟨w.heap.size, 1, none⟩ (.slice pv fs.length capv)).setCell ⟨w.heap.size, 2, none⟩ (.string ⟨#[]⟩)) = w4 at k0 k1 k2 f1 g4 hF4 ⊢
    have g4' := Lib.hid g4
    have hF4' := Lib.hid hF4
    clear g4 hF4 c0 c1 c2 f0 hz
    cases okb with
    | false =>
      have hR8 : readR s head = .bad 8 := by
        rw [hR.out]
        revert hpq2
        cases partsR (l0 :: tl) with
        | none => intro _; rfl
        | some y => intro h; exact absurd h.2 (by decide)
      have hfin := Lib.hid (readPost_bad 8 8 rfl hR8 (((g4'.out.setCell (p := ⟨w.heap.size, 0, none⟩) (Nat.le_refl _) (.int .i64 0)).setCell (p := ⟨w.heap.size, 1, none⟩) (Nat.le_refl _) (.slice none 0 0)).setCell (p := ⟨w.heap.size, 2, none⟩) (Nat.le_refl _) (.string ⟨#[]⟩)))
      clear hR hR8 hpq2
      go_wp2
      refine bodyPost_ret (v := .tuple #[.agg #[.int .i64 0, .slice none 0 0, .string ⟨#[]⟩], .bool false, .int .i64 0, .int .i64 8]) ?_ rfl hfin.out
      simp [results, Tryz.results18, go_sem, k0, k1, k2]
    | true =>
      obtain ⟨o, hn, hR9⟩ : ∃ o : Option Nat, n = sizeZ o ∧ readR s head = if s.length < i + 4 + (if head then 0 else o.getD 0) then .bad 7 else .good ⟨c, fs, (s.drop (i + 4)).take (if head then 0 else o.getD 0)⟩ cl (i + 4 + (if head then 0 else o.getD 0)) := by
        rw [hR.out]
        revert hpq2
        cases partsR (l0 :: tl) with
        | none => intro h; cases h
        | some y =>
          obtain ⟨c2, fs2, cl2, o⟩ := y
          intro h
          have h := h.1
          simp only [Prod.mk.injEq, PSt.mk.injEq] at h
          obtain ⟨rfl, rfl, rfl, rfl, _⟩ := h
          exact ⟨o, rfl, rfl⟩
      clear hR hpq2
      have hways : (head = true ∧ (if head then 0 else o.getD 0) = 0) ∨ (head = false ∧ n < 0 ∧ (if head then 0 else o.getD 0) = 0) ∨ (head = false ∧ ∃ m : Nat, ¬ (m : Int) < 0 ∧ n = m ∧ (if head then 0 else o.getD 0) = m) := by
        cases head
        · right
          cases o with
          | none => left; exact ⟨rfl, by rw [hn]; decide, rfl⟩
          | some m => right; exact ⟨rfl, m, by omega, hn, rfl⟩
        · left; exact ⟨rfl, rfl⟩
      obtain ⟨K, hK⟩ : ∃ K, (if head then 0 else o.getD 0) = K := ⟨_, rfl⟩
      rw [hK] at hR9 hways
      have hR9' := Lib.hid hR9
      clear hR9 hn hK
      have hiS : (i : Int) + 4 ≤ s.length := by omega
      have hiS2 : i + 4 ≤ 800000 := by omega
      have hb7 : s.length < i + 4 + K → ReadPost (readR s head) w (.returned (.tuple #[.agg #[.int .i64 0, .slice none 0 0, .string ⟨#[]⟩], .bool false, .int .i64 0, .int .i64 7])) (((w4.setCell ⟨w.heap.size, 0, none⟩ (.int .i64 0)).setCell ⟨w.heap.size, 1, none⟩ (.slice none 0 0)).setCell ⟨w.heap.size, 2, none⟩ (.string ⟨#[]⟩)) := fun h =>
        readPost_bad 7 7 rfl (by rw [hR9'.out, if_pos h]) (((g4'.out.setCell (p := ⟨w.heap.size, 0, none⟩) (Nat.le_refl _) (.int .i64 0)).setCell (p := ⟨w.heap.size, 1, none⟩) (Nat.le_refl _) (.slice none 0 0)).setCell (p := ⟨w.heap.size, 2, none⟩) (Nat.le_refl _) (.string ⟨#[]⟩))
      have hb7' := Lib.hid hb7
      have hgd : ¬ s.length < i + 4 + K → ∀ W, Gr w W → FieldsAt W (.slice pv fs.length capv) fs → ReadPost (readR s head) w (.returned (.tuple #[.agg #[.int .i64 c, .slice pv fs.length capv, .string ⟨((s.drop (i + 4)).take K).toArray⟩], .bool cl, .int .i64 ((i : Int) + 4 + K), .int .i64 0])) W := fun h W h1 h2 => by
        rw [hR9'.out, if_neg h]
        have := readPost_good (r := ⟨c, fs, (s.drop (i + 4)).take K⟩) (cl := cl) (n := i + 4 + K) h2 h1
        simpa using this
      have hgd' := Lib.hid hgd
      clear hb7 hgd
      rcases hways with ⟨rfl, rfl⟩ | ⟨rfl, hneg, rfl⟩ | ⟨rfl, m, hm0, rfl, rfl⟩
      · have hlt : ¬ s.length < i + 4 + 0 := by omega
        have hltI : ¬ (s.length : Int) - ((i : Int) + 4) < 0 := by omega
        have hfin0 := hgd'.out hlt
        have hfin := Lib.hid (hfin0 ((((w4.setCell ⟨w.heap.size, 2, none⟩ (.string ByteArray.empty)).setCell ⟨w.heap.size, 0, none⟩ (.int .i64 c)).setCell ⟨w.heap.size, 1, none⟩ (.slice pv fs.length capv)).setCell ⟨w.heap.size, 2, none⟩ (.string ByteArray.empty)) ((((g4'.out.setCell (Nat.le_refl _) _).setCell (Nat.le_refl _) _).setCell (Nat.le_refl _) _).setCell (Nat.le_refl _) _) ((((hF4'.out.put' hnb 2 _).put' hnb 0 _).put' hnb 1 _).put' hnb 2 _))
        clear hfin0 hlt
        go_wp2
        refine bodyPost_ret (v := .tuple #[.agg #[.int .i64 c, .slice pv fs.length capv, .string ByteArray.empty], .bool cl, .int .i64 ((i : Int) + 4), .int .i64 0]) ?_ rfl (by have := hfin.out; simp only [Int.natCast_zero, Int.add_zero, List.take_zero] at this; exact this)
        simp [results, Tryz.results18, go_sem, k0, k1, k2]
      · have hlt : ¬ s.length < i + 4 + 0 := by omega
        have hltI : ¬ (s.length : Int) - ((i : Int) + 4) < 0 := by omega
        have hfin0 := hgd'.out hlt
        have hfin := Lib.hid (hfin0 ((((w4.setCell ⟨w.heap.size, 2, none⟩ (.string ByteArray.empty)).setCell ⟨w.heap.size, 0, none⟩ (.int .i64 c)).setCell ⟨w.heap.size, 1, none⟩ (.slice pv fs.length capv)).setCell ⟨w.heap.size, 2, none⟩ (.string ByteArray.empty)) ((((g4'.out.setCell (Nat.le_refl _) _).setCell (Nat.le_refl _) _).setCell (Nat.le_refl _) _).setCell (Nat.le_refl _) _) ((((hF4'.out.put' hnb 2 _).put' hnb 0 _).put' hnb 1 _).put' hnb 2 _))
        clear hfin0 hlt
        go_wp2
        refine bodyPost_ret (v := .tuple #[.agg #[.int .i64 c, .slice pv fs.length capv, .string ByteArray.empty], .bool cl, .int .i64 ((i : Int) + 4), .int .i64 0]) ?_ rfl (by have := hfin.out; simp only [Int.natCast_zero, Int.add_zero, List.take_zero] at this; exact this)
        simp [results, Tryz.results18, go_sem, k0, k1, k2]
      · by_cases hlt : s.length < i + 4 + K
        · have hltI : (s.length : Int) - ((i : Int) + 4) < K := by omega
          have hfin := Lib.hid (hb7'.out hlt)
          clear hlt
          go_wp2
          refine bodyPost_ret (v := .tuple #[.agg #[.int .i64 0, .slice none 0 0, .string ⟨#[]⟩], .bool false, .int .i64 0, .int .i64 7]) ?_ rfl hfin.out
          simp [results, Tryz.results18, go_sem, k0, k1, k2]
        · have hltI : ¬ (s.length : Int) - ((i : Int) + 4) < K := by omega
          have hm8 : K ≤ 800000 := by omega
          have hmS : (i : Int) + 4 + K ≤ s.length := by omega
          have hex : (⟨s.toArray⟩ : ByteArray).extract (i + 4) (i + 4 + K) = ⟨((s.drop (i + 4)).take K).toArray⟩ := by rw [extract_mk, List.drop_take, show i + 4 + K - (i + 4) = K by omega]
          have hfin0 := hgd'.out hlt
          obtain ⟨bd, hbd⟩ : ∃ b, (s.drop (i + 4)).take K = b := ⟨_, rfl⟩
          rw [hbd] at hex hfin0
          have hfin := Lib.hid (hfin0 ((((w4.setCell ⟨w.heap.size, 2, none⟩ (.string ⟨bd.toArray⟩)).setCell ⟨w.heap.size, 0, none⟩ (.int .i64 c)).setCell ⟨w.heap.size, 1, none⟩ (.slice pv fs.length capv)).setCell ⟨w.heap.size, 2, none⟩ (.string ⟨bd.toArray⟩)) ((((g4'.out.setCell (Nat.le_refl _) _).setCell (Nat.le_refl _) _).setCell (Nat.le_refl _) _).setCell (Nat.le_refl _) _) ((((hF4'.out.put' hnb 2 _).put' hnb 0 _).put' hnb 1 _).put' hnb 2 _))
          clear hfin0 hlt
          go_wp2
          refine bodyPost_ret (v := .tuple #[.agg #[.int .i64 c, .slice pv fs.length capv, .string ⟨bd.toArray⟩], .bool cl, .int .i64 ((i : Int) + 4 + K), .int .i64 0]) ?_ rfl hfin.out
          simp [results, Tryz.results18, go_sem, k0, k1, k2]
end Go.Proofs.YtfcokldbpjkjpaaGreatDoor
