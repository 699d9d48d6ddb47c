/-
  Replies: what a head's lines say.
-/
import Derived.Test.YtfcokldbpjkjpaaGreatDoorVc
import Derived.Test.YtfcokldbpjkjpaaGreatDoorLc
import Derived.Test.YtfcokldbpjkjpaaGreatDoorP31
import Derived.Test.YtfcokldbpjkjpaaGreatDoorTs
import Derived.Deep.RegionHeld3
namespace Go.Proofs.YtfcokldbpjkjpaaGreatDoor
open Go.RowKit
attribute [local go_sem] Oper.semAt_some

/-- A slice value whose elements are these texts. -/
def TextsAt (w : World) (t : Value) (ls : List (List UInt8)) : Prop :=
  ∃ p cap, t = .slice p ls.length cap ∧ ls.length ≤ cap ∧ ∀ i, (hi : i < ls.length) → ∃ b off, p = some ⟨b, off, none⟩ ∧ w.cell? ⟨b, off + i, none⟩ = some (.string ⟨ls[i].toArray⟩)
theorem TextsAt.gr {w w' : World} {t : Value} {ls : List (List UInt8)} (h : TextsAt w t ls) (hg : Gr w w') : TextsAt w' t ls := by
  obtain ⟨p, cap, e, hle, hc⟩ := h
  refine ⟨p, cap, e, hle, fun i hi => ?_⟩
  obtain ⟨b, off, hp, h1⟩ := hc i hi
  exact ⟨b, off, hp, hg.cell h1⟩
/-- The reply under way in block B. -/
def PW (w : World) (c : Int) (fs : List Fl) (W : World) : Prop :=
  ∃ v, W.cell? ⟨w.heap.size, 0, none⟩ = some (.int .i64 c) ∧ W.cell? ⟨w.heap.size, 1, none⟩ = some v ∧ W.cell? ⟨w.heap.size, 2, none⟩ = some (.string ⟨#[]⟩) ∧
    OwnF (w.heap.size + 1) W v fs ∧ (∀ o, W.frozen? ⟨w.heap.size, o, none⟩ = false) ∧ w.heap.size < W.heap.size ∧ Gr w W
theorem PW.gr {w W W' : World} {c : Int} {fs : List Fl} (h : PW w c fs W) (hg : Gr W W') : PW w c fs W' := by
  obtain ⟨v, h0, h1, h2, ho, hf, hz, hw⟩ := h
  exact ⟨v, hg.cell h0, hg.cell h1, hg.cell h2, ho.ch (hg.to_ch (fun _ => False)) (fun _ h => h.elim), fun o => (Below.frozen hg (show (⟨w.heap.size, o, none⟩ : Addr).block < W.heap.size from hz)).trans (hf o), Nat.lt_of_lt_of_le hz (Below.size hg), hw.trans hg⟩
theorem PW.w {w W : World} {c : Int} {fs : List Fl} (h : PW w c fs W) : Gr w W := by
  obtain ⟨v, h0, h1, h2, ho, hf, hz, hw⟩ := h
  exact hw
theorem PW.push {w W W7 : World} {c : Int} {fs : List Fl} {f : Fl} {v v' : Value} {o : Obj} (h0 : W.cell? ⟨w.heap.size, 0, none⟩ = some (.int .i64 c)) (h1 : W.cell? ⟨w.heap.size, 1, none⟩ = some v) (h2 : W.cell? ⟨w.heap.size, 2, none⟩ = some (.string ⟨#[]⟩))
    (ho : OwnF (w.heap.size + 1) W v fs) (hf : ∀ o, W.frozen? ⟨w.heap.size, o, none⟩ = false) (hz : w.heap.size < W.heap.size) (hw : Gr w W) (hown : OwnF (w.heap.size + 1) W7 v' (fs ++ [f])) (hgrow : (W.alloc o).grownBy W7 v.ownBlock) :
    PW w c (fs ++ [f]) (W7.setCell ⟨w.heap.size, 1, none⟩ v') ∧ W7.cell? ⟨w.heap.size, 1, none⟩ = some v ∧ W7.frozen? ⟨w.heap.size, 1, none⟩ = false := by
  have hgro := Ch.of_grown hgrow
  have hg := Gr.alloc W o
  have hz2 : w.heap.size < (W.alloc o).heap.size := Nat.lt_of_lt_of_le hz (Below.size hg)
  have hnb : v.ownBlock ≠ some w.heap.size := fun e => by have := (World.ownsRow.lt ho _ e).1; omega
  have hnb2 : v'.ownBlock ≠ some w.heap.size := fun e => by have := (World.ownsRow.lt hown _ e).1; omega
  have kk : ∀ {j u}, W.cell? ⟨w.heap.size, j, none⟩ = some u → W7.cell? ⟨w.heap.size, j, none⟩ = some u := fun {j u} h => (hgro.cell (p := ⟨w.heap.size, j, none⟩) hz2 hnb).trans (hg.cell h)
  have kf : ∀ j, W7.frozen? ⟨w.heap.size, j, none⟩ = false := fun j => (hgro.frozen (p := ⟨w.heap.size, j, none⟩) hz2 hnb).trans ((Below.frozen hg (show (⟨w.heap.size, j, none⟩ : Addr).block < W.heap.size from hz)).trans (hf j))
  have hgw : Gr w W7 := (hw.trans hg).ch hgro (fun k e => by have := (World.ownsRow.lt ho _ e).1; omega)
  refine ⟨⟨v', ?_, ?_, ?_, hown.put hnb2 v', fun o => by simp [go_sem, kf], ?_, hgw.setCell (Nat.le_refl _) _⟩, kk h1, kf 1⟩
  · simp [go_sem, kk h0]
  · simp [go_sem, kk h1]
  · simp [go_sem, kk h2]
  · have := hgro.size; simpa using Nat.lt_of_lt_of_le hz2 this
theorem sizeIZ (o : Option Nat) : sizeI o = sizeZ o := rfl
/-- What a line does. -/
theorem stepP_ways (c : Int) (fs : List Fl) (cl : Bool) (n : Int) (ok : Bool) (l n1 v1 : List UInt8) (okp a1 a2 a3 : Bool) (z : Int)
    (hP : parseB l = (n1, v1, okp)) (h1 : alikeB n1 kCod = a1) (h2 : alikeB n1 kLen = a2) (h3 : alikeB n1 kHold = a3) (hz : sizeZ (sizeN v1) = z) :
    (okp = false ∧ stepP c ⟨fs, cl, n, ok⟩ l = ⟨fs, cl, n, false⟩) ∨
    (okp = true ∧ a1 = true ∧ stepP c ⟨fs, cl, n, ok⟩ l = ⟨fs, cl, n, false⟩) ∨
    (okp = true ∧ a1 = false ∧ a2 = true ∧ stepP c ⟨fs, cl, n, ok⟩ l = ⟨fs, cl, z, ok && (decide (n < 0) && decide (0 ≤ z))⟩) ∨
    (okp = true ∧ a1 = false ∧ a2 = false ∧ (c != 101) = true ∧ a3 = true ∧ stepP c ⟨fs, cl, n, ok⟩ l = ⟨fs, true, n, ok && (!cl && v1 == kEnds)⟩) ∨
    (okp = true ∧ a1 = false ∧ a2 = false ∧ (c != 101) = false ∧ stepP c ⟨fs, cl, n, ok⟩ l = ⟨fs ++ [(n1, v1)], cl, n, ok⟩) ∨
    (okp = true ∧ a1 = false ∧ a2 = false ∧ (c != 101) = true ∧ a3 = false ∧ stepP c ⟨fs, cl, n, ok⟩ l = ⟨fs ++ [(n1, v1)], cl, n, ok⟩) := by
  unfold stepP
  rw [hP]
  dsimp only
  rw [h1, h2, h3, hz]
  cases okp
  · left; exact ⟨rfl, rfl⟩
  · right
    cases a1
    · right
      cases a2
      · right
        cases hc : (c != 101)
        · right; left; exact ⟨rfl, rfl, rfl, rfl, rfl⟩
        · cases a3
          · right; right; exact ⟨rfl, rfl, rfl, rfl, rfl, rfl⟩
          · left; exact ⟨rfl, rfl, rfl, rfl, rfl, rfl⟩
      · left; exact ⟨rfl, rfl, rfl, rfl⟩
    · left; exact ⟨rfl, rfl, rfl⟩
theorem stepP_len (c : Int) (st : PSt) (l : List UInt8) : (stepP c st l).fs.length ≤ st.fs.length + 1 := by
  unfold stepP
  split
  · simp
  · split
    · simp
    · split
      · simp
      · simp
theorem foldP_len (c : Int) : ∀ (ls : List (List UInt8)) (st : PSt), (foldP c st ls).fs.length ≤ st.fs.length + ls.length
  | [], st => by simp [foldP]
  | l :: t, st => by
    have h1 := stepP_len c st l
    have h2 := foldP_len c t (stepP c st l)
    unfold foldP
    simp only [List.length_cons]; omega
theorem trimB_len8 (l : List UInt8) : (trimB l).length ≤ l.length := by
  rw [trimB_eq]
  unfold ldrop rdrop
  have h1 := (List.dropWhile_suffix (p := isBlank) (l := (l.reverse.dropWhile isBlank).reverse)).length_le
  have h2 := (List.dropWhile_suffix (p := isBlank) (l := l.reverse)).length_le
  simp only [List.length_reverse] at h1 h2 ⊢
  omega
theorem parse_len1 (l : List UInt8) : (parseB l).1.length ≤ l.length := by
  unfold parseB
  have h1 := cut_le1 l [58]
  split
  · exact h1
  · simp
theorem parse_len2 (l : List UInt8) : (parseB l).2.1.length ≤ l.length := by
  unfold parseB
  have h1 := cut_le2 l [58]
  split
  · exact Nat.le_trans (trimB_len8 _) h1
  · simp
/-- What parts says. -/
def PartsPost (ls : List (List UInt8)) (w : World) (e : Ending) (w' : World) : Prop :=
  ∃ v, e = .returned (.tuple #[(⟨(progP ls).1, (progP ls).2.fs, []⟩ : Rp).V v, .bool (progP ls).2.cl, .int .i64 (progP ls).2.n, .bool (progOk ls)]) ∧ OwnF (w.heap.size + 1) w' v (progP ls).2.fs ∧ Gr w w'
def PRel (w : World) (c : Int) (st0 : PSt) (ls : List (List UInt8)) (cl n ok i : Value) (W : World) : Prop :=
  ∃ k : Nat, k ≤ ls.length ∧ i = .int .i64 k ∧ cl = .bool (foldP c st0 (ls.take k)).cl ∧ n = .int .i64 (foldP c st0 (ls.take k)).n ∧ ok = .bool (foldP c st0 (ls.take k)).ok ∧ PW w c (foldP c st0 (ls.take k)).fs W
theorem PRel.next {w W : World} {c : Int} {st0 : PSt} {ls : List (List UInt8)} {k : Nat} (hk : k < ls.length) {fs fs' : List Fl} {cl cl' ok ok' : Bool} {n n' : Int} (hst : foldP c st0 (ls.take k) = ⟨fs, cl, n, ok⟩) (h : stepP c ⟨fs, cl, n, ok⟩ ls[k] = ⟨fs', cl', n', ok'⟩) (hW : PW w c fs' W) {j : Int} (hj : j = (k : Int) + 1) :
    PRel w c st0 ls (.bool cl') (.int .i64 n') (.bool ok') (.int .i64 j) W := by
  have e : foldP c st0 (ls.take (k + 1)) = ⟨fs', cl', n', ok'⟩ := by
    rw [List.take_succ_eq_append_getElem hk, foldP_snoc, hst, h]
  exact ⟨k + 1, hk, by rw [hj]; rfl, by rw [e], by rw [e], by rw [e], by rw [e]; exact hW⟩
set_option maxHeartbeats 16000000 in
set_option maxRecDepth 100000 in
theorem parts_any (l0 : List UInt8) (tl : List (List UInt8)) (t : Value) (w : World) (hG : G w) (hf : TextsAt w t (l0 :: tl)) (hn : tl.length ≤ 900000) (hs : ∀ l ∈ l0 :: tl, l.length ≤ 900000) :
    Calls Tryz.prog 34 #[t] w (PartsPost (l0 :: tl) w) := by
  have hG' := Lib.hid hG
  obtain ⟨p, cap, rfl, hle, hc⟩ := hf
  obtain ⟨b, off, rfl, k0⟩ := hc 0 (by simp)
  have hcells : ∀ i, (hi : i < tl.length) → w.cell? ⟨b, off + 1 + i, none⟩ = some (.string ⟨tl[i].toArray⟩) := fun i hi => by
    obtain ⟨b', off', e, h⟩ := hc (i + 1) (by simp; omega)
    injection e with e
    injection e with e1 e2
    subst e1; subst e2
    rw [show off + 1 + i = off + (i + 1) by omega]
    simpa using h
  have hc' := Lib.hid hcells
  have hs0 := hs l0 (by simp)
  have hs' := Lib.hid (show ∀ l ∈ tl, l.length ≤ 900000 from fun l hl => hs l (by simp [hl]))
  have k0' : w.cell? ⟨b, off, none⟩ = some (.string ⟨l0.toArray⟩) := by simpa using k0
  have hbw := cell_lt k0'
  obtain ⟨c, r0, ok0, hst⟩ : ∃ c r0 ok0, statB l0 = (c, r0, ok0) := ⟨_, _, _, rfl⟩
  have hstat := Lib.hid (fun W hGW => status_any l0 W hGW hs0)
  rw [hst] at hstat
  have hprog := Lib.hid (show progP (l0 :: tl) = (c, foldP c ⟨[], false, -1, ok0⟩ tl) from by unfold progP; rw [List.headD_cons, hst]; rfl)
  have hlen1 : (l0 :: tl).length = tl.length + 1 := rfl
  rw [hlen1]
  clear hc hcells hs hG k0 hst
  go_enter Tryz.func34, Tryz.ntmps34
  have g0 := Gr.alloc w (.cells #[.int .i64 0, .slice none 0 0, .string ⟨#[]⟩] 24)
  have n0 := g0.cell k0'
  go_wp2_with fail
  refine (hstat.out _ (hG'.out.gr g0)).mono ?_
  rintro e w1 ⟨rfl, hb⟩
  unfold stV
  have c0 : w1.cell? ⟨w.heap.size, 0, none⟩ = some (.int .i64 0) := hb.cell (by simp [go_sem])
  have c1 : w1.cell? ⟨w.heap.size, 1, none⟩ = some (.slice none 0 0) := hb.cell (by simp [go_sem])
  have c2 : w1.cell? ⟨w.heap.size, 2, none⟩ = some (.string ⟨#[]⟩) := hb.cell (by simp [go_sem])
  have f0 : ∀ o, w1.frozen? ⟨w.heap.size, o, none⟩ = false := fun o => (Below.frozen hb (by simp)).trans (by simp [go_sem])
  have hz : w.heap.size < w1.heap.size := by have := Below.size hb; simp at this; omega
  have g1 := Lib.hid (g0.trans hb)
  clear hb g0 n0
  dsimp only
  have hPW0 : PW w c [] (((w1.setCell ⟨w.heap.size, 0, none⟩ (.int .i64 c)).setCell ⟨w.heap.size, 1, none⟩ (.slice none 0 0)).setCell ⟨w.heap.size, 2, none⟩ (.string ⟨#[]⟩)) := by
    refine ⟨.slice none 0 0, by simp [go_sem, c0, c1, c2], by simp [go_sem, c0, c1, c2], by simp [go_sem, c0, c2], World.ownsRow_nil _ _ _ _, fun o => by simp [go_sem, f0], by simpa using hz, ((g1.out.setCell (Nat.le_refl _) _).setCell (Nat.le_refl _) _).setCell (Nat.le_refl _) _⟩
  go_upto_region 3 with (fail)
  generalize (((w1.setCell ⟨w.heap.size, 0, none⟩ (.int .i64 c)).setCell ⟨w.heap.size, 1, none⟩ (.slice none 0 0)).setCell ⟨w.heap.size, 2, none⟩ (.string ⟨#[]⟩)) = w2 at hPW0 ⊢
  have hPW0' := Lib.hid hPW0
  clear c0 c1 c2 f0 hz g1 hPW0
  have hsl : ((tl.length + 1 : Nat) : Int) - 1 = tl.length := by omega
  go_wp2
  case' inl =>
    have hcc : ∀ i, (hi : i < tl.length) → w.cell? ⟨b, off + i, none⟩ = some (.string ⟨tl[i].toArray⟩) := fun i hi => by simp at hle; omega
    have hcc' := Lib.hid hcc
    obtain ⟨off2, hoff2⟩ : ∃ o, off = o := ⟨_, rfl⟩
    obtain ⟨cap2, hcap2⟩ : ∃ o, (0 : Nat) = o := ⟨_, rfl⟩
    rw [hoff2] at hcc' ⊢
    clear hcc hoff2 hcap2
  case' inr =>
    have hcc' := Lib.hid hc'.out
    obtain ⟨off2, hoff2⟩ : ∃ o, off + 1 = o := ⟨_, rfl⟩
    rw [hoff2] at hcc' ⊢
    clear hoff2
  all_goals
    clear hc' hle
    go_loopw [3, 4, 5, 25] (fun cl n ok i W => PRel w c ⟨[], false, -1, ok0⟩ tl cl n ok i W) (fun _ _ _ i _ => tl.length - (intOf i).toNat)
    case atStart => exact ⟨0, Nat.zero_le _, rfl, rfl, rfl, rfl, hPW0'.out⟩
    case round =>
      obtain ⟨k, hk, rfl, rfl, rfl, rfl, hPW⟩ := hrel
      have hfl := foldP_len c (tl.take k) ⟨[], false, -1, ok0⟩
      rw [List.length_take] at hfl
      obtain ⟨⟨fs, cl, n, ok⟩, hst⟩ : ∃ st, foldP c ⟨[], false, -1, ok0⟩ (tl.take k) = st := ⟨_, rfl⟩
      rw [hst] at hPW hfl
      dsimp only at hPW hfl
      have hfl2 : fs.length ≤ 900000 := by simp at hfl; omega
      clear hfl
      rw [hst]
      have hPW' := Lib.hid hPW
      have hst' := Lib.hid hst
      clear hst
      dsimp only
      by_cases hlt : k < tl.length
      · have d1 := hPW.w.cell (hcc'.out k hlt)
        have hsl9 := hs'.out _ (List.getElem_mem hlt)
        obtain ⟨l, hl⟩ : ∃ x, tl[k] = x := ⟨_, rfl⟩
        rw [hl] at d1 hsl9
        have hkI : (k : Int) < tl.length := by omega
        have hpl : l.length < 4294967281 := by omega
        have hpc := Lib.hid (fun W hGW => parse_any l W hGW hpl)
        obtain ⟨⟨n1, v1, okp⟩, hP⟩ : ∃ x, parseB l = x := ⟨_, rfl⟩
        rw [hP] at hpc
        have hpl1 : n1.length ≤ l.length := by have := parse_len1 l; rw [hP] at this; exact this
        have hpl2 : v1.length ≤ l.length := by have := parse_len2 l; rw [hP] at this; exact this
        have hways := stepP_ways c fs cl n ok l n1 v1 okp _ _ _ _ hP rfl rfl rfl rfl
        have q1 := Lib.hid (fun W hGW => alike_any n1 kCod W hGW (by omega) (by decide))
        have q2 := Lib.hid (fun W hGW => alike_any n1 kLen W hGW (by omega) (by decide))
        have q3 := Lib.hid (fun W hGW => alike_any n1 kHold W hGW (by omega) (by decide))
        have qz := Lib.hid (fun W hGW => size_any v1 (by omega) W hGW)
        rw [sizeIZ] at qz
        obtain ⟨a1, ha1⟩ : ∃ a, alikeB n1 kCod = a := ⟨_, rfl⟩
        obtain ⟨a2, ha2⟩ : ∃ a, alikeB n1 kLen = a := ⟨_, rfl⟩
        obtain ⟨a3, ha3⟩ : ∃ a, alikeB n1 kHold = a := ⟨_, rfl⟩
        obtain ⟨z, hzz⟩ : ∃ a, sizeZ (sizeN v1) = a := ⟨_, rfl⟩
        rw [ha1] at q1 hways
        rw [ha2] at q2 hways
        rw [ha3] at q3 hways
        rw [hzz] at qz hways
        rw [← hl] at hways
        clear ha1 ha2 ha3 hzz hP hpl hl hPW
        go_wp2_with fail
        refine (hpc.out _ (hG'.out.gr hPW'.out.w)).mono ?_
        rintro e w3 ⟨rfl, hb3⟩
        have hPW3 := Lib.hid (hPW'.out.gr hb3)
        clear hb3 d1 hPW'
        unfold pVal
        dsimp only
        go_upto_region 8 with (fail)
        have y0 : (w3.alloc (.cells #[.string ⟨n1.toArray⟩, .string ⟨v1.toArray⟩] 41)).cell? ⟨w3.heap.size, 0, none⟩ = some (.string ⟨n1.toArray⟩) := cell_new7 w3 [.string ⟨n1.toArray⟩, .string ⟨v1.toArray⟩] _ 0 _ rfl
        have y1 : (w3.alloc (.cells #[.string ⟨n1.toArray⟩, .string ⟨v1.toArray⟩] 41)).cell? ⟨w3.heap.size, 1, none⟩ = some (.string ⟨v1.toArray⟩) := cell_new7 w3 [.string ⟨n1.toArray⟩, .string ⟨v1.toArray⟩] _ 1 _ rfl
        have hPW4 := Lib.hid (hPW3.out.gr (Gr.alloc w3 (.cells #[.string ⟨n1.toArray⟩, .string ⟨v1.toArray⟩] 41)))
        generalize w3.alloc (.cells #[.string ⟨n1.toArray⟩, .string ⟨v1.toArray⟩] 41) = w4 at y0 y1 hPW4 ⊢
        clear hPW3
        rcases hways with ⟨rfl, hs9⟩ | ⟨rfl, rfl, hs9⟩ | ⟨rfl, rfl, rfl, hs9⟩ | ⟨rfl, rfl, rfl, hc1, rfl, hs9⟩ | ⟨rfl, rfl, rfl, hc1, hs9⟩ | ⟨rfl, rfl, rfl, hc1, rfl, hs9⟩
        · have hstep := Lib.hid hs9
          clear hs9
          go_wp2
          go_roundw
          case rel => refine PRel.next hlt hst'.out hstep.out hPW4.out ?_; omega
          case measure => simp [intOf]; omega
        · have hstep := Lib.hid hs9
          clear hs9
          go_wp2_with fail
          refine (q1.out _ (hG'.out.gr hPW4.out.w)).mono ?_
          rintro e w5 ⟨rfl, hb⟩
          have hPW5 := Lib.hid (hPW4.out.gr hb)
          replace y0 := hb.cell y0
          replace y1 := hb.cell y1
          clear hb hPW4
          go_wp2
          go_roundw
          case rel => refine PRel.next hlt hst'.out hstep.out hPW5.out ?_; omega
          case measure => simp [intOf]; omega
        · have hstep' := Lib.hid hs9
          clear hs9
          go_wp2_with fail
          refine (q1.out _ (hG'.out.gr hPW4.out.w)).mono ?_
          rintro e w5 ⟨rfl, hb⟩
          have hPW5 := Lib.hid (hPW4.out.gr hb)
          replace y0 := hb.cell y0
          replace y1 := hb.cell y1
          clear hb hPW4
          go_wp2_with fail
          refine (q2.out _ (hG'.out.gr hPW5.out.w)).mono ?_
          rintro e w6 ⟨rfl, hb⟩
          have hPW6 := Lib.hid (hPW5.out.gr hb)
          replace y0 := hb.cell y0
          replace y1 := hb.cell y1
          clear hb hPW5
          cases ok with
          | false =>
            have hstep := Lib.hid (show stepP c ⟨fs, cl, n, false⟩ tl[k] = ⟨fs, cl, z, false⟩ from hstep'.out)
            go_wp2_with fail
            refine (qz.out _ (hG'.out.gr hPW6.out.w)).mono ?_
            rintro e w7 ⟨rfl, hb⟩
            have hPW7 := Lib.hid (hPW6.out.gr hb)
            replace y0 := hb.cell y0
            replace y1 := hb.cell y1
            clear hb hPW6
            go_wp2
            go_roundw
            case rel => refine PRel.next hlt hst'.out hstep.out hPW7.out ?_; omega
            case measure => simp [intOf]; omega
          | true =>
            by_cases hneg : n < 0
            · have e1 : decide (n < 0) = true := decide_eq_true hneg
              have hstep := Lib.hid (show stepP c ⟨fs, cl, n, true⟩ tl[k] = ⟨fs, cl, z, decide (0 ≤ z)⟩ from by rw [hstep'.out, e1]; rfl)
              clear e1
              go_wp2_with fail
              refine (qz.out _ (hG'.out.gr hPW6.out.w)).mono ?_
              rintro e w7 ⟨rfl, hb⟩
              have hPW7 := Lib.hid (hPW6.out.gr hb)
              replace y0 := hb.cell y0
              replace y1 := hb.cell y1
              clear hb hPW6
              go_wp2_with fail
              refine (qz.out _ (hG'.out.gr hPW7.out.w)).mono ?_
              rintro e w8 ⟨rfl, hb⟩
              have hPW8 := Lib.hid (hPW7.out.gr hb)
              replace y0 := hb.cell y0
              replace y1 := hb.cell y1
              clear hb hPW7
              go_wp2
              go_roundw
              case rel => refine PRel.next hlt hst'.out hstep.out hPW8.out ?_; omega
              case measure => simp [intOf]; omega
            · have e1 : decide (n < 0) = false := decide_eq_false hneg
              have hstep := Lib.hid (show stepP c ⟨fs, cl, n, true⟩ tl[k] = ⟨fs, cl, z, false⟩ from by rw [hstep'.out, e1]; rfl)
              clear e1
              go_wp2_with fail
              refine (qz.out _ (hG'.out.gr hPW6.out.w)).mono ?_
              rintro e w7 ⟨rfl, hb⟩
              have hPW7 := Lib.hid (hPW6.out.gr hb)
              replace y0 := hb.cell y0
              replace y1 := hb.cell y1
              clear hb hPW6
              go_wp2
              go_roundw
              case rel => refine PRel.next hlt hst'.out hstep.out hPW7.out ?_; omega
              case measure => simp [intOf]; omega
        · have hstep' := Lib.hid hs9
          clear hs9
          go_wp2_with fail
          refine (q1.out _ (hG'.out.gr hPW4.out.w)).mono ?_
          rintro e w5 ⟨rfl, hb⟩
          have hPW5 := Lib.hid (hPW4.out.gr hb)
          replace y0 := hb.cell y0
          replace y1 := hb.cell y1
          clear hb hPW4
          go_wp2_with fail
          refine (q2.out _ (hG'.out.gr hPW5.out.w)).mono ?_
          rintro e w6 ⟨rfl, hb⟩
          have hPW6 := Lib.hid (hPW5.out.gr hb)
          replace y0 := hb.cell y0
          replace y1 := hb.cell y1
          clear hb hPW5
          go_wp2_with fail
          refine (q3.out _ (hG'.out.gr hPW6.out.w)).mono ?_
          rintro e w7 ⟨rfl, hb⟩
          have hPW7 := Lib.hid (hPW6.out.gr hb)
          replace y0 := hb.cell y0
          replace y1 := hb.cell y1
          clear hb hPW6
          cases ok with
          | false =>
            have hstep := Lib.hid (show stepP c ⟨fs, cl, n, false⟩ tl[k] = ⟨fs, true, n, false⟩ from hstep'.out)
            go_wp2
            go_roundw
            case rel => refine PRel.next hlt hst'.out hstep.out hPW7.out ?_; omega
            case measure => simp [intOf]; omega
          | true =>
            cases cl with
            | true =>
              have hstep := Lib.hid (show stepP c ⟨fs, true, n, true⟩ tl[k] = ⟨fs, true, n, false⟩ from hstep'.out)
              go_wp2
              go_roundw
              case rel => refine PRel.next hlt hst'.out hstep.out hPW7.out ?_; omega
              case measure => simp [intOf]; omega
            | false =>
              have hstep := Lib.hid (show stepP c ⟨fs, false, n, true⟩ tl[k] = ⟨fs, true, n, v1 == [99, 108, 111, 115, 101]⟩ from hstep'.out)
              go_wp2
              go_roundw
              case rel => refine PRel.next hlt hst'.out hstep.out hPW7.out ?_; omega
              case measure => simp [intOf]; omega
        · have hstep := Lib.hid hs9
          clear hs9
          go_wp2_with fail
          refine (q1.out _ (hG'.out.gr hPW4.out.w)).mono ?_
          rintro e w5 ⟨rfl, hb⟩
          have hPW5 := Lib.hid (hPW4.out.gr hb)
          replace y0 := hb.cell y0
          replace y1 := hb.cell y1
          clear hb hPW4
          go_wp2_with fail
          refine (q2.out _ (hG'.out.gr hPW5.out.w)).mono ?_
          rintro e w6 ⟨rfl, hb⟩
          have hPW6 := Lib.hid (hPW5.out.gr hb)
          replace y0 := hb.cell y0
          replace y1 := hb.cell y1
          clear hb hPW5
          obtain ⟨v, m0, m1, m2, ho, hfz, hz, hgw⟩ := hPW6.out
          obtain ⟨pv, capv, rfl, _⟩ := ho.at
          have ho' := Lib.hid ho
          have hA : ∀ O, (w6.alloc O).ownsRow (w.heap.size + 1) 41 2 (.slice pv fs.length capv) fs.length (fcells fs) := fun O => World.ownsRow.alloc ho O
          obtain ⟨i0, hi, hz0, hz1, hzb⟩ := info_parts infoField
          clear ho
          go_wp2_with (at_builtin; refine wpList_append_own _ rfl _ _ 22 rfl (w.heap.size + 1) 41 i0 (.agg #[.string ⟨#[]⟩, .string ⟨#[]⟩]) 2 32 Tryz.underlying22 hi hz0 hz1 hzb rfl (by decide) _ _ _ rfl (hA _) ⟨w6.heap.size, 0, none⟩ 1 1 [.string ⟨n1.toArray⟩, .string ⟨v1.toArray⟩] rfl rfl ?qc2 ?qc3 ?qc4 ?qc5 ?qc6 ?_)
          case qc2 => exact cells_two _ _ _ _
          case qc3 => simp [Value.oneCell']
          case qc4 => unfold maxLen; omega
          case qc5 => omega
          case qc6 => simp; omega
          intro v' w9 hown3 hgrow _
          have hown4 : OwnF (w.heap.size + 1) w9 v' (fs ++ [(n1, v1)]) := by
            unfold OwnF; rw [fcells_app, List.length_append]; exact hown3
          obtain ⟨hP9, q1, q2⟩ := PW.push m0 m1 m2 ho'.out hfz hz hgw hown4 hgrow
          obtain ⟨p9, c9, rfl, _⟩ := hown4.at
          have hlen9 : (fs ++ [(n1, v1)]).length = fs.length + 1 := by simp
          rw [hlen9] at hP9 ⊢
          have hP9' := Lib.hid hP9
          clear hlen9
          clear hown3 hgrow hA hi hz0 hz1 hzb m0 m1 m2 hfz hgw hown4 hP9
          go_wp2
          go_roundw
          case rel => refine PRel.next hlt hst'.out hstep.out hP9'.out ?_; omega
          case measure => simp [intOf]; omega
        · have hstep := Lib.hid hs9
          clear hs9
          go_wp2_with fail
          refine (q1.out _ (hG'.out.gr hPW4.out.w)).mono ?_
          rintro e w5 ⟨rfl, hb⟩
          have hPW5 := Lib.hid (hPW4.out.gr hb)
          replace y0 := hb.cell y0
          replace y1 := hb.cell y1
          clear hb hPW4
          go_wp2_with fail
          refine (q2.out _ (hG'.out.gr hPW5.out.w)).mono ?_
          rintro e w6 ⟨rfl, hb⟩
          have hPW6 := Lib.hid (hPW5.out.gr hb)
          replace y0 := hb.cell y0
          replace y1 := hb.cell y1
          clear hb hPW5
          go_wp2_with fail
          refine (q3.out _ (hG'.out.gr hPW6.out.w)).mono ?_
          rintro e w7 ⟨rfl, hb⟩
          have hPW7 := Lib.hid (hPW6.out.gr hb)
          replace y0 := hb.cell y0
          replace y1 := hb.cell y1
          clear hb hPW6
          obtain ⟨v, m0, m1, m2, ho, hfz, hz, hgw⟩ := hPW7.out
          obtain ⟨pv, capv, rfl, _⟩ := ho.at
          have ho' := Lib.hid ho
          have hA : ∀ O, (w7.alloc O).ownsRow (w.heap.size + 1) 41 2 (.slice pv fs.length capv) fs.length (fcells fs) := fun O => World.ownsRow.alloc ho O
          obtain ⟨i0, hi, hz0, hz1, hzb⟩ := info_parts infoField
          clear ho
          go_wp2_with (at_builtin; refine wpList_append_own _ rfl _ _ 22 rfl (w.heap.size + 1) 41 i0 (.agg #[.string ⟨#[]⟩, .string ⟨#[]⟩]) 2 32 Tryz.underlying22 hi hz0 hz1 hzb rfl (by decide) _ _ _ rfl (hA _) ⟨w7.heap.size, 0, none⟩ 1 1 [.string ⟨n1.toArray⟩, .string ⟨v1.toArray⟩] rfl rfl ?qc2 ?qc3 ?qc4 ?qc5 ?qc6 ?_)
          case qc2 => exact cells_two _ _ _ _
          case qc3 => simp [Value.oneCell']
          case qc4 => unfold maxLen; omega
          case qc5 => omega
          case qc6 => simp; omega
          intro v' w9 hown3 hgrow _
          have hown4 : OwnF (w.heap.size + 1) w9 v' (fs ++ [(n1, v1)]) := by
            unfold OwnF; rw [fcells_app, List.length_append]; exact hown3
          obtain ⟨hP9, q1, q2⟩ := PW.push m0 m1 m2 ho'.out hfz hz hgw hown4 hgrow
          obtain ⟨p9, c9, rfl, _⟩ := hown4.at
          have hlen9 : (fs ++ [(n1, v1)]).length = fs.length + 1 := by simp
          rw [hlen9] at hP9 ⊢
          have hP9' := Lib.hid hP9
          clear hlen9
          clear hown3 hgrow hA hi hz0 hz1 hzb m0 m1 m2 hfz hgw hown4 hP9
          go_wp2
          go_roundw
          case rel => refine PRel.next hlt hst'.out hstep.out hP9'.out ?_; omega
          case measure => simp [intOf]; omega
      · have hkl : k = tl.length := by omega
        subst hkl
        rw [List.take_length] at hst'
        have hkI : ¬ (tl.length : Int) < tl.length := by omega
        obtain ⟨v, m0, m1, m2, ho, hfz, hz, hgw⟩ := hPW'.out
        obtain ⟨pv, capv, rfl, _⟩ := ho.at
        have hown9 := Lib.hid ho
        have hgw' := Lib.hid hgw
        have hfz' := hfz
        have hbl := Lib.hid (fun x : Later (Gr wr) => (show Calls Tryz.prog 25 #[.int .i64 c] x.w fun e w' => e = .returned (.bool (bareB c)) ∧ ∃ z : Later (Gr wr), w' = z.w from
          (barec_any c x.w).mono fun _ _ ⟨he, hw⟩ => ⟨he, x, hw.symm⟩))
        clear hgw ho hfz
        haveI : Nonempty (Later (Gr wr)) := ⟨⟨wr, Gr.refl wr⟩⟩
        have t0 : ∀ x : Later (Gr wr), x.w.cell? ⟨w.heap.size, 0, none⟩ = some (.int .i64 c) := fun x => x.ok.cell m0
        have t1 : ∀ x : Later (Gr wr), x.w.cell? ⟨w.heap.size, 1, none⟩ = some (.slice pv fs.length capv) := fun x => x.ok.cell m1
        have t2 : ∀ x : Later (Gr wr), x.w.cell? ⟨w.heap.size, 2, none⟩ = some (.string ⟨#[]⟩) := fun x => x.ok.cell m2
        have tf : ∀ (x : Later (Gr wr)) (o : Nat), x.w.frozen? ⟨w.heap.size, o, none⟩ = false := fun x o => (Below.frozen x.ok (show (⟨w.heap.size, o, none⟩ : Addr).block < wr.heap.size from hz)).trans (hfz' o)
        have ts : ∀ x : Later (Gr wr), ((x.w.setCell ⟨w.heap.size, 0, none⟩ (.int .i64 c)).setCell ⟨w.heap.size, 1, none⟩ (.slice pv fs.length capv)).setCell ⟨w.heap.size, 2, none⟩ (.string ⟨#[]⟩) = x.w := fun x => set3_self (t0 x) (t1 x) (t2 x)
        have hend := Lib.hid (show ∀ W, Gr wr W → PartsPost (l0 :: tl) w (.returned (.tuple #[.agg #[.int .i64 c, .slice pv fs.length capv, .string ⟨#[]⟩], .bool cl, .int .i64 n, .bool (ok && (bareB c == decide (n < 0)))])) W from fun W hW => by
          unfold PartsPost progOk
          rw [hprog.out, hst'.out]
          exact ⟨.slice pv fs.length capv, rfl, hown9.out.ch (hW.to_ch (fun _ => False)) (fun _ h => h.elim), hgw'.out.trans hW⟩)
        go_upto_region 17 with (fail)
        refine wp_region_later (C := Gr wr) (by kernel_rfl) (by kernel_rfl) (Gr.drew' _) ?_
        cases ok with
        | false =>
          repeat (go_big_quiet_step (with_reducible exact hbl.out _))
          refine wpQuiet_nil ?_
          intro w9 hg9
          have e0 := hg9.cell m0
          have e1 := hg9.cell m1
          have e2 := hg9.cell m2
          have hfin := Lib.hid (hend.out w9 hg9)
          clear hg9 t0 t1 t2 tf ts m0 m1 m2
          go_wp2
          refine bodyPost_ret (v := .tuple #[.agg #[.int .i64 c, .slice pv fs.length capv, .string ⟨#[]⟩], .bool cl, .int .i64 n, .bool false]) ?_ rfl hfin.out
          simp [results, Tryz.results34, go_sem, e0, e1, e2]
        | true =>
          repeat (go_big_quiet_step (with_reducible exact hbl.out _))
          refine wpQuiet_nil ?_
          intro w9 hg9
          have e0 := hg9.cell m0
          have e1 := hg9.cell m1
          have e2 := hg9.cell m2
          have hfin := Lib.hid (hend.out w9 hg9)
          clear hg9 t0 t1 t2 tf ts m0 m1 m2
          go_wp2
          refine bodyPost_ret (v := .tuple #[.agg #[.int .i64 c, .slice pv fs.length capv, .string ⟨#[]⟩], .bool cl, .int .i64 n, .bool (bareB c == decide (n < 0))]) ?_ rfl hfin.out
          simp [results, Tryz.results34, go_sem, e0, e1, e2]
end Go.Proofs.YtfcokldbpjkjpaaGreatDoor
