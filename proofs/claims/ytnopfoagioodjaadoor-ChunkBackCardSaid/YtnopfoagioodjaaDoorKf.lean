/-
  Walks over package chunk: a head, a trailer, what stands behind a chunk.
-/
import Derived.Test.YtnopfoagioodjaaDoorKe
namespace Go.Proofs.YtnopfoagioodjaaDoor
open Go.RowKit
attribute [local go_sem] Oper.semAt_some

theorem infoU8 : (Tryd.prog.info? 5).map (fun i => (i.zero, i.size, i.bytes)) = some (some (.int .u8 0), 1, 1) := by kernel_rfl
section
variable {b : Nat} {W : World} {c : Ck} {lv dv : Value}
/-- The line's row has become another one. -/
theorem Rd.relined (h : Rd b W c lv dv) {W3 : World} {lv' : Value} {l' : List UInt8} (hc : Ch (fun k => lv.ownBlock = some k) W W3) (hl : OwnB (b + 1) W3 lv' l') (hat : lv'.ownBlock = lv.ownBlock ∨ ∀ k, lv'.ownBlock = some k → W.heap.size ≤ k) :
    Rd b (W3.setCell ⟨b, 1, none⟩ lv') { c with line := l' } lv' dv := by
  have hb : ¬ (lv.ownBlock = some b) := fun e => by have := h.l.lt b e; omega
  have cell : ∀ {o v}, W.cell? ⟨b, o, none⟩ = some v → W3.cell? ⟨b, o, none⟩ = some v := fun {o v} hh => (hc.cell (p := ⟨b, o, none⟩) h.lt hb).trans hh
  have hd : OwnB (b + 1) W3 dv c.data := by
    obtain ⟨h1, h2⟩ := h.d
    refine ⟨h1, ?_⟩
    rcases h2 with h2 | ⟨g, cap, cur, rfl, hb2, hh, hn2, hm, hcs, ht⟩
    · exact .inl h2
    · exact .inr ⟨g, cap, cur, rfl, hb2, hc.get hh (fun e => h.ne g e rfl), hn2, hm, hcs, ht⟩
  refine ⟨cell_off (cell h.c0) (by decide), cell_set_same (cell h.c1), cell_off (cell h.c2) (by decide), cell_off (cell h.c3) (by decide), cell_off (cell h.c4) (by decide), cell_off (cell h.c5) (by decide), cell_off (cell h.c6) (by decide), fun o => frozen_set.trans ((hc.frozen (p := ⟨b, o, none⟩) h.lt hb).trans (h.fz o)), own_set hl, own_set hd, fun k hk hk2 => ?_⟩
  rcases hat with e | e
  · rw [e] at hk; exact h.ne k hk hk2
  · have := e k hk; have := h.d.lt k hk2; omega
theorem Rd.redata (h : Rd b W c lv dv) {W3 : World} {dv' : Value} {d' : List UInt8} (hc : Ch (fun k => dv.ownBlock = some k) W W3) (hl : OwnB (b + 1) W3 dv' d') (hat : dv'.ownBlock = dv.ownBlock ∨ ∀ k, dv'.ownBlock = some k → W.heap.size ≤ k) :
    Rd b (W3.setCell ⟨b, 3, none⟩ dv') { c with data := d' } lv dv' := by
  have hb : ¬ (dv.ownBlock = some b) := fun e => by have := h.d.lt b e; omega
  have cell : ∀ {o v}, W.cell? ⟨b, o, none⟩ = some v → W3.cell? ⟨b, o, none⟩ = some v := fun {o v} hh => (hc.cell (p := ⟨b, o, none⟩) h.lt hb).trans hh
  have hd : OwnB (b + 1) W3 lv c.line := by
    obtain ⟨h1, h2⟩ := h.l
    refine ⟨h1, ?_⟩
    rcases h2 with h2 | ⟨g, cap, cur, rfl, hb2, hh, hn2, hm, hcs, ht⟩
    · exact .inl h2
    · exact .inr ⟨g, cap, cur, rfl, hb2, hc.get hh (fun e => h.ne g rfl e), hn2, hm, hcs, ht⟩
  refine ⟨cell_off (cell h.c0) (by decide), cell_off (cell h.c1) (by decide), cell_off (cell h.c2) (by decide), cell_set_same (cell h.c3), cell_off (cell h.c4) (by decide), cell_off (cell h.c5) (by decide), cell_off (cell h.c6) (by decide), fun o => frozen_set.trans ((hc.frozen (p := ⟨b, o, none⟩) h.lt hb).trans (h.fz o)), own_set hd, own_set hl, fun k hk hk2 => ?_⟩
  rcases hat with e | e
  · rw [e] at hk2; exact h.ne k hk hk2
  · have := e k hk2; have := h.l.lt k hk; omega
end

set_option maxHeartbeats 2000000 in
theorem head_any (b : Nat) (c : Ck) (s : List UInt8) (lv dv : Value) (W : World) (hG : G W) (h : Rd b W c lv dv) (hd : c.data.length ≤ 4096) (hl : s.length ≤ 900000) :
    Calls Tryd.prog 33 #[.pointer (some ⟨b, 0, none⟩), .string ⟨s.toArray⟩] W fun e W' => e = .returned (.tuple #[]) ∧ RdPost b lv dv W (headC c s) W' := by
  obtain ⟨pd, cd, hdv⟩ := ownsRow_slice h.d
  have hsz := size_any s W hG hl
  have h' := Lib.hid h
  clear hG h
  cases hs : sizeC s with
  | none =>
    have hH := Lib.hid (show headC c s = wrongC c 400 by unfold headC; rw [hs])
    rw [hs] at hsz
    have hsz' := Lib.hid hsz
    clear hs hsz
    go_enter Tryd.func33, Tryd.ntmps33
    go_wp2_with fail
    refine hsz'.out.mono ?_
    rintro e w1 ⟨rfl, hg⟩
    have h1 := Lib.hid (h'.out.gr hg)
    have g1 := Lib.hid (hg.to_ch (Fp b lv dv))
    clear hg
    unfold szV
    go_wp2_with fail
    refine (wrong_any b c 400 lv dv _ h1.out).mono ?_
    rintro e w2 ⟨rfl, hp⟩
    have hp' := Lib.hid hp
    clear hp
    go_wp2
    go_end0
    exact ⟨rfl, by rw [hH.out]; exact hp'.out.after g1.out fp_self⟩
  | some n =>
    rw [hs] at hsz
    have hsz' := Lib.hid hsz
    have hs' := Lib.hid hs
    clear hs hsz
    by_cases hbig : 4096 < c.data.length + n
    · have hH := Lib.hid (show headC c s = wrongC c 413 by unfold headC; rw [hs'.out]; dsimp only; rw [if_pos hbig])
      have hbI : (4096 : Int) - (c.data.length : Int) < n := by omega
      have hdI : (c.data.length : Int) ≤ 4096 := by omega
      clear hbig
      go_enter Tryd.func33, Tryd.ntmps33
      go_wp2_with fail
      refine hsz'.out.mono ?_
      rintro e w1 ⟨rfl, hg⟩
      have h1 := Lib.hid (h'.out.gr hg)
      have q3 := (h'.out.gr hg).c3
      rw [hdv] at q3
      have g1 := Lib.hid (hg.to_ch (Fp b lv dv))
      clear hg
      unfold szV
      go_wp2_with fail
      refine (wrong_any b c 413 lv dv _ h1.out).mono ?_
      rintro e w2 ⟨rfl, hp⟩
      have hp' := Lib.hid hp
      clear hp
      go_wp2
      go_end0
      exact ⟨rfl, by rw [hH.out]; exact hp'.out.after g1.out fp_self⟩
    · have hbI : ¬ ((4096 : Int) - (c.data.length : Int) < n) := by omega
      have hdI : (c.data.length : Int) ≤ 4096 := by omega
      by_cases h0 : n = 0
      · have hH := Lib.hid (show headC c s = { c with st := 3 } by unfold headC; rw [hs'.out]; dsimp only; rw [if_neg hbig, if_pos h0])
        subst h0
        clear hbig
        go_enter Tryd.func33, Tryd.ntmps33
        go_wp2_with fail
        refine hsz'.out.mono ?_
        rintro e w1 ⟨rfl, hg⟩
        have h1 := Lib.hid (h'.out.gr hg)
        have q3 := (h'.out.gr hg).c3
        have q0 := (h'.out.gr hg).c0
        have z0 := (h'.out.gr hg).fz 0
        rw [hdv] at q3
        have g1 := Lib.hid (hg.to_ch (Fp b lv dv))
        clear hg
        unfold szV
        go_wp2
        go_end0
        exact ⟨rfl, by rw [hH.out]; exact (RdPost.of (h1.out.set0 3) (fp_set _ _ _)).after g1.out fp_self⟩
      · have hH := Lib.hid (show headC c s = { c with st := 1, left := n } by unfold headC; rw [hs'.out]; dsimp only; rw [if_neg hbig, if_neg h0])
        have h0I : ((n : Int) == 0) = false := beq_eq_false_iff_ne.2 (by omega)
        clear hbig h0
        go_enter Tryd.func33, Tryd.ntmps33
        go_wp2_with fail
        refine hsz'.out.mono ?_
        rintro e w1 ⟨rfl, hg⟩
        have h1 := Lib.hid (h'.out.gr hg)
        have q3 := (h'.out.gr hg).c3
        have q0 := (h'.out.gr hg).c0
        have q2 := (h'.out.gr hg).c2
        have z0 := (h'.out.gr hg).fz 0
        have z2 := (h'.out.gr hg).fz 2
        rw [hdv] at q3
        have g1 := Lib.hid (hg.to_ch (Fp b lv dv))
        clear hg
        unfold szV
        go_wp2
        go_end0
        exact ⟨rfl, by rw [hH.out]; exact (RdPost.of ((h1.out.set0 1).set2 n) ((fp_set _ _ _).trans (fp_set _ _ _))).after g1.out fp_self⟩

set_option maxHeartbeats 2000000 in
theorem trailer_any (b : Nat) (c : Ck) (s : List UInt8) (lv dv : Value) (W : World) (hG : G W) (hb : 1 < b) (h : Rd b W c lv dv) (hn : c.nf ≤ 32) (hl : s.length ≤ 900000) :
    Calls Tryd.prog 34 #[.pointer (some ⟨b, 0, none⟩), .string ⟨s.toArray⟩] W fun e W' => e = .returned (.tuple #[]) ∧ RdPost b lv dv W (trailerC c s) W' := by
  have h' := Lib.hid h
  by_cases hs : s = []
  · have hH := Lib.hid (show trailerC c s = { c with st := 4 } by unfold trailerC; rw [hs]; rfl)
    have q0 := h.c0
    have z0 := h.fz 0
    subst hs
    clear h hG hb
    go_enter Tryd.func34, Tryd.ntmps34
    go_wp2
    refine bodyPost_ret (results_none (by kernel_rfl) _ _ _) rfl ?_
    exact ⟨rfl, by rw [hH.out]; exact RdPost.of (h'.out.set0 4) (fp_set _ _ _)⟩
  · have hse : s.isEmpty = false := by simpa using hs
    obtain ⟨m, hm⟩ : ∃ m, c.nf + 1 = m := ⟨_, rfl⟩
    have hmI : (c.nf : Int) + 1 = m := by omega
    have hnI : (c.nf : Int) ≤ 32 := by omega
    have hm33 : (m : Int) ≤ 33 := by omega
    have q4 := h.c4
    have z4 := h.fz 4
    have h1 := Lib.hid (h.set4 m)
    have hG1 := Lib.hid (fun (v : Value) => hG.ch (Ch.setCell (T := fun k => k = b) W (a := ⟨b, 4, none⟩) rfl v) (by omega))
    clear hb
    obtain ⟨⟨n, v, f⟩, hp⟩ : ∃ x, parseB s = x := ⟨_, rfl⟩
    have hpc := Lib.hid (fun W (h : G W) => parse_any s W h (by omega))
    rw [hp] at hpc
    have hH : trailerC c s = if f then (if 32 ≤ c.nf then { c with nf := m, st := 4, bad := 431 } else { c with nf := m }) else { c with nf := m, st := 4, bad := 400 } := by
      unfold trailerC; rw [hse, hp, hm]; rfl
    have hH' := Lib.hid hH
    have hm' := Lib.hid hm
    clear h hs hp hH hm hG
    go_enter Tryd.func34, Tryd.ntmps34
    go_wp2_with fail
    refine (hpc.out _ (hG1.out _)).mono ?_
    rintro e w2 ⟨rfl, hg⟩
    have hg2 : Gr (W.setCell ⟨b, 4, none⟩ (.int .i64 m)) (w2.alloc (.cells #[.string ⟨n.toArray⟩, .string ⟨v.toArray⟩] 46)) := hg.alloc1 _
    have h2 := Lib.hid (h1.out.gr hg2)
    have r4 := (h1.out.gr hg).c4
    have g2 := Lib.hid ((fp_set (b := b) (lv := lv) (dv := dv) W 4 (.int .i64 m)).trans (hg2.to_ch (Fp b lv dv)))
    dsimp only at r4
    have hbl : b < w2.heap.size := (h1.out.gr hg).lt
    clear hg hg2 q4 z4
    unfold pVal
    cases f
    · go_wp2_with fail
      refine (wrong_any b { c with nf := m } 400 lv dv _ h2.out).mono ?_
      rintro e w3 ⟨rfl, hp⟩
      have hp' := Lib.hid hp
      clear hp
      go_wp2
      go_end0
      exact ⟨rfl, by rw [hH'.out]; exact hp'.out.after g2.out fp_self⟩
    · by_cases h32 : 32 ≤ c.nf
      · have h33 : (32 : Int) < m := by omega
        go_wp2_with fail
        refine (wrong_any b { c with nf := m } 431 lv dv _ h2.out).mono ?_
        rintro e w3 ⟨rfl, hp⟩
        have hp' := Lib.hid hp
        clear hp
        go_wp2
        go_end0
        exact ⟨rfl, by rw [hH'.out, if_pos trivial, if_pos h32]; exact hp'.out.after g2.out fp_self⟩
      · have h33 : ¬ ((32 : Int) < m) := by omega
        go_wp2
        go_end0
        exact ⟨rfl, by rw [hH'.out, if_pos trivial, if_neg h32]; exact RdPost.of h2.out g2.out⟩
end Go.Proofs.YtnopfoagioodjaaDoor
