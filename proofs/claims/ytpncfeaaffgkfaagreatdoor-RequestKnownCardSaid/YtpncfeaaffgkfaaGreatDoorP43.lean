/-
  Plain laws of requests: closed bytes; no program in sight.
  Requests: a parser in a law's hand: its calls, step by step; the laws' small helpers.
  Requests: the laws' helpers: awake, code, gets.
-/
import Derived.Test.YtpncfeaaffgkfaaGreatDoorP41
import Derived.KernelRfl
import Derived.Test.YtpncfeaaffgkfaaGreatDoorYn
namespace Go.Proofs.YtpncfeaaffgkfaaGreatDoor

/-- Lines, by structure. -/
def splitS : List UInt8 → List (List UInt8)
  | [] => [[]]
  | [c] => [[c]]
  | c :: d :: t => if c = 13 ∧ d = 10 then [] :: splitS t else match splitS (d :: t) with
    | [] => [[c]]
    | l :: r => (c :: l) :: r
theorem splitS_eq : ∀ s : List UInt8, splitS s = splitE s
  | [] => by simp [splitS, splitE]
  | [c] => by simp [splitS, splitE]
  | c :: d :: t => by
    have h1 := splitS_eq t
    have h2 := splitS_eq (d :: t)
    unfold splitS
    rw [splitE]
    by_cases h : c = 13 ∧ d = 10
    · rw [if_pos h, if_pos (by simpa using h), h1]; rfl
    · rw [if_neg h, if_neg (by simpa using h), h2]
      rfl
def oneS (s : List UInt8) : OneR :=
  if decide (0 ≤ Lib.index s eol2) && decide (Lib.index s eol2 + 4 ≤ 2048) then
    match headQ (splitS (s.take (Lib.index s eol2).toNat)) with
    | .bad c => .bad c
    | .good r n ch =>
      if ch then
        if (feedC ck0 (s.drop ((Lib.index s eol2).toNat + 4))).2.bad ≠ 0 then .bad (feedC ck0 (s.drop ((Lib.index s eol2).toNat + 4))).2.bad
        else if (feedC ck0 (s.drop ((Lib.index s eol2).toNat + 4))).2.st = 4 then .got { r with b := (feedC ck0 (s.drop ((Lib.index s eol2).toNat + 4))).2.data } ((Lib.index s eol2).toNat + 4 + (feedC ck0 (s.drop ((Lib.index s eol2).toNat + 4))).1)
        else .more
      else if s.length < (Lib.index s eol2).toNat + 4 + n then .more
      else .got { r with b := (s.drop ((Lib.index s eol2).toNat + 4)).take n } ((Lib.index s eol2).toNat + 4 + n)
  else if 2048 ≤ s.length then .bad 431 else .more
theorem oneS_eq (s : List UInt8) : oneS s = oneQ s := by
  unfold oneS oneQ
  rw [splitS_eq]
  rfl
/-- The chapter's first request. -/
def awk9 : List UInt8 := [71, 69, 84, 32, 47, 97, 63, 98, 32, 72, 84, 84, 80, 47, 49, 46, 49, 13, 10, 72, 111, 115, 116, 58, 32, 120, 13, 10, 13, 10, 71, 69, 84]
def awkR : Rq := ⟨[71, 69, 84], [47, 97], [98], 11, [([72, 111, 115, 116], [120])], [], false⟩
theorem awk_one : oneQ awk9 = .got awkR 30 := by rw [← oneS_eq]; kernel_rfl
theorem awk_two : oneQ (awk9.drop 30) = .more := by rw [← oneS_eq]; kernel_rfl
def get0 : List UInt8 := [71, 69, 84, 32, 47, 32, 72, 84, 84, 80, 47, 49, 46, 48, 13, 10, 13, 10]
theorem get0_one : oneQ get0 = .got ⟨[71, 69, 84], [47], [], 10, [], [], true⟩ 18 := by rw [← oneS_eq]; kernel_rfl
end Go.Proofs.YtpncfeaaffgkfaaGreatDoor
namespace Go.Proofs.YtpncfeaaffgkfaaGreatDoor
open Go.RowKit
attribute [local go_sem] Oper.semAt_some

/-- A parser that was made behind w, at block B; it may write T. -/
structure PsL (w : World) (B : Nat) (T : Nat → Prop) (p : Ps) (W : World) : Prop where
  at' : ∃ fv cv, PsAt B T W p fv cv
  g : Gr w W
  le : w.heap.size ≤ B
theorem PsL.gr {w : World} {B : Nat} {T : Nat → Prop} {p : Ps} {W W' : World} (h : PsL w B T p W) (hg : Gr W W') : PsL w B T p W' := by
  obtain ⟨⟨fv, cv, h1⟩, h2, h3⟩ := h
  exact ⟨⟨fv, cv, h1.gr hg⟩, h2.trans hg, h3⟩
theorem PsL.post {w : World} {B : Nat} {T : Nat → Prop} {p p' : Ps} {W W' : World} {fv cv : Value} (h : PsL w B T p W) (h1 : PsAt B T W p fv cv) (hp : PsPost B T W p' W') : ∃ T', PsL w B T' p' W' ∧ Ch T W W' ∧ ∀ k, T' k → T k ∨ W.heap.size ≤ k := by
  obtain ⟨T', fv', cv', k1, k2, k3, _⟩ := hp
  exact ⟨T', ⟨⟨fv', cv', k1⟩, h.g.ch k2 (fun k hk => Nat.le_trans h.le (h1.tl k hk).1), h.le⟩, k2, k3⟩
/-- What a call on a parser leaves. -/
def PsLPost (w : World) (B : Nat) (T : Nat → Prop) (W : World) (p' : Ps) (W' : World) : Prop := ∃ T', PsL w B T' p' W' ∧ Ch T W W' ∧ ∀ k, T' k → T k ∨ W.heap.size ≤ k
theorem PsL.feed {w : World} {B : Nat} {T : Nat → Prop} {p : Ps} {W : World} (h : PsL w B T p W) (s : List UInt8) (hl : p.inp.length + s.length ≤ 4611686018427387904) :
    Calls Tryz.prog 10 #[.pointer (some ⟨B, 0, none⟩), .string ⟨s.toArray⟩] W fun e W' => e = .returned (.tuple #[]) ∧ PsLPost w B T W (feedQ p s) W' := by
  obtain ⟨fv, cv, h1⟩ := h.at'
  exact (pfeed_any B T p fv cv s W h1 hl).mono fun _ _ ⟨he, hp⟩ => ⟨he, h.post h1 hp⟩
theorem PsL.rest {w : World} {B : Nat} {T : Nat → Prop} {p : Ps} {W : World} (h : PsL w B T p W) (t : List UInt8) (p' : Ps) (hr : restQ p = (p', t)) (hl : p.inp.length + p.und.length ≤ 90000) :
    Calls Tryz.prog 14 #[.pointer (some ⟨B, 0, none⟩)] W fun e W' => e = .returned (.string ⟨t.toArray⟩) ∧ PsLPost w B T W p' W' := by
  obtain ⟨fv, cv, h1⟩ := h.at'
  have := qrest_any B T p fv cv W h1 hl
  rw [hr] at this
  exact this.mono fun _ _ ⟨he, hp⟩ => ⟨he, h.post h1 hp⟩
theorem PsL.bad {w : World} {B : Nat} {T : Nat → Prop} {p : Ps} {W : World} (h : PsL w B T p W) (n : Nat) (hn : p.bad = n) :
    Calls Tryz.prog 13 #[.pointer (some ⟨B, 0, none⟩)] W fun e W' => e = .returned (.int .i64 n) ∧ W = W' := by
  obtain ⟨fv, cv, h1⟩ := h.at'
  subst hn
  exact pbad_any B T p fv cv W h1
theorem PsL.idle {w : World} {B : Nat} {T : Nat → Prop} {p : Ps} {W : World} (h : PsL w B T p W) (b : Bool) (hb : idleQ p = b) :
    Calls Tryz.prog 12 #[.pointer (some ⟨B, 0, none⟩)] W fun e W' => e = .returned (.bool b) ∧ W = W' := by
  obtain ⟨fv, cv, h1⟩ := h.at'
  subst hb
  exact pidle_any B T p fv cv W h1
/-- What Next leaves. -/
def NextL (w : World) (B : Nat) (T : Nat → Prop) (W : World) (p' : Ps) (o : Option Rq) (e : Ending) (W' : World) : Prop :=
  ∃ rv T', e = .returned (.tuple #[(rqO o).V rv, .bool o.isSome]) ∧ FieldsAt W' rv (rqO o).fs ∧ FOut T' rv ∧ (∀ a n c, rv = .slice (some a) n c → a.block < W'.heap.size) ∧ PsL w B T' p' W' ∧ Ch T W W' ∧ ∀ k, T' k → T k ∨ W.heap.size ≤ k
theorem PsL.next {w : World} {B : Nat} {T : Nat → Prop} {p : Ps} {W : World} (h : PsL w B T p W) (hG : G W) (p' : Ps) (o : Option Rq) (hn : nextQ p = (p', o)) (hl : p.inp.length + p.und.length ≤ 90000) :
    Calls Tryz.prog 11 #[.pointer (some ⟨B, 0, none⟩)] W (NextL w B T W p' o) := by
  obtain ⟨fv, cv, h1⟩ := h.at'
  have := next_any B T p fv cv W hG h1 hl
  rw [hn] at this
  refine this.mono fun e W' hp => ?_
  obtain ⟨rv, T', fv', cv', k1, k2, k3, k4, k5, k6, k7⟩ := hp
  exact ⟨rv, T', k1, k2, k3, k4, ⟨⟨fv', cv', k5⟩, h.g.ch k6 (fun k hk => Nat.le_trans h.le (h1.tl k hk).1), h.le⟩, k6, k7⟩
theorem PsL.new {w W : World} (hG : G W) (hg : Gr w W) :
    Calls Tryz.prog 17 #[] W fun e W' => e = .returned (.pointer (some ⟨W.heap.size, 0, none⟩)) ∧ PsL w W.heap.size (fun k => k = W.heap.size) ps0 W' ∧ Gr W W' :=
  (qnew_any W hG).mono fun _ _ ⟨he, h1, h2⟩ => ⟨he, ⟨⟨_, _, h1⟩, hg.trans h2, Below.size hg⟩, h2⟩
theorem PsL.G {w : World} {B : Nat} {T : Nat → Prop} {p : Ps} {W : World} (h : PsL w B T p W) (hG : G w) : G W := hG.gr h.g
/-- What stands in a parser's hand stays so. -/
theorem PsL.keepF {_w : World} {_B : Nat} {T : Nat → Prop} {_p : Ps} {W W' : World} {rv : Value} {fs : List Fl} (hf : FieldsAt W rv fs) (hc : Ch T W W') (ho : FOut T rv) : FieldsAt W' rv fs := hf.ch hc ho
end Go.Proofs.YtpncfeaaffgkfaaGreatDoor
namespace Go.Proofs.YtpncfeaaffgkfaaGreatDoor
open Go.RowKit
attribute [local go_sem] Oper.semAt_some

theorem feed0 (s : List UInt8) : feedQ ps0 s = { ps0 with inp := s } := rfl
/-- What is wrong of bytes, asked for once. -/
def codeQ (s : List UInt8) : Nat := match oneQ s with
  | .more => 0
  | .bad c => c
  | .got _ _ => 0
theorem code_next (s : List UInt8) : (nextQ { ps0 with inp := s }).1.bad = codeQ s := by
  have h := (Stands.fresh (p := { ps0 with inp := s }) (s := s) rfl).next
  unfold NextOk at h
  unfold codeQ
  cases ho : oneQ s with
  | more => rw [ho] at h; exact h.2.1
  | bad c => rw [ho] at h; exact h.2.1
  | got r n => rw [ho] at h; rw [h.2]; rfl
set_option maxHeartbeats 8000000 in
set_option maxRecDepth 100000 in
theorem code_any (s : List UInt8) (c : Nat) (hc : codeQ s = c) (w : World) (hG : G w) (hl : s.length ≤ 80000) :
    Calls Tryz.prog 22 #[.string ⟨s.toArray⟩] w fun e w' => e = .returned (.int .i64 c) ∧ Gr w w' := by
  have hG' := Lib.hid hG
  obtain ⟨⟨p1, o1⟩, hn⟩ : ∃ x, nextQ { ps0 with inp := s } = x := ⟨_, rfl⟩
  have hb1 := Lib.hid (show p1.bad = c by rw [← hc, ← code_next, hn])
  have hn' := Lib.hid hn
  clear hG hc hn
  go_enter Tryz.func22, Tryz.ntmps22
  go_wp2_with fail
  refine (PsL.new (w := w) hG'.out (Gr.refl w)).mono ?_
  rintro e w1 ⟨rfl, h1, hg1⟩
  have h1' := Lib.hid h1
  clear h1 hg1
  obtain ⟨B, hB⟩ : ∃ x, w.heap.size = x := ⟨_, rfl⟩
  rw [hB] at h1' ⊢
  clear hB
  go_wp2_with fail
  refine (h1'.out.feed s (by show 0 + s.length ≤ _; omega)).mono ?_
  rintro e w2 ⟨rfl, T2, h2, _, _⟩
  rw [feed0] at h2
  have h2' := Lib.hid h2
  clear h2 h1'
  go_wp2_with fail
  refine (h2'.out.next (h2'.out.G hG'.out) p1 o1 hn'.out (by show s.length + 0 ≤ _; omega)).mono ?_
  rintro e w3 ⟨rv, T3, rfl, _, _, _, h3, _, _⟩
  have h3' := Lib.hid h3
  clear h3 h2'
  go_wp2_with fail
  refine (h3'.out.bad c hb1.out).mono ?_
  rintro e w4 ⟨rfl, rfl⟩
  have hg := Lib.hid h3'.out.g
  clear h3'
  go_wp2
  go_ret
  exact ⟨rfl, hg.out⟩
theorem PsL.lt {w : World} {B : Nat} {T : Nat → Prop} {p : Ps} {W : World} (h : PsL w B T p W) : ∀ k, T k → k < W.heap.size := by
  obtain ⟨fv, cv, h1⟩ := h.at'
  exact fun k hk => (h1.tl k hk).2
theorem awk_next1 : nextQ { ps0 with inp := awk9 } = ({ ps0 with inp := awk9.drop 30 }, some awkR) := by
  have h := (Stands.fresh (p := { ps0 with inp := awk9 }) (s := awk9) rfl).next
  unfold NextOk at h
  rw [awk_one] at h
  exact Prod.ext h.2 h.1
theorem awk_next2 : ∃ p3, nextQ { ps0 with inp := awk9.drop 30 } = (p3, none) ∧ p3.bad = 0 ∧ idleQ p3 = false := by
  have h := (Stands.fresh (p := { ps0 with inp := awk9.drop 30 }) (s := awk9.drop 30) rfl).next
  obtain ⟨x, hx⟩ : ∃ x, nextQ { ps0 with inp := awk9.drop 30 } = x := ⟨_, rfl⟩
  rw [hx] at h
  unfold NextOk at h
  rw [awk_two] at h
  obtain ⟨h1, h2, h3⟩ := h
  exact ⟨x.1, by rw [hx]; exact Prod.ext rfl h1, h2, by rw [h3.idle, h2]; rfl⟩
set_option maxHeartbeats 8000000 in
set_option maxRecDepth 100000 in
theorem awake9_any (w : World) (hG : G w) : Calls Tryz.prog 9 #[] w fun e w' => e = .returned (.bool true) ∧ Gr w w' := by
  have hG' := Lib.hid hG
  obtain ⟨p3, hn2, hb3, hi3⟩ := awk_next2
  have hn2' := Lib.hid hn2
  have hb3' := Lib.hid hb3
  have hi3' := Lib.hid hi3
  clear hG hn2 hb3 hi3
  go_enter Tryz.func9, Tryz.ntmps9
  go_wp2_with fail
  refine (PsL.new (w := w) hG'.out (Gr.refl w)).mono ?_
  rintro e w1 ⟨rfl, h1, hg1⟩
  have h1' := Lib.hid h1
  clear h1 hg1
  obtain ⟨B, hB⟩ : ∃ x, w.heap.size = x := ⟨_, rfl⟩
  rw [hB] at h1' ⊢
  clear hB
  go_wp2_with fail
  refine (h1'.out.feed awk9 (by decide)).mono ?_
  rintro e w2 ⟨rfl, T2, h2, _, _⟩
  rw [feed0] at h2
  have h2' := Lib.hid h2
  clear h2 h1'
  go_wp2_with fail
  refine (h2'.out.next (h2'.out.G hG'.out) _ _ awk_next1 (by decide)).mono ?_
  rintro e w3 ⟨rv, T3, rfl, hF, hO, hlt, h3, _, _⟩
  have hF' := Lib.hid hF
  obtain ⟨pf, capf, rfl, _⟩ := hF
  rw [show (rqO (some awkR)).V (.slice pf (rqO (some awkR)).fs.length capf) = .agg #[.string ⟨#[71, 69, 84]⟩, .string ⟨#[47, 97]⟩, .string ⟨#[98]⟩, .int .i64 11, .slice pf 1 capf, .string ⟨#[]⟩, .bool false] from rfl, show (some awkR).isSome = true from rfl]
  have h3' := Lib.hid h3
  have hO' := Lib.hid hO
  have gA := Gr.alloc w3 (.cells #[.string ⟨#[71, 69, 84]⟩, .string ⟨#[47, 97]⟩, .string ⟨#[98]⟩, .int .i64 11, .slice pf 1 capf, .string ⟨#[]⟩, .bool false] 27)
  have y0 := cell_new7 w3 [.string ⟨#[71, 69, 84]⟩, .string ⟨#[47, 97]⟩, .string ⟨#[98]⟩, .int .i64 11, .slice pf 1 capf, .string ⟨#[]⟩, .bool false] 27 0 _ rfl
  have y1 := cell_new7 w3 [.string ⟨#[71, 69, 84]⟩, .string ⟨#[47, 97]⟩, .string ⟨#[98]⟩, .int .i64 11, .slice pf 1 capf, .string ⟨#[]⟩, .bool false] 27 1 _ rfl
  have y2 := cell_new7 w3 [.string ⟨#[71, 69, 84]⟩, .string ⟨#[47, 97]⟩, .string ⟨#[98]⟩, .int .i64 11, .slice pf 1 capf, .string ⟨#[]⟩, .bool false] 27 2 _ rfl
  have y3 := cell_new7 w3 [.string ⟨#[71, 69, 84]⟩, .string ⟨#[47, 97]⟩, .string ⟨#[98]⟩, .int .i64 11, .slice pf 1 capf, .string ⟨#[]⟩, .bool false] 27 3 _ rfl
  have y4 := cell_new7 w3 [.string ⟨#[71, 69, 84]⟩, .string ⟨#[47, 97]⟩, .string ⟨#[98]⟩, .int .i64 11, .slice pf 1 capf, .string ⟨#[]⟩, .bool false] 27 4 _ rfl
  have y5 := cell_new7 w3 [.string ⟨#[71, 69, 84]⟩, .string ⟨#[47, 97]⟩, .string ⟨#[98]⟩, .int .i64 11, .slice pf 1 capf, .string ⟨#[]⟩, .bool false] 27 5 _ rfl
  have y6 := cell_new7 w3 [.string ⟨#[71, 69, 84]⟩, .string ⟨#[47, 97]⟩, .string ⟨#[98]⟩, .int .i64 11, .slice pf 1 capf, .string ⟨#[]⟩, .bool false] 27 6 _ rfl
  have hlt3 := Lib.hid (show ¬ T3 w3.heap.size from fun e => Nat.lt_irrefl _ (h3.lt _ e))
  have h4 := h3.gr gA
  have hF4 := Lib.hid (hF'.out.gr gA)
  clear hO hlt h3 h2' hF'
  go_upto_region 4 with (fail)
  obtain ⟨R, hRe⟩ : ∃ x, w3.heap.size = x := ⟨_, rfl⟩
  rw [hRe] at y0 y1 y2 y3 y4 y5 y6 hlt3 ⊢
  generalize (w3.alloc (.cells #[.string ⟨#[71, 69, 84]⟩, .string ⟨#[47, 97]⟩, .string ⟨#[98]⟩, .int .i64 11, .slice pf 1 capf, .string ⟨#[]⟩, .bool false] 27)) = w4 at y0 y1 y2 y3 y4 y5 y6 h4 hF4 ⊢
  have h4' := Lib.hid h4
  clear gA hRe h4 h3'
  go_wp2_with fail
  refine (h4'.out.next (h4'.out.G hG'.out) p3 none hn2'.out (by decide)).mono ?_
  rintro e w5 ⟨rv5, T5, rfl, hF5, _, _, h5, hC5, _⟩
  obtain ⟨p5, c5, rfl, _⟩ := hF5
  rw [show (rqO none).V (.slice p5 (rqO none).fs.length c5) = .agg #[.string ⟨#[]⟩, .string ⟨#[]⟩, .string ⟨#[]⟩, .int .i64 0, .slice p5 0 c5, .string ⟨#[]⟩, .bool false] from rfl, show (none : Option Rq).isSome = false from rfl]
  have hF6 := Lib.hid (hF4.out.ch hC5 hO'.out)
  replace y0 := (hC5.cell (cell_lt y0) hlt3.out).trans y0
  replace y1 := (hC5.cell (cell_lt y1) hlt3.out).trans y1
  replace y2 := (hC5.cell (cell_lt y2) hlt3.out).trans y2
  replace y3 := (hC5.cell (cell_lt y3) hlt3.out).trans y3
  replace y4 := (hC5.cell (cell_lt y4) hlt3.out).trans y4
  replace y5 := (hC5.cell (cell_lt y5) hlt3.out).trans y5
  replace y6 := (hC5.cell (cell_lt y6) hlt3.out).trans y6
  have h5' := Lib.hid h5
  clear h5 hC5 hF4 hO' hlt3 h4'
  go_upto_region 6 with (fail)
  have gB : Gr w5 (((w5.alloc (.cells #[.string ⟨#[]⟩, .string ⟨#[]⟩, .string ⟨#[]⟩, .int .i64 0, .slice p5 0 c5, .string ⟨#[]⟩, .bool false] 27)).alloc (.cells #[.string ⟨#[72, 111, 115, 116]⟩, .string ⟨#[120]⟩] 45)).alloc (.cells #[.string ⟨#[71, 69, 84]⟩, .string ⟨#[47, 97]⟩, .string ⟨#[98]⟩, .int .i64 11, .slice (some ⟨w5.heap.size + 1, 0, none⟩) 1 1, .string ⟨#[]⟩, .bool false] 27)) := ((Gr.alloc w5 _).alloc1 _).alloc1 _
  have hWant : FieldsAt (((w5.alloc (.cells #[.string ⟨#[]⟩, .string ⟨#[]⟩, .string ⟨#[]⟩, .int .i64 0, .slice p5 0 c5, .string ⟨#[]⟩, .bool false] 27)).alloc (.cells #[.string ⟨#[72, 111, 115, 116]⟩, .string ⟨#[120]⟩] 45)).alloc (.cells #[.string ⟨#[71, 69, 84]⟩, .string ⟨#[47, 97]⟩, .string ⟨#[98]⟩, .int .i64 11, .slice (some ⟨w5.heap.size + 1, 0, none⟩) 1 1, .string ⟨#[]⟩, .bool false] 27)) (.slice (some ⟨w5.heap.size + 1, 0, none⟩) 1 1) [([72, 111, 115, 116], [120])] := by
    have h1 := fieldsAt_new (w5.alloc (.cells #[.string ⟨#[]⟩, .string ⟨#[]⟩, .string ⟨#[]⟩, .int .i64 0, .slice p5 0 c5, .string ⟨#[]⟩, .bool false] 27)) [([72, 111, 115, 116], [120])] 45 1
    have h2 := h1.gr (Gr.alloc _ (.cells #[.string ⟨#[71, 69, 84]⟩, .string ⟨#[47, 97]⟩, .string ⟨#[98]⟩, .int .i64 11, .slice (some ⟨w5.heap.size + 1, 0, none⟩) 1 1, .string ⟨#[]⟩, .bool false] 27))
    simpa [rcells, fcell] using h2
  have n0 : (((w5.alloc (.cells #[.string ⟨#[]⟩, .string ⟨#[]⟩, .string ⟨#[]⟩, .int .i64 0, .slice p5 0 c5, .string ⟨#[]⟩, .bool false] 27)).alloc (.cells #[.string ⟨#[72, 111, 115, 116]⟩, .string ⟨#[120]⟩] 45)).alloc (.cells #[.string ⟨#[71, 69, 84]⟩, .string ⟨#[47, 97]⟩, .string ⟨#[98]⟩, .int .i64 11, .slice (some ⟨w5.heap.size + 1, 0, none⟩) 1 1, .string ⟨#[]⟩, .bool false] 27)).cell? ⟨w5.heap.size + 2, 0, none⟩ = some (.string ⟨#[71, 69, 84]⟩) := by simp [go_sem]
  have n1 : (((w5.alloc (.cells #[.string ⟨#[]⟩, .string ⟨#[]⟩, .string ⟨#[]⟩, .int .i64 0, .slice p5 0 c5, .string ⟨#[]⟩, .bool false] 27)).alloc (.cells #[.string ⟨#[72, 111, 115, 116]⟩, .string ⟨#[120]⟩] 45)).alloc (.cells #[.string ⟨#[71, 69, 84]⟩, .string ⟨#[47, 97]⟩, .string ⟨#[98]⟩, .int .i64 11, .slice (some ⟨w5.heap.size + 1, 0, none⟩) 1 1, .string ⟨#[]⟩, .bool false] 27)).cell? ⟨w5.heap.size + 2, 1, none⟩ = some (.string ⟨#[47, 97]⟩) := by simp [go_sem]
  have n2 : (((w5.alloc (.cells #[.string ⟨#[]⟩, .string ⟨#[]⟩, .string ⟨#[]⟩, .int .i64 0, .slice p5 0 c5, .string ⟨#[]⟩, .bool false] 27)).alloc (.cells #[.string ⟨#[72, 111, 115, 116]⟩, .string ⟨#[120]⟩] 45)).alloc (.cells #[.string ⟨#[71, 69, 84]⟩, .string ⟨#[47, 97]⟩, .string ⟨#[98]⟩, .int .i64 11, .slice (some ⟨w5.heap.size + 1, 0, none⟩) 1 1, .string ⟨#[]⟩, .bool false] 27)).cell? ⟨w5.heap.size + 2, 2, none⟩ = some (.string ⟨#[98]⟩) := by simp [go_sem]
  have n3 : (((w5.alloc (.cells #[.string ⟨#[]⟩, .string ⟨#[]⟩, .string ⟨#[]⟩, .int .i64 0, .slice p5 0 c5, .string ⟨#[]⟩, .bool false] 27)).alloc (.cells #[.string ⟨#[72, 111, 115, 116]⟩, .string ⟨#[120]⟩] 45)).alloc (.cells #[.string ⟨#[71, 69, 84]⟩, .string ⟨#[47, 97]⟩, .string ⟨#[98]⟩, .int .i64 11, .slice (some ⟨w5.heap.size + 1, 0, none⟩) 1 1, .string ⟨#[]⟩, .bool false] 27)).cell? ⟨w5.heap.size + 2, 3, none⟩ = some (.int .i64 11) := by simp [go_sem]
  have n4 : (((w5.alloc (.cells #[.string ⟨#[]⟩, .string ⟨#[]⟩, .string ⟨#[]⟩, .int .i64 0, .slice p5 0 c5, .string ⟨#[]⟩, .bool false] 27)).alloc (.cells #[.string ⟨#[72, 111, 115, 116]⟩, .string ⟨#[120]⟩] 45)).alloc (.cells #[.string ⟨#[71, 69, 84]⟩, .string ⟨#[47, 97]⟩, .string ⟨#[98]⟩, .int .i64 11, .slice (some ⟨w5.heap.size + 1, 0, none⟩) 1 1, .string ⟨#[]⟩, .bool false] 27)).cell? ⟨w5.heap.size + 2, 4, none⟩ = some (.slice (some ⟨w5.heap.size + 1, 0, none⟩) 1 1) := by simp [go_sem]
  have n5 : (((w5.alloc (.cells #[.string ⟨#[]⟩, .string ⟨#[]⟩, .string ⟨#[]⟩, .int .i64 0, .slice p5 0 c5, .string ⟨#[]⟩, .bool false] 27)).alloc (.cells #[.string ⟨#[72, 111, 115, 116]⟩, .string ⟨#[120]⟩] 45)).alloc (.cells #[.string ⟨#[71, 69, 84]⟩, .string ⟨#[47, 97]⟩, .string ⟨#[98]⟩, .int .i64 11, .slice (some ⟨w5.heap.size + 1, 0, none⟩) 1 1, .string ⟨#[]⟩, .bool false] 27)).cell? ⟨w5.heap.size + 2, 5, none⟩ = some (.string ⟨#[]⟩) := by simp [go_sem]
  have n6 : (((w5.alloc (.cells #[.string ⟨#[]⟩, .string ⟨#[]⟩, .string ⟨#[]⟩, .int .i64 0, .slice p5 0 c5, .string ⟨#[]⟩, .bool false] 27)).alloc (.cells #[.string ⟨#[72, 111, 115, 116]⟩, .string ⟨#[120]⟩] 45)).alloc (.cells #[.string ⟨#[71, 69, 84]⟩, .string ⟨#[47, 97]⟩, .string ⟨#[98]⟩, .int .i64 11, .slice (some ⟨w5.heap.size + 1, 0, none⟩) 1 1, .string ⟨#[]⟩, .bool false] 27)).cell? ⟨w5.heap.size + 2, 6, none⟩ = some (.bool false) := by simp [go_sem]
  replace y0 := gB.cell y0
  replace y1 := gB.cell y1
  replace y2 := gB.cell y2
  replace y3 := gB.cell y3
  replace y4 := gB.cell y4
  replace y5 := gB.cell y5
  replace y6 := gB.cell y6
  have hF7 := Lib.hid (hF6.out.gr gB)
  have h7 := Lib.hid (h5'.out.gr gB)
  have hWant' := Lib.hid hWant
  clear hF6 h5' gB hWant
  generalize (((w5.alloc (.cells #[.string ⟨#[]⟩, .string ⟨#[]⟩, .string ⟨#[]⟩, .int .i64 0, .slice p5 0 c5, .string ⟨#[]⟩, .bool false] 27)).alloc (.cells #[.string ⟨#[72, 111, 115, 116]⟩, .string ⟨#[120]⟩] 45)).alloc (.cells #[.string ⟨#[71, 69, 84]⟩, .string ⟨#[47, 97]⟩, .string ⟨#[98]⟩, .int .i64 11, .slice (some ⟨w5.heap.size + 1, 0, none⟩) 1 1, .string ⟨#[]⟩, .bool false] 27)) = w8 at y0 y1 y2 y3 y4 y5 y6 n0 n1 n2 n3 n4 n5 n6 hF7 h7 hWant' ⊢
  have hsm := Lib.hid (show Calls Tryz.prog 18 #[.agg #[.string ⟨#[71, 69, 84]⟩, .string ⟨#[47, 97]⟩, .string ⟨#[98]⟩, .int .i64 11, .slice pf 1 capf, .string ⟨#[]⟩, .bool false], .agg #[.string ⟨#[71, 69, 84]⟩, .string ⟨#[47, 97]⟩, .string ⟨#[98]⟩, .int .i64 11, .slice (some ⟨w5.heap.size + 1, 0, none⟩) 1 1, .string ⟨#[]⟩, .bool false]] w8 fun e w' => e = .returned (.bool true) ∧ Gr w8 w' from same9_any awkR _ _ w8 hF7.out hWant'.out (by decide))
  clear hF7 hWant'
  go_wp2_with fail
  refine hsm.out.mono ?_
  rintro e w9 ⟨rfl, hb⟩
  have h9 := Lib.hid (h7.out.gr hb)
  clear hb hsm h7 y0 y1 y2 y3 y4 y5 y6 n0 n1 n2 n3 n4 n5 n6
  go_wp2_with fail
  refine (h9.out.bad 0 hb3'.out).mono ?_
  rintro e w10 ⟨rfl, rfl⟩
  go_wp2_with fail
  refine (h9.out.idle false hi3'.out).mono ?_
  rintro e w10 ⟨rfl, rfl⟩
  have hg := Lib.hid h9.out.g
  clear h9
  go_wp2
  go_ret
  exact ⟨rfl, hg.out⟩
end Go.Proofs.YtpncfeaaffgkfaaGreatDoor
