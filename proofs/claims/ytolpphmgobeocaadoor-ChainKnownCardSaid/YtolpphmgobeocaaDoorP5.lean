/-
  Plain laws of steps around a handler: no program in sight.
-/
import Derived.Test.YtolpphmgobeocaaDoorP3
namespace Go.Proofs.YtolpphmgobeocaaDoor

theorem trim_same (l : List UInt8) : (trimB l == l) = (l.isEmpty || (!isBlank (l.headD 0) && !isBlank (l.getLastD 0))) := by
  by_cases h0 : l = []
  · subst h0; rfl
  · have hlen : 0 < l.length := List.length_pos_iff.2 h0
    have hE : l.isEmpty = false := by simpa using h0
    rw [hE, Bool.false_or]
    have hh : l.headD 0 = l[0] := by cases l; cases hlen; rfl
    have hl : l.getLastD 0 = l[l.length - 1] := by
      rw [List.getLastD_eq_getLast?, List.getLast?_eq_getElem?, List.getElem?_eq_getElem (by omega)]; rfl
    rw [hh, hl, Bool.eq_iff_iff, beq_iff_eq, Bool.and_eq_true, Bool.not_eq_true', Bool.not_eq_true']
    constructor
    · intro e
      have h1 := trim_head (l := l) (by rw [e]; exact hlen)
      have h2 := trim_last (l := l) (by rw [e]; exact hlen)
      simp only [e] at h1 h2
      exact ⟨h1, h2⟩
    · rintro ⟨h1, h2⟩
      rw [trimB_eq, rdrop_id (k := l.length - 1) (by omega) h2]
      cases l with
      | nil => cases hlen
      | cons c t => exact ldrop_cons_f h1

/-- A step. -/
structure Stp where
  kind : Int
  name : List UInt8
  value : List UInt8
  n : Int
/-- A request. -/
structure Rq where
  m : List UInt8
  p : List UInt8
  q : List UInt8
  v : Int
  fs : List (List UInt8 × List UInt8)
  b : List UInt8
  c : Bool
/-- A reply. -/
structure Rp where
  code : Int
  fs : List (List UInt8 × List UInt8)
  b : List UInt8

def wAllow : List UInt8 := [65, 108, 108, 111, 119]
def wConn : List UInt8 := [67, 111, 110, 110, 101, 99, 116, 105, 111, 110]
def wLen : List UInt8 := [67, 111, 110, 116, 101, 110, 116, 45, 76, 101, 110, 103, 116, 104]
def wAcc : List UInt8 := [83, 101, 99, 45, 87, 101, 98, 83, 111, 99, 107, 101, 116, 45, 65, 99, 99, 101, 112, 116]
def wVer : List UInt8 := [83, 101, 99, 45, 87, 101, 98, 83, 111, 99, 107, 101, 116, 45, 86, 101, 114, 115, 105, 111, 110]
def wTra : List UInt8 := [84, 114, 97, 110, 115, 102, 101, 114, 45, 69, 110, 99, 111, 100, 105, 110, 103]
def wUpg : List UInt8 := [85, 112, 103, 114, 97, 100, 101]
def ownsL : List (List UInt8) := [wAllow, wConn, wLen, wAcc, wVer, wTra, wUpg]
def ownB (s : List UInt8) : Bool := ownsL.any fun o => alikeB o s
def lowsL : List (List UInt8) := ownsL.map (·.map lower)
theorem own_low (s : List UInt8) : ownB s = lowsL.contains (s.map lower) := by
  unfold ownB lowsL alikeB
  induction ownsL with
  | nil => rfl
  | cons o t ih =>
    rw [List.any_cons, ih, List.map_cons, List.contains_cons, Bool.beq_comm]

def plainB (v : List UInt8) : Bool := v.all isVal && (v.isEmpty || (!isBlank (v.headD 0) && !isBlank (v.getLastD 0)))
def addB (name value : List UInt8) : Bool := (parseB (name ++ [58] ++ value)).2.2 && ((parseB (name ++ [58] ++ value)).1 == name && (parseB (name ++ [58] ++ value)).2.1 == value)
theorem addB_eq (name value : List UInt8) : addB name value = (tokB name && plainB value) := by
  unfold addB plainB
  cases ht : tokB name
  · rcases parse_cases (name ++ [58] ++ value) with h | ⟨n, x, _, hn, _, hp⟩
    · rw [h]; rfl
    · rw [hp]
      have : (n == name) = false := beq_eq_false_iff_ne.2 fun e => by rw [e, ht] at hn; cases hn
      simp [this]
  · rw [parse_colon ht, ← trim_same]
    cases hv : value.all isVal <;> simp

def slashB (l : List UInt8) : Bool := decide (1 < l.length) && (l.headD 0 == 47) && !(l.getLastD 0 == 47)
/-- Is a step right? -/
def rightB (s : Stp) : Bool :=
  if s.kind = 1 then tokB s.name && plainB s.value && !ownB s.name && decide (s.n = 0)
  else if s.kind = 2 then tokB s.name && decide (s.n = 0)
  else if s.kind = 3 then decide (0 ≤ s.n) && s.name.isEmpty && s.value.isEmpty
  else if s.kind = 4 then slashB s.value && s.name.isEmpty && decide (s.n = 0)
  else if s.kind = 5 then tokB s.name && tokB s.value && !ownB s.value && decide (s.n = 0)
  else false

/-- The first value of a name's field. -/
def getO (fs : List (List UInt8 × List UInt8)) (name : List UInt8) : Option (List UInt8) := (fs.find? fun f => alikeB f.1 name).map (·.2)

def rForb : Rp := ⟨403, [], [102, 111, 114, 98, 105, 100, 100, 101, 110]⟩
def rLong : Rp := ⟨413, [], [116, 111, 111, 32, 108, 111, 110, 103]⟩
def rNone : Rp := ⟨404, [], [110, 111, 116, 32, 102, 111, 117, 110, 100]⟩
/-- What is left of a text behind a beginning. -/
def restO (l p : List UInt8) : Option (List UInt8) := if p.isPrefixOf l then some (l.drop p.length) else none
/-- Does a step refuse a request, and with what? -/
def refuses (s : Stp) (r : Rq) : Option Rp :=
  if s.kind = 2 then
    match getO r.fs s.name with
    | none => some rForb
    | some v => if !s.value.isEmpty && !(v == s.value) then some rForb else none
  else if s.kind = 3 then (if s.n < r.b.length then some rLong else none)
  else if s.kind = 4 then
    match restO r.p s.value with
    | none => some rNone
    | some t => if !t.isEmpty && !(t.headD 0 == 47) then some rNone else none
  else none
/-- The request behind a step. -/
def turns (s : Stp) (r : Rq) : Rq :=
  if s.kind = 4 then { r with p := if r.p.drop s.value.length = [] then [47] else r.p.drop s.value.length } else r
/-- What a step adds to a reply. -/
def adds (s : Stp) (fs : List (List UInt8 × List UInt8)) : List (List UInt8 × List UInt8) :=
  if s.kind = 1 then [(s.name, s.value)]
  else if s.kind = 2 ∨ s.kind = 3 ∨ s.kind = 4 then []
  else [(s.value, (getO fs s.name).getD [45])]
theorem turns_fs (s : Stp) (r : Rq) : (turns s r).fs = r.fs := by unfold turns; split <;> rfl
theorem turns_b (s : Stp) (r : Rq) : (turns s r).b = r.b := by unfold turns; split <;> rfl
/-- How many steps a request passes, and what it is then; and what refuses it. -/
def goesB : List Stp → Rq → Nat × Rq × Option Rp
  | [], r => (0, r, none)
  | s :: l, r => match refuses s r with
    | some x => (0, r, some x)
    | none => let t := goesB l (turns s r); (t.1 + 1, t.2.1, t.2.2)
/-- The fields that a reply has more behind the steps. -/
def backB (l : List Stp) (fs : List (List UInt8 × List UInt8)) : List (List UInt8 × List UInt8) := (l.reverse.map fun s => adds s fs).flatten
theorem backB_cons (s : Stp) (l : List Stp) (fs : List (List UInt8 × List UInt8)) : backB (s :: l) fs = backB l fs ++ adds s fs := by simp [backB]
theorem backB_nil (fs : List (List UInt8 × List UInt8)) : backB [] fs = [] := rfl
theorem backB_app (l m : List Stp) (fs : List (List UInt8 × List UInt8)) : backB (l ++ m) fs = backB m fs ++ backB l fs := by simp [backB]
theorem goesB_le : ∀ (l : List Stp) (r : Rq), (goesB l r).1 ≤ l.length
  | [], _ => Nat.le_refl _
  | s :: l, r => by
    unfold goesB
    cases refuses s r with
    | some x => exact Nat.zero_le _
    | none => have := goesB_le l (turns s r); simp; omega
theorem goesB_fs : ∀ (l : List Stp) (r : Rq), (goesB l r).2.1.fs = r.fs
  | [], _ => rfl
  | s :: l, r => by
    unfold goesB
    cases refuses s r with
    | some x => rfl
    | none => exact (goesB_fs l (turns s r)).trans (turns_fs s r)
/-- What steps around a handler answer: the handler's reply to what comes to it, or the refusal, with the fields of the steps that were passed. -/
def through (l : List Stp) (r : Rq) (x : Rp) : Rp :=
  match (goesB l r).2.2 with
  | some y => { y with fs := y.fs ++ backB (l.take (goesB l r).1) r.fs }
  | none => { x with fs := x.fs ++ backB l r.fs }
theorem through_nil (r : Rq) (x : Rp) : through [] r x = x := by
  unfold through goesB; simp [backB_nil]
theorem through_refused {s : Stp} {l : List Stp} {r : Rq} {x y : Rp} (h : refuses s r = some y) : through (s :: l) r x = y := by
  unfold through goesB
  rw [h]
  simp [backB_nil]
theorem through_passed {s : Stp} {l : List Stp} {r : Rq} {x : Rp} (h : refuses s r = none) :
    through (s :: l) r x = { through l (turns s r) x with fs := (through l (turns s r) x).fs ++ adds s r.fs } := by
  unfold through
  rw [show goesB (s :: l) r = ((goesB l (turns s r)).1 + 1, (goesB l (turns s r)).2.1, (goesB l (turns s r)).2.2) by rw [goesB, h]]
  dsimp only
  cases (goesB l (turns s r)).2.2 with
  | some y => simp only [List.take_succ_cons, backB_cons, turns_fs, List.append_assoc]
  | none => simp only [backB_cons, turns_fs, List.append_assoc]
end Go.Proofs.YtolpphmgobeocaaDoor
