/-
  Control: calls.
-/
import Derived.Test.YtjjmmakledpifaaGreatDoorSV
set_option linter.unusedVariables false
set_option linter.unusedSimpArgs false
namespace Go.Ra
variable {P : Program} {m : Mp} {h : TB} {nx : Nat} {w : World} {nt : Nat} {a : Act} {z : TV} {ft : TF} {ex : Exec}

/-- What is asked of the functions of which a function that catches (f; q for the abstract machine) is made: a test (g) that returns, or raises pv; a closure that, behind a return, does nothing, and behind pv stores a text. -/
structure TrapOk (P : Program) (f : Nat) (q : AFn) (fn : Func) (T : TrapS) (g : Nat) (pv : Value) (s : ByteArray) (gl : GL) : Prop where
  func : P.funcs[f]? = some fn
  name : fn.name ≠ "runtime.NumGoroutine"
  size : fn.ntmps ≤ 4096 ∧ fn.params.size + fn.nfree ≤ fn.ntmps
  body : fn.body = some T.code
  res : fn.results.toList = [.cell T.s T.ty]
  y : (∃ ats, T.y.op = .defer ⟨.value (.tmp T.tc), #[], ats⟩) ∧ T.y.dst = none ∧ T.y.guard = none
  z : (∃ ats, T.z.op = .call ⟨.value (.func g), #[.tmp T.t], ats⟩) ∧ T.z.guard = none
  ok : okCode P fn.ntmps T.d = true
  ty : tyOf P T.ty = some (1, false)
  c : T.c < 8 ^ D
  q : cTrap P fn T (packB s) gl = some q
  flat : gl.flat = true
  need : ∀ a w, (callFunc g a).run P w = .ok (.enter g a) w
  clo : ∀ a w, (callFunc T.c a).run P w = .ok (.enter T.c a) w
  yes : ∀ w : World, 8 ≤ w.heap.size → Calls P g #[.bool true] w fun e w' => (∃ v, e = .returned v) ∧ RowKit.Below w.heap.size w w'
  no : ∀ w : World, 8 ≤ w.heap.size → GlW w gl → Calls P g #[.bool false] w fun e w' => e = .panicked [{ v := pv, recovered := false }] ∧ RowKit.Below w.heap.size w w'
  back : ∀ (w : World) (x : Value), CallsDIn Fence.wide 0 P T.c #[x] .returning w fun e u w' => (∃ v, e = .returned v) ∧ settle u = .returning ∧ RowKit.Below w.heap.size w w'
  catch_ : ∀ (w w' : World) (x : Value), (Instr.storeAt T.ty x (.string s)).run P w = .ok () w' → CallsDIn Fence.wide 0 P T.c #[x] (.panicking [{ v := pv, recovered := false }]) w fun e u w'' => (∃ v, e = .returned v) ∧ settle u = .returning ∧ w'' = w'
/-- What stands for a function. -/
def FnOk (P : Program) (f : Nat) (q : AFn) : Prop := q = .no ∨ (∃ fn T g pv s gl, TrapOk P f q fn T g pv s gl) ∨ (∃ g, q = .ext (.index g) ∧ IndexOk P f g) ∨ (∃ l, q = .ext (.truth l) ∧ TruthOk P f l) ∨ (q = .ext .overlaps ∧ OverOk P f) ∨ (∃ k e, q = .ext (.sorted k e) ∧ SortedOk P f k e) ∨ (∃ l a v, q = .ext (.known l a v) ∧ KnownOk P f l a v) ∨ ∃ fn, P.funcs[f]? = some fn ∧ fn.name ≠ "runtime.NumGoroutine" ∧ cFn P fn = some q
/-- The function table stands for the program's functions. -/
def FtOk (P : Program) (ft : TF) : Prop := ∀ f, f < 8 ^ D → FnOk P f (TF.get (bid f) ft)
/-- The fence's round is a loop's record. -/
def RoundOk (s : Start) : Option Nat → Prop
  | none => True
  | some l => ∃ r : Loop, s.w.heap[l]? = some (.loop r)
/-- What a run of the abstract machine says of code. -/
def ExOk (P : Program) (ex : Exec) : Prop := ∀ (c : Code) (nt : Nat) (ac : ACode) (s : Start) (ro : Option Nat) (m : Mp) (z : TV) (h : TB) (nx : Nat) (a : Act) (w : World) (r : R), nt ≤ 4096 → cCode P nt c = some ac → RoundOk s ro → St P s nt m z h nx a w → ex ac z h nx = r → r ≠ .fail →
  c.wpIn (fnc ro) 0 P (Post P s nt r) a w ∧ ∀ b, c = .loop b → LoopIn (fnc ro) 0 P b (Post P s nt r) a w

/-- .. of the first operations of a region. -/
def RegTo (P : Program) (ex : Exec) : Prop := ∀ (ops : Array Oper) (l l' : List Oper) (nt : Nat) (al : ARg) (s : Start) (ro : Option Nat) (m : Mp) (z : TV) (h : TB) (nx : Nat) (a : Act) (w : World) (r : R), nt ≤ 4096 → ops.toList = l ++ l' → cRg P nt ops l = some al → St P s nt m z h nx a w → ex (.region al) z h nx = r → r ≠ .fail →
  wpOpsIn (fnc ro) 0 P ops (Post P s nt r) (List.range l.length) a w

/-! Arguments -/
theorem get_fill {lv : Nat} {t : Nat} (ht : t < 8 ^ lv) : ∀ (k i : Nat) (args : AV) (z : TV), i + k ≤ 8 ^ lv → TV.get (pth lv t) (fillP ((List.range' i k).map (pth lv)) args z) = if i ≤ t ∧ t < i + k then args.nth (t - i) else TV.get (pth lv t) z := by
  intro k
  induction k with
  | zero =>
    intro i args z hk
    rw [if_neg (by omega)]
    rfl
  | succ k ih =>
    intro i args z hk
    rw [List.range'_succ, List.map_cons]
    show TV.get (pth lv t) (fillP ((List.range' (i + 1) k).map (pth lv)) args.tl (TV.set (pth lv i) args.hd z)) = _
    rw [ih (i + 1) args.tl _ (by omega)]
    by_cases h1 : i + 1 ≤ t ∧ t < i + 1 + k
    · rw [if_pos h1, if_pos (by omega)]
      obtain ⟨j, rfl⟩ : ∃ j, t = i + 1 + j := ⟨t - (i + 1), by omega⟩
      rw [show i + 1 + j - (i + 1) = j by omega, show i + 1 + j - i = j + 1 by omega]
      rfl
    · rw [if_neg h1, TV.get_set (by rw [plen_pth, plen_pth])]
      by_cases h2 : t = i
      · subst h2
        rw [if_pos rfl, if_pos (by omega), Nat.sub_self]
        rfl
      · rw [if_neg (fun e => h2 (pth_inj ht (by omega) e)), if_neg (by omega)]
theorem nth_rel {args : AV} {l : List Value} (ha : VRels m args l) (i : Nat) : VRel m (args.nth i) (l.getD i undef) := by
  induction i generalizing args l with
  | zero =>
    cases ha with
    | nil => exact .undef _
    | cons a l v vs h t => exact h
  | succ i ih =>
    cases ha with
    | nil =>
      have := ih (args := .nl) (l := []) .nil
      rw [show (AV.nl).nth (i + 1) = (AV.nl).nth i from rfl]
      simpa using this
    | cons a l v vs h t => simpa using ih t
theorem enter_rel {args : AV} {l : List Value} (ha : VRels m args l) {k : Nat} (hn : nt ≤ 4096) (hk : k ≤ nt) : TRel m nt (fillP ((List.range k).map (pth (lev nt))) args (.leaf .undef)) (⟨l⟩ ++ Array.replicate (nt - l.length) undef) := by
  have hle := lev_le hn
  refine ⟨by simp; omega, fun t ht => ?_⟩
  rw [List.range_eq_range', get_fill (by omega) k 0 args _ (by omega)]
  have hd : (⟨l⟩ ++ Array.replicate (nt - l.length) undef : Array Value).getD t undef = l.getD t undef := by
    simp only [Array.getD_eq_getD_getElem?, List.getD_eq_getElem?_getD]
    by_cases hlt : t < l.length
    · rw [Array.getElem?_append_left (by simpa using hlt)]
      simp
    · rw [Array.getElem?_append_right (by simpa using hlt)]
      rw [List.getElem?_eq_none (by omega)]
      simp [Array.getElem?_replicate]
      split <;> rfl
  rw [hd]
  split
  · have := nth_rel ha t
    simpa using this
  · rw [show TV.get (pth (lev nt) t) (.leaf .undef) = .undef from TV.get_leaf]
    exact .undef _

/-! Marks -/
/-- A block that nobody names changes. -/
theorem Inv.away (I : Inv P m h nx w) {D : Nat} (hD : ∀ id e, m id = some e → e.blk ≠ D) (o : Obj) : Inv P m h nx (w.putObj D o) := by
  refine ⟨fun id e he => ?_, I.inj, I.dom, I.top, I.low, I.glob, I.ro, fun id e he => by simpa using I.lim id e he⟩
  rw [World.putObj_heap_other (hD id e he)]
  exact I.blk id e he
theorem Fr.away {s : Start} (F : Fr s.m s.h s.nx s.w m h nx w) {D : Nat} (hD : s.w.heap.size ≤ D) (o : Obj) : Fr s.m s.h s.nx s.w m h nx (w.putObj D o) := by
  refine ⟨F.sub, F.le, F.old, F.os, F.tape, F.output, by simpa using F.size, fun r hr hk => ?_, fun r l hl => ?_, F.fresh⟩
  · rw [World.putObj_heap_other (by omega)]
    exact F.keep r hr hk
  · have := (Array.getElem?_eq_some_iff.1 hl).1
    rw [World.putObj_heap_other (by omega)]
    exact F.loops r l hl
theorem leaves_marks {s : Start} {fn : Func} {tmps : Array Value} {R : Ending → World → Prop} {u : FrameMode} (hu : u ≠ .run) {ds0 : List Deferred} : ∀ (ds : List Deferred) (w : World), Inv P m h nx w → Fr s.m s.h s.nx s.w m h nx w → Marks0 s.w.heap.size m w ds →
    (∀ w', Inv P m h nx w' → Fr s.m s.h s.nx s.w m h nx w' → LeavesInM Fence.wide 0 P fn tmps R ds0 u w') → LeavesInM Fence.wide 0 P fn tmps R (ds ++ ds0) u w := by
  intro ds
  induction ds with
  | nil => exact fun w I F _ hr => hr w I F
  | cons d ds ih =>
    intro w I F K hr
    obtain ⟨D, h1, h2, h3, h4⟩ := K.1 d (List.mem_cons_self ..)
    refine ⟨hu, .inl ⟨D, w.putObj D (.deferred none), h1, run_takeDeferred h3, ?_⟩⟩
    refine ih _ (I.away h4 _) (F.away h2 _) ⟨fun d' hd' => ?_, ?_⟩ hr
    · obtain ⟨D', k1, k2, k3, k4⟩ := K.1 d' (List.mem_cons_of_mem _ hd')
      refine ⟨D', k1, k2, ?_, k4⟩
      rw [World.putObj_heap_other ?_]
      · exact k3
      · rintro rfl
        have := K.2
        rw [List.map_cons, List.nodup_cons] at this
        exact this.1 (by rw [h1, ← k1]; exact List.mem_map_of_mem hd')
    · have := K.2
      rw [List.map_cons, List.nodup_cons] at this
      exact this.2

theorem callFunc_enter {f : Nat} {fn : Func} (hf : P.funcs[f]? = some fn) (hno : fn.name ≠ "runtime.NumGoroutine") {c : Code} (hb : fn.body = some c) {l : Array Value} : (callFunc f l).run P w = .ok (.enter f l) w := by
  have h1 : (fn.name == "runtime.NumGoroutine") = false := by simpa using hno
  unfold callFunc
  simp only [Sem.run_bind, run_program, Result.andThen_ok, hf, h1, hb, Option.isNone_some, Bool.false_eq_true, if_false, Sem.run_pure]

theorem doneA_inv {res : List ARes} {v : AV} {h' : TB} {nx' : Nat} (hd : doneA res z h nx = .ok v h' nx') : ∃ c, resA res z h = some c ∧ v = resV c ∧ h' = h ∧ nx' = nx := by
  unfold doneA at hd
  cases hr : resA res z h with
  | none => rw [hr] at hd; cases hd
  | some c => rw [hr] at hd; cases hd; exact ⟨c, rfl, rfl, rfl, rfl⟩

/-! Functions that catch -/
section
variable {F : Fence} {n : Nat}
theorem wpOps_app {ops : Array Oper} {Q Q' : Exit → Act → World → Prop} {l2 : List Nat} (hn : ∀ a w, Q' .normal a w → wpOpsIn F n P ops Q l2 a w) (hq : ∀ e a w, e ≠ .normal → Q' e a w → Q e a w) (l1 : List Nat) :
    ∀ (a : Act) (w : World), wpOpsIn F n P ops Q' l1 a w → wpOpsIn F n P ops Q (l1 ++ l2) a w := by
  induction l1 with
  | nil => exact fun a w h => hn a w h
  | cons i l1 ih =>
    intro a w h
    rw [List.cons_append]
    simp only [wpOpsIn] at h ⊢
    cases ho : ops[i]? with
    | none => simp only [ho] at h ⊢; exact ih a w h
    | some o =>
      simp only [ho] at h ⊢
      split at h
      · rename_i hw
        rw [if_pos hw]
        refine ⟨h.1, ?_⟩
        have h2 := h.2
        revert h2
        generalize (o.semAt F.round a.eval).run P w = rr
        intro h2
        cases rr with
        | ok nxt w1 =>
          cases nxt with
          | value v => exact ih _ _ h2
          | skip => exact ih _ _ h2
          | defer d => exact ih _ _ h2
          | enter f args =>
            refine ⟨h2.1, CallsIn.mono h2.2 fun e w2 he => ?_⟩
            cases e with
            | returned v => exact ih _ _ he
            | panicked ch => exact hq _ _ _ (by simp) he
            | outgrown => exact he.elim fun a h => h.elim fun w h => ⟨a, w, hq _ _ _ (by simp) h⟩
          | row row args => exact ⟨h2.1, h2.2.mono fun v w2 he => ih _ _ he⟩
          | round l f tmps as bd =>
            refine ⟨h2.1, RoundIn.mono h2.2 fun e w2 he => ?_⟩
            cases e with
            | returned v => exact ih _ _ he
            | panicked ch => exact hq _ _ _ (by simp) he
            | outgrown => exact he.elim fun a h => h.elim fun w h => ⟨a, w, hq _ _ _ (by simp) h⟩
          | _ => exact h2.elim
        | halt s w1 =>
          cases s with
          | panic v => exact hq _ _ _ (by simp) h2
          | _ => exact h2.elim
      · rename_i hw
        rw [if_neg hw]
        exact ⟨h.1, ih _ _ h.2⟩
end
theorem goR_inv {r : R} {k : TV → TB → Nat → CR} {v : AV} {h' : TB} {nx' : Nat} (hk : goR r k = .ok v h' nx') : ∃ z h1 nx1, r = .norm z h1 nx1 ∧ k z h1 nx1 = .ok v h' nx' := by
  cases r with
  | norm z h1 nx1 => exact ⟨z, h1, nx1, rfl, hk⟩
  | _ => cases hk
theorem post_norm {s : Start} {h1 : TB} {nx1 : Nat} {z1 : TV} {e : Exit} (he : e ≠ .normal) (hp : Post P s nt (.norm z1 h1 nx1) e a w) {q : Prop} : q := by
  cases e with
  | normal => exact absurd rfl he
  | exit id => obtain ⟨_, _, _, _, h, _⟩ := hp; cases h
  | ret => obtain ⟨_, _, _, _, h, _⟩ := hp; cases h
  | _ => exact hp.elim
theorem wpOps_then {F : Fence} {n : Nat} {ops : Array Oper} {Q Q' : Exit → Act → World → Prop} {l : List Nat} (h : wpOpsIn F n P ops Q' l a w) (hn : ∀ a w, Q' .normal a w → Q .normal a w) (hq : ∀ e a w, e ≠ .normal → Q' e a w → Q e a w) : wpOpsIn F n P ops Q l a w := by
  have := wpOps_app (l2 := []) (Q := Q) (fun a w hh => hn a w hh) hq l a w h
  simpa using this
theorem callg_run {o : Oper} {g t : Nat} {ats : Array TypeId} (ho : o.op = .call ⟨.value (.func g), #[.tmp t], ats⟩) : (execOp a.eval o).run P w = (callFunc g #[a.tmps.getD t undef]).run P w := by
  obtain ⟨dst, op, ty, pos, after, guard⟩ := o
  simp only at ho
  subst ho
  rw [call_run (g := g) (l := []) (k := []) rfl]
  rfl
theorem defer_run {o : Oper} {t c : Nat} {ats : Array TypeId} {x0 : Value} (ho : o.op = .defer ⟨.value (.tmp t), #[], ats⟩) (hv : a.tmps.getD t undef = .func (.func c) #[] #[x0]) : (execOp a.eval o).run P w = .ok (.defer { target := .fn (.func c) #[x0], args := #[] }) w := by
  obtain ⟨dst, op, ty, pos, after, guard⟩ := o
  simp only at ho
  subst ho
  have : a.eval (.tmp t) = .func (.func c) #[] #[x0] := hv
  simp [execOp, resolve, this, Deferred.ofValue]
set_option maxHeartbeats 1000000 in
theorem trap_sound (hex : ExOk P ex) (hreg : RegTo P ex) {f g : Nat} {fn : Func} {T : TrapS} {pv : Value} {s : ByteArray} {gl : GL} (hT : TrapOk P f (TF.get (bid f) ft) fn T g pv s gl) {args : AV} {v : AV} {h' : TB} {nx' : Nat} {l : List Value}
    (hA : callA ft ex (bid f) args h nx = .ok v h' nx') (I : Inv P m h nx w) (ha : VRels m args l) : CallsIn Fence.wide 0 P f ⟨l⟩ w (RetA P m h nx w v h' nx') := by
  have hqq := hT.q
  unfold cTrap at hqq
  simp only [Option.bind_eq_bind, Option.bind_eq_some_iff, Option.some.injEq] at hqq
  obtain ⟨a0, h0, a1, h1, a2, h2, a3, h3, rest, hrest, res, hres, ps, hps, pt, hpt, d, hd, tc, htc, hq⟩ := hqq
  unfold callA at hA
  rw [← hq] at hA
  replace hA : trapA ex a0 a1 a2 a3 pt d rest res ps tc (bid T.c) (packB s) gl (fillP ((List.range (fn.params.size + fn.nfree)).map (pth (lev fn.ntmps))) args (.leaf .undef)) h nx = .ok v h' nx' := hA
  unfold trapA at hA
  obtain ⟨z0, hh0, nx0, r0, hA⟩ := goR_inv hA
  obtain ⟨z1, hh1, nx1, r1, hA⟩ := goR_inv hA
  cases hbq : AV.beq (TV.get tc z1) (.func (bid T.c) .nl (.cs (TV.get ps z1) .nl)) with
  | false => rw [hbq] at hA; cases hA
  | true =>
  rw [hbq] at hA
  replace hbq := AV.beq_eq _ _ hbq
  obtain ⟨z2, hh2, nx2, r2, hA⟩ := goR_inv hA
  obtain ⟨z3, hh3, nx3, r3, hA⟩ := goR_inv hA
  have hle := hT.size
  have hcode : cCode P fn.ntmps T.d = some rest := by rw [cCode_of P fn.ntmps T.d hT.ok]; exact hrest
  have hres' : fn.results.toList.mapM (cRes P fn.ntmps) = some res := by rw [hT.res]; exact hres
  obtain ⟨hyop, hydst, hyg⟩ := hT.y
  obtain ⟨yats, hyop⟩ := hyop
  obtain ⟨⟨zats, hzop⟩, hzg⟩ := hT.z
  obtain ⟨tslt, hpseq⟩ := cT_some hps
  obtain ⟨ttlt, hpteq⟩ := cT_some hpt
  obtain ⟨tclt, htceq⟩ := cT_some htc
  refine callsIn_of_wp_marks hT.func hT.body trivial ?_
  have hTT := enter_rel (nt := fn.ntmps) ha hle.1 hle.2
  have S : St P (.mk m h nx w []) fn.ntmps m (fillP ((List.range (fn.params.size + fn.nfree)).map (pth (lev fn.ntmps))) args (.leaf .undef)) h nx { tmps := ⟨l⟩ ++ Array.replicate (fn.ntmps - l.length) undef, defers := [] } w :=
    ⟨hTT, I, Fr.refl _ _ _ _, Marks.none⟩
  unfold TrapS.code
  -- the first region
  refine wpIn_seq (wpIn_region ?_)
  have w0 := hreg T.o0 T.o0.toList [] fn.ntmps a0 _ none m _ h nx _ w _ hle.1 (by simp) h0 S r0 (by simp)
  rw [Array.length_toList] at w0
  refine wpOps_then (F := Fence.wide) w0 (fun b0 W0 hp => ?_) fun e b0 W0 he hp => post_norm he hp
  obtain ⟨m0, _, _, _, hp, S0⟩ := hp
  cases hp
  -- the second one: a closure, deferred
  refine wpIn_seq (wpIn_region ?_)
  have w1 := hreg #[T.x, T.y] [T.x] [T.y] fn.ntmps a1 _ none _ _ _ _ _ W0 _ hle.1 rfl h1 S0 r1 (by simp)
  show wpOpsIn Fence.wide 0 P #[T.x, T.y] _ ([0] ++ [1]) _ _
  refine wpOps_app (F := Fence.wide) (fun b1 W1 hp => ?_) (fun e b1 W1 he hp => post_norm he hp) [0] _ _ w1
  obtain ⟨m1, _, _, _, hp, S1⟩ := hp
  cases hp
  have hclo := S1.T.2 T.tc tclt
  rw [← htceq, hbq] at hclo
  obtain ⟨x0, hx0, hv0⟩ : ∃ x0, b1.tmps.getD T.tc undef = .func (.func T.c) #[] #[x0] ∧ VRel m1 (TV.get ps z1) x0 := by
    generalize hp : bid T.c = pp at hclo
    generalize hu : b1.tmps.getD T.tc undef = u at hclo
    cases hclo with | func c' _ _ l1 l2 hlt k1 k2 =>
    obtain rfl := bid_of hT.c hlt hp
    cases k1
    cases k2 with | cons _ _ x0 _ k3 k4 =>
    cases k4
    exact ⟨x0, rfl, k3⟩
  have hgy : Region.wanted T.y (yielded #[T.x, T.y] b1.tmps) = true := by unfold Region.wanted; rw [hyg]
  have hy1 : (#[T.x, T.y] : Array Oper)[1]? = some T.y := rfl
  simp only [wpOpsIn, hy1]
  rw [if_pos hgy]
  refine ⟨fun _ _ => trivial, ?_⟩
  have hy := defer_run (P := P) (w := W1) hyop hx0
  rw [show Oper.semAt Fence.wide.round b1.eval T.y = execOp b1.eval T.y from rfl, hy]
  show Code.wpIn Fence.wide 0 P _ _ (({ b1 with defers := { target := .fn (.func T.c) #[x0], args := #[] } :: b1.defers } : Act).put T.y.dst undef) W1
  rw [hydst]
  have S1' : St P (.mk m1 hh1 nx1 W1 ({ target := .fn (.func T.c) #[x0], args := #[] } :: b1.defers)) fn.ntmps m1 z1 hh1 nx1 (({ b1 with defers := { target := .fn (.func T.c) #[x0], args := #[] } :: b1.defers } : Act).put none undef) W1 :=
    ⟨S1.T, S1.I, Fr.refl _ _ _ _, Marks.none⟩
  have F1 := S1.F
  obtain ⟨ml1, hml1, K1⟩ := S1.K
  replace hml1 : b1.defers = ml1 := by simpa using hml1
  -- what is left of the deferred calls, once the closure has run
  have last : ∀ {m5 : Mp} {h5 : TB} {nx5 : Nat} {z5 : TV} {w7 : World} {tmps : Array Value}, Inv P m5 h5 nx5 w7 → Fr m1 hh1 nx1 W1 m5 h5 nx5 w7 → TRel m5 fn.ntmps z5 tmps → doneA res z5 h5 nx5 = .ok v h' nx' →
      LeavesInM Fence.wide 0 P fn tmps (RetA P m h nx w v h' nx') b1.defers .returning w7 := by
    intro m5 h5 nx5 z5 w7 tmps I7 F7 T7 hdone
    obtain ⟨c1, g1, rfl, rfl, rfl⟩ := doneA_inv hdone
    rw [hml1, ← List.append_nil ml1]
    refine leaves_marks (s := (.mk m h nx w [])) (by simp) ml1 w7 I7 (F1.trans F7) (K1.step F7) fun w8 I8 F8 => ?_
    obtain ⟨v', k1, k2⟩ := results_run I8 T7 hres' g1
    exact ⟨v', k1, v', rfl, m5, k2, I8, F8⟩
  -- the third region
  refine wpIn_seq (wpIn_region ?_)
  have w2 := hreg T.o2 T.o2.toList [] fn.ntmps a2 _ none _ _ _ _ _ W1 _ hle.1 (by simp) h2 S1' r2 (by simp)
  rw [Array.length_toList] at w2
  refine wpOps_then (F := Fence.wide) w2 (fun b2 W2 hp => ?_) fun e b2 W2 he hp => post_norm he hp
  obtain ⟨m2, _, _, _, hp, S2⟩ := hp
  cases hp
  -- the fourth one: the test
  refine wpIn_seq (wpIn_region ?_)
  have w3 := hreg (T.l3 ++ [T.z]).toArray T.l3 [T.z] fn.ntmps a3 _ none _ _ _ _ _ W2 _ hle.1 rfl h3 S2 r3 (by simp)
  rw [show (T.l3 ++ [T.z]).toArray.size = T.l3.length + 1 by simp, List.range_succ]
  refine wpOps_app (F := Fence.wide) (fun b3 W3 hp => ?_) (fun e b3 W3 he hp => post_norm he hp) _ _ _ w3
  obtain ⟨m3, _, _, _, hp, S3⟩ := hp
  cases hp
  have hgz : Region.wanted T.z (yielded (T.l3 ++ [T.z]).toArray b3.tmps) = true := by unfold Region.wanted; rw [hzg]
  simp only [wpOpsIn, List.getElem?_toArray, List.getElem?_append_right (Nat.le_refl _), Nat.sub_self, List.getElem?_cons_zero]
  rw [if_pos hgz]
  refine ⟨fun _ _ => trivial, ?_⟩
  rw [Oper.semAt_eq _ _ _ (by rw [hzop]; intro c hc; cases hc), callg_run hzop, hT.need]
  refine ⟨fun hd => by simp [Fence.wide] at hd, ?_⟩
  have hbt := S3.T.2 T.t ttlt
  rw [← hpteq] at hbt
  generalize hbv : TV.get pt z3 = bv at hA hbt
  cases bv with
  | bool b =>
    generalize b3.tmps.getD T.t undef = u at hbt
    cases hbt
    cases b with
    | true =>
      replace hA : endA (ex rest (setD d .undef z3) hh3 nx3) res = .ok v h' nx' := hA
      refine CallsIn.mono (callsIn_wide.2 (hT.yes W3 S3.I.size)) fun e W4 he => ?_
      obtain ⟨⟨vv, rfl⟩, hb⟩ := he
      obtain ⟨I4, F4⟩ := S3.I.below hb
      obtain ⟨m4, S4⟩ := S3.put hle.1 hd (v := .undef) (v' := vv) ⟨m3, .undef _, I4, F4⟩
      show Code.wpIn Fence.wide 0 P T.d _ (b3.put T.z.dst vv) W4
      generalize hr : ex rest (setD d .undef z3) hh3 nx3 = r at hA
      have hrf : r ≠ .fail := by rintro rfl; cases hA
      have hw := (hex T.d fn.ntmps rest _ none m4 _ hh3 nx3 _ W4 r hle.1 hcode trivial S4 hr hrf).1
      refine wpIn_mono (F := Fence.wide) hw fun e a' w' hq => ?_
      have fin : ∀ {m5 z5 h5 nx5}, doneA res z5 h5 nx5 = .ok v h' nx' → St P (.mk m1 hh1 nx1 W1 ({ target := .fn (.func T.c) #[x0], args := #[] } :: b1.defers)) fn.ntmps m5 z5 h5 nx5 a' w' → LeavesInM Fence.wide 0 P fn a'.tmps (RetA P m h nx w v h' nx') a'.defers .returning w' := by
        intro m5 z5 h5 nx5 hdn S5
        obtain ⟨ml, hml, hm0⟩ := S5.K
        rw [hml]
        refine leaves_marks (s := (.mk m1 hh1 nx1 W1 ({ target := .fn (.func T.c) #[x0], args := #[] } :: b1.defers))) (by simp) ml w' S5.I S5.F hm0 fun w6 I6 F6 => ?_
        refine ⟨by simp, .inr ⟨fun hd => by simp [Fence.wide] at hd, .func T.c, #[x0], T.c, #[x0], rfl, ?_, fun _ _ => trivial, ?_⟩⟩
        · have := hT.clo #[x0] w6
          simpa [invoke] using this
        · refine CallsDIn.mono (hT.back w6 x0) fun e u w7 he => ?_
          obtain ⟨⟨vv, rfl⟩, hs, hb⟩ := he
          obtain ⟨I7, F7⟩ := I6.below hb
          show LeavesInM _ _ _ _ _ _ b1.defers (settle u) w7
          rw [hs]
          exact last I7 (F6.trans F7) S5.T hdn
      cases e with
      | normal =>
        obtain ⟨m5, z5, h5, nx5, rfl, S5⟩ := hq
        exact fin hA S5
      | ret =>
        obtain ⟨m5, z5, h5, nx5, rfl, S5⟩ := hq
        exact fin hA S5
      | exit id =>
        obtain ⟨m5, z5, h5, nx5, rfl, S5⟩ := hq
        cases hA
      | goto l => exact hq.elim
      | panic ch => exact hq.elim
      | outgrown => exact hq.elim
    | false =>
      replace hA : (Bool.rec .fail (Bool.rec .fail (trapF (eSt 1 (.t ps) (.c (packB s)) z3 hh3 nx3) res z3) (AV.beq (TV.get ps z3) (TV.get ps z1))) (glFit hh3 gl) : CR) = .ok v h' nx' := hA
      cases hfit : glFit hh3 gl with
      | false => rw [hfit] at hA; cases hA
      | true =>
      rw [hfit] at hA
      replace hA : (Bool.rec .fail (trapF (eSt 1 (.t ps) (.c (packB s)) z3 hh3 nx3) res z3) (AV.beq (TV.get ps z3) (TV.get ps z1)) : CR) = .ok v h' nx' := hA
      cases hpp : AV.beq (TV.get ps z3) (TV.get ps z1) with
      | false => rw [hpp] at hA; cases hA
      | true =>
      rw [hpp] at hA
      replace hpp := AV.beq_eq _ _ hpp
      replace hA : trapF (eSt 1 (.t ps) (.c (packB s)) z3 hh3 nx3) res z3 = .ok v h' nx' := hA
      cases hst : eSt 1 (.t ps) (.c (packB s)) z3 hh3 nx3 with
      | fail => rw [hst] at hA; cases hA
      | ok u4 h4 nx4 =>
      rw [hst] at hA
      replace hA : doneA res z3 h4 nx4 = .ok v h' nx' := hA
      refine CallsIn.mono (callsIn_wide.2 (hT.no W3 S3.I.size (S3.I.glW gl hT.flat hfit))) fun e W4 he => ?_
      obtain ⟨rfl, hb⟩ := he
      obtain ⟨I4, F4⟩ := S3.I.below hb
      show LeavesInM Fence.wide 0 P fn b3.tmps (RetA P m h nx w v h' nx') b3.defers (.panicking [{ v := pv, recovered := false }]) W4
      obtain ⟨ml, hml, hm0⟩ := S3.K
      rw [hml]
      refine leaves_marks (s := (.mk m1 hh1 nx1 W1 ({ target := .fn (.func T.c) #[x0], args := #[] } :: b1.defers))) (by simp) ml W4 I4 (S3.F.trans F4) (hm0.step F4) fun w6 I6 F6 => ?_
      have hp0 : VRel m3 ((AO.t ps).ev z3) x0 := by
        show VRel m3 (TV.get ps z3) x0
        rw [hpp]
        exact hv0.mono S3.F.sub
      obtain ⟨w7, hrun, m4, _, I7, F7⟩ := st_sound (x := .c (packB s)) (x' := .string s) I6 hT.ty hp0 (.str s) hst
      refine ⟨by simp, .inr ⟨fun hd => by simp [Fence.wide] at hd, .func T.c, #[x0], T.c, #[x0], rfl, ?_, fun _ _ => trivial, ?_⟩⟩
      · have := hT.clo #[x0] w6
        simpa [invoke] using this
      · refine CallsDIn.mono (hT.catch_ w6 w7 x0 hrun) fun e u w8 he => ?_
        obtain ⟨⟨vv, rfl⟩, hs, rfl⟩ := he
        show LeavesInM _ _ _ _ _ _ b1.defers (settle u) w8
        rw [hs]
        exact last I7 (F6.trans F7) (S3.T.mono F7.sub) hA
  | _ => cases hA

theorem calls_sound (hft : FtOk P ft) (hex : ExOk P ex) (hreg : RegTo P ex) : CallsTo P ft ex := by
  intro f args h nx v h' nx' m w l hlt I ha hA
  rcases hft f hlt with hno | ⟨fn, T, g, pv, s, gl, hok⟩ | ⟨g, hg, hok⟩ | ⟨gl, hg, hok⟩ | ⟨hg, hok⟩ | ⟨kp, el, hg, hok⟩ | ⟨kl, ka, kv, hg, hok⟩ | ⟨fn, hf, hnn, hc⟩
  · unfold callA at hA
    rw [hno] at hA
    cases hA
  · exact .inr ⟨callFunc_enter hok.func hok.name hok.body, trap_sound hex hreg hok hA I ha⟩
  · unfold callA at hA
    rw [hg] at hA
    have hA' : extA (.index g) args h nx = .ok v h' nx' := hA
    exact .inr ⟨hok.2.1 _ _, callsIn_wide.2 (index_sound I hok ha hA')⟩
  · unfold callA at hA
    rw [hg] at hA
    have hA' : extA (.truth gl) args h nx = .ok v h' nx' := hA
    exact .inr ⟨hok.2.1 _ _, callsIn_wide.2 (truth_sound I hok ha hA')⟩
  · unfold callA at hA
    rw [hg] at hA
    have hA' : extA .overlaps args h nx = .ok v h' nx' := hA
    exact .inl ⟨by rw [hg]; rfl, over_sound I hok ha hA'⟩
  · unfold callA at hA
    rw [hg] at hA
    have hA' : extA (.sorted kp el) args h nx = .ok v h' nx' := hA
    exact .inr ⟨hok.enters _ _, callsIn_wide.2 (sorted_sound I hok ha hA')⟩
  · unfold callA at hA
    rw [hg] at hA
    have hA' : extA (.known kl ka kv) args h nx = .ok v h' nx' := hA
    exact .inr ⟨hok.2.2.2.1 _ _, callsIn_wide.2 (known_sound I hok ha hA')⟩
  unfold callA at hA
  cases hg : TF.get (bid f) ft with
  | no => rw [hg] at hA; cases hA
  | ext e =>
    rw [hg] at hA hc
    have hA' : extA e args h nx = .ok v h' nx' := hA
    unfold cFn at hc
    split at hc
    · rename_i hb
      exact .inl ⟨rfl, ext_sound I hf hnn hb hc ha hA'⟩
    · split at hc
      · simp only [Option.bind_eq_bind, Option.bind_eq_some_iff, Option.some.injEq, reduceCtorEq, and_false, exists_false] at hc
      · cases hc
  | trap ps a0 a1 a2 a3 t d rest res s tc c v g =>
    rw [hg] at hc
    unfold cFn at hc
    split at hc
    · unfold cExt at hc
      split at hc
      · cases hc
      split at hc
      · cases hc
      split at hc
      · cases hc
      split at hc
      · cases hc
      split at hc
      · simp only [Option.bind_eq_bind, Option.bind_eq_some_iff, Option.some.injEq, reduceCtorEq, and_false, exists_false] at hc
      · cases hc
    · split at hc
      · simp only [Option.bind_eq_bind, Option.bind_eq_some_iff, Option.some.injEq, reduceCtorEq, and_false, exists_false] at hc
      · cases hc
  | fn ps code res =>
    rw [hg] at hA hc
    have hA' : endA (ex code (fillP ps args (.leaf .undef)) h nx) res = .ok v h' nx' := hA
    unfold cFn at hc
    split at hc
    · unfold cExt at hc
      split at hc
      · cases hc
      split at hc
      · cases hc
      split at hc
      · cases hc
      split at hc
      · cases hc
      split at hc
      · simp only [Option.bind_eq_bind, Option.bind_eq_some_iff, Option.some.injEq, reduceCtorEq, and_false, exists_false] at hc
      · cases hc
    · rename_i c hb
      split at hc
      · rename_i hle
        simp only [Option.bind_eq_bind, Option.bind_eq_some_iff, Option.some.injEq] at hc
        obtain ⟨code', hcode, res', hres, hc⟩ := hc
        injection hc with e1 e2 e3
        subst e1; subst e2; subst e3
        simp only [Bool.and_eq_true, decide_eq_true_eq] at hle
        refine .inr ⟨callFunc_enter hf hnn hb, callsIn_of_wp_marks hf hb trivial ?_⟩
        have hT := enter_rel (nt := fn.ntmps) ha hle.1 hle.2
        have S : St P (.mk m h nx w []) fn.ntmps m (fillP ((List.range (fn.params.size + fn.nfree)).map (pth (lev fn.ntmps))) args (.leaf .undef)) h nx { tmps := ⟨l⟩ ++ Array.replicate (fn.ntmps - l.length) undef, defers := [] } w :=
          ⟨hT, I, Fr.refl _ _ _ _, Marks.none⟩
        generalize hr : ex code' (fillP ((List.range (fn.params.size + fn.nfree)).map (pth (lev fn.ntmps))) args (.leaf .undef)) h nx = r at hA'
        have hrf : r ≠ .fail := by rintro rfl; cases hA'
        have hw := (hex c fn.ntmps code' (.mk m h nx w []) none m _ h nx _ w r hle.1 hcode trivial S hr hrf).1
        refine wpIn_mono (F := Fence.wide) hw fun e a' w' hq => ?_
        have fin : ∀ {m1 z1 h1 nx1}, doneA res' z1 h1 nx1 = .ok v h' nx' → St P (.mk m h nx w []) fn.ntmps m1 z1 h1 nx1 a' w' → LeavesInM Fence.wide 0 P fn a'.tmps (RetA P m h nx w v h' nx') a'.defers .returning w' := by
          intro m1 z1 h1 nx1 hd S1
          obtain ⟨c1, g1, rfl, rfl, rfl⟩ := doneA_inv hd
          obtain ⟨ml, hml, hm0⟩ := S1.K
          rw [hml]
          refine leaves_marks (s := (.mk m h nx w [])) (by simp) ml w' S1.I S1.F hm0 fun w2 I2 F2 => ?_
          obtain ⟨v', k1, k2⟩ := results_run I2 S1.T hres g1
          exact ⟨v', k1, v', rfl, m1, k2, I2, F2⟩
        cases e with
        | normal =>
          obtain ⟨m1, z1, h1, nx1, rfl, S1⟩ := hq
          exact fin hA' S1
        | ret =>
          obtain ⟨m1, z1, h1, nx1, rfl, S1⟩ := hq
          exact fin hA' S1
        | exit id =>
          obtain ⟨m1, z1, h1, nx1, rfl, S1⟩ := hq
          cases hA'
        | goto l => exact hq.elim
        | panic ch => exact hq.elim
        | outgrown => exact hq.elim
      · cases hc

/-! Rounds -/
theorem put_sets {v : AV} {v' : Value} {t : Nat} {p : Pth} {tmps : Array Value} (hn : nt ≤ 4096) (hp : cT nt t = some p) (hT : TRel m nt z tmps) (hv : VRel m v v') : TRel m nt (TV.set p v z) (tmps.setIfInBounds t v') := by
  obtain ⟨ht, rfl⟩ := cT_some hp
  exact hT.put hn ht hv
theorem yield_rel (hn : nt ≤ 4096) : ∀ (ps : List Tmp) (qs : List Pth) (args : AV) (l : List Value) (z : TV) (tmps : Array Value), ps.mapM (cT nt) = some qs → VRels m args l → ps.length = l.length → TRel m nt z tmps →
    TRel m nt (fillP qs args z) ((ps.zip l).foldl (fun tmps (x : Tmp × Value) => tmps.setIfInBounds x.1 x.2) tmps) := by
  intro ps
  induction ps with
  | nil =>
    intro qs args l z tmps hq ha hlen hT
    obtain rfl : [] = qs := by simpa using hq
    exact hT
  | cons p ps ih =>
    intro qs args l z tmps hq ha hlen hT
    rw [List.mapM_cons] at hq
    simp only [Option.bind_eq_bind, Option.bind_eq_some_iff, Option.pure_def, Option.some.injEq] at hq
    obtain ⟨q, hp, qs, hqs, rfl⟩ := hq
    cases ha with
    | nil => simp at hlen
    | cons v args v' l hv ht =>
      rw [List.zip_cons_cons, List.foldl_cons]
      exact ih qs args l _ _ hqs ht (by simpa using hlen) (put_sets hn hp hT hv)
theorem mapM_len {α β : Type} {f : α → Option β} : ∀ (l : List α) (r : List β), l.mapM f = some r → r.length = l.length := by
  intro l
  induction l with
  | nil =>
    intro r h
    obtain rfl : [] = r := by simpa using h
    rfl
  | cons a l ih =>
    intro r h
    rw [List.mapM_cons] at h
    simp only [Option.bind_eq_bind, Option.bind_eq_some_iff, Option.pure_def, Option.some.injEq] at h
    obtain ⟨b, hb, r, hr, rfl⟩ := h
    simp [ih r hr]
/-- A loop's record becomes another one of the same loop. -/
theorem Inv.loopUpd (I : Inv P m h nx w) {id : Pth} {e : E} (he : m id = some e) {st : LoopState} {pd : Option PJ} {ps : List Pth} {as bd : ACode} (hg : h.get id = .loop st pd z ps as bd) (st' : LoopState) (pd' : Option PJ) :
    ∃ r : Loop, w.heap[e.blk]? = some (.loop r) ∧ r.state = st ∧ r.pending = pd.map PJ.code ∧
      Inv P m (TB.set id (.loop st' pd' z ps as bd) h) nx (w.putObj e.blk (.loop { r with state := st', pending := pd'.map PJ.code })) ∧
      Fr m h nx w m (TB.set id (.loop st' pd' z ps as bd) h) nx (w.putObj e.blk (.loop { r with state := st', pending := pd'.map PJ.code })) := by
  have hB := I.blk id e he
  rw [hg] at hB
  obtain ⟨r, h1, h2, h3, h4⟩ := hB
  refine ⟨r, h1, h2, h3, ?_⟩
  refine I.upd he (by rw [hg]; trivial) ⟨_, rfl, rfl, rfl, h4⟩ (fun hro => ?_) (fun l _ => ⟨_, rfl⟩)
  have := I.ro id e he hro
  rw [hg] at this
  exact this.elim

theorem St.upd {s : Start} (S : St P s nt m z h nx a w) {h' : TB} {w' : World} (I : Inv P m h' nx w') (F : Fr m h nx w m h' nx w') : St P s nt m z h' nx a w' := ⟨S.T, I, S.F.trans F, S.K.step F⟩
theorem rounds_sound (hex : ExOk P ex) : RoundsTo P ex := by
  intro id args h nx v h' nx' m w l e he I ha hA ro
  unfold roundA at hA
  split at hA
  case h_2 => cases hA
  rename_i pd z ps as bd hg
  cases hlen : Nat.beq args.len ps.length with
  | false => rw [hlen] at hA; cases hA
  | true =>
  rw [hlen] at hA
  replace hA : roundGo ex id bd (ex as (fillP ps args z) h nx) = .ok v h' nx' := hA
  have hB := I.blk id e he
  rw [hg] at hB
  obtain ⟨r, h1, h2, h3, nt, h4, h5, h6, h7, h8⟩ := hB
  have hl := mapM_len _ _ h6
  have hlen' := nbeq_iff.1 hlen
  have hal := ha.len
  have hsz : (⟨l⟩ : Array Value).size = r.params.size := by
    show l.length = _
    rw [← hal, hlen', hl]
    simp
  refine ⟨_, _, _, _, run_yield h1 hsz, roundIn_of_wpIn (F := fnc ro) trivial ?_⟩
  have hT := yield_rel h4 r.params.toList ps args l z r.tmps h6 ha (by simpa using hsz.symm) h5
  have etm : (r.params.zip ⟨l⟩).foldl (fun tmps (x : Tmp × Value) => tmps.setIfInBounds x.1 x.2) r.tmps = (r.params.toList.zip l).foldl (fun tmps (x : Tmp × Value) => tmps.setIfInBounds x.1 x.2) r.tmps := by
    rw [← Array.foldl_toList, Array.toList_zip]
  rw [← etm] at hT
  have S : St P (.mk m h nx w []) nt m (fillP ps args z) h nx { tmps := (r.params.zip ⟨l⟩).foldl (fun tmps (x : Tmp × Value) => tmps.setIfInBounds x.1 x.2) r.tmps, defers := [] } w :=
    ⟨hT, I, Fr.refl _ _ _ _, Marks.none⟩
  generalize hr1 : ex as (fillP ps args z) h nx = r1 at hA
  unfold roundGo at hA
  split at hA
  case h_2 => cases hA
  rename_i z1 hh1 nx1
  split at hA
  case h_2 => cases hA
  rename_i pd1 z2 ps2 as2 bd2 hg1
  have hro : RoundOk (.mk m h nx w []) (some e.blk) := ⟨r, h1⟩
  have hw := (hex r.assign nt as (.mk m h nx w []) (some e.blk) m _ h nx _ w _ h4 h7 hro S hr1 (by simp)).1
  refine wpIn_mono (F := (fnc ro).inRound e.blk) hw fun ee a1 w1 hq => ?_
  cases ee with
  | normal =>
    obtain ⟨m1, _, _, _, hq1, S1⟩ := hq
    cases hq1
    have he1 : m1 id = some e := S1.F.sub _ _ he
    obtain ⟨r1, k1, k2, k3, I2, F2⟩ := S1.I.loopUpd he1 hg1 .busy pd1
    rw [← k3] at I2 F2
    refine ⟨_, run_beginRound k1 k2, ?_⟩
    generalize hr2 : ex bd z1 (TB.set id (.loop .busy pd1 z2 ps2 as2 bd2) hh1) nx1 = r2 at hA
    have hrf : r2 ≠ .fail := by rintro rfl; cases hA
    have hw2 := (hex r.body nt bd (.mk m h nx w []) (some e.blk) m1 z1 _ nx1 a1 _ r2 h4 h8 hro (S1.upd I2 F2) hr2 hrf).1
    refine wpIn_mono (F := (fnc ro).inRound e.blk) hw2 fun e2 a2 w2 hq2 => ?_
    have fin : ∀ {m3 z3 h3 nx3} {st pd3 z4 ps4 as4 bd4} (st' : LoopState) (pd' : Option PJ), St P (.mk m h nx w []) nt m3 z3 h3 nx3 a2 w2 → h3.get id = .loop st pd3 z4 ps4 as4 bd4 → st' = (if (pd'.map PJ.code).isNone then .ready else .done) → CR.ok (.bool (pd'.map PJ.code).isNone) (TB.set id (.loop st' pd' z4 ps4 as4 bd4) h3) nx3 = .ok v h' nx' →
        ∃ v' w', (Instr.endRound e.blk (pd'.map PJ.code)).run P w2 = .ok v' w' ∧ RetA P m h nx w v h' nx' (.returned v') w' := by
      intro m3 z3 h3 nx3 st pd3 z4 ps4 as4 bd4 st' pd' S3 hg3 hst hok
      have he3 : m3 id = some e := S3.F.sub _ _ he
      obtain ⟨r3, k4, k5, k6, I4, F4⟩ := S3.I.loopUpd he3 hg3 st' pd'
      refine ⟨_, _, run_endRound _ k4, _, rfl, ?_⟩
      cases hok
      rw [← hst]
      exact ⟨m3, .bool _, I4, S3.F.trans F4⟩
    cases e2 with
    | normal =>
      obtain ⟨m3, z3, h3, nx3, rfl, S3⟩ := hq2
      simp only [roundEnd] at hA
      split at hA
      · rename_i hg3
        exact fin .ready none S3 hg3 rfl hA
      · cases hA
    | ret =>
      obtain ⟨m3, z3, h3, nx3, rfl, S3⟩ := hq2
      simp only [roundEnd] at hA
      split at hA
      · rename_i hg3
        exact fin .done (some .ret) S3 hg3 rfl hA
      · cases hA
    | exit id2 =>
      obtain ⟨m3, z3, h3, nx3, rfl, S3⟩ := hq2
      simp only [roundEnd] at hA
      split at hA
      · rename_i hg3
        exact fin .done (some (.exit id2)) S3 hg3 rfl hA
      · cases hA
    | goto l => exact hq2.elim
    | panic ch => exact hq2.elim
    | outgrown => exact hq2.elim
  | ret => obtain ⟨m1, _, _, _, hq1, S1⟩ := hq; cases hq1
  | exit id2 => obtain ⟨m1, _, _, _, hq1, S1⟩ := hq; cases hq1
  | goto l => exact hq.elim
  | panic ch => exact hq.elim
  | outgrown => exact hq.elim
end Go.Ra
