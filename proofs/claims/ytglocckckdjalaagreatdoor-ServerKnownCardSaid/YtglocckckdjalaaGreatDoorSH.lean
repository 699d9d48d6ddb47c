/-
  Control: operations.
-/
import Derived.Test.YtglocckckdjalaaGreatDoorSG
set_option linter.unusedVariables false
set_option linter.unusedSimpArgs false
namespace Go.Ra
variable {P : Program} {m : Mp} {h : TB} {nx : Nat} {w : World} {nt : Nat} {a : Act} {z : TV} {ft : TF} {ex : Exec}

/-! Operations that call -/
def AOp.isCall : AOp → Bool
  | .callf .. | .callv .. => true
  | _ => false
theorem noB {q : Prop} (h : false = true) : q := by cases h
theorem isCall_cls {ao : AOp} (h : ao.isCall = true) : ao.cls = 2 := by cases ao <;> first | rfl | exact noB h
theorem cOp_call {o : Oper} {ao : AOp} (hc : cOp P nt o = some ao) (h2 : ao.isCall = true) :
    ∃ f args ats, o.op = .call ⟨.value f, args, ats⟩ ∧ ((∃ g l, f = .func g ∧ g < 8 ^ D ∧ cOs nt args.toList = some l ∧ ao = .callf (bid g) l) ∨ (∃ x l, cO nt f = some x ∧ cOs nt args.toList = some l ∧ ao = .callv x l)) := by
  have hact := cOp_acts hc (isCall_cls h2)
  obtain ⟨dst, op, ty, pos, after, guard⟩ := o
  cases op with
  | store t x y =>
    simp only [cOp_eq, cOpS, Option.bind_eq_bind, Option.bind_eq_some_iff, Option.some.injEq] at hc
    obtain ⟨⟨n, agg⟩, ht, p, hp, q, hq, rfl⟩ := hc
    exact noB h2
  | mapUpdate t m' k x =>
    simp only [cOp_eq, cOpS, Option.bind_eq_bind, Option.bind_eq_some_iff] at hc
    obtain ⟨d, hd, hc⟩ := hc
    split at hc
    · simp only [Option.bind_eq_some_iff, Option.some.injEq] at hc
      obtain ⟨_, _, _, _, _, _, _, _, rfl⟩ := hc
      exact noB h2
    · cases hc
  | insert t m' k x =>
    simp only [cOp_eq, cOpS, Option.bind_eq_bind, Option.bind_eq_some_iff] at hc
    obtain ⟨d, hd, hc⟩ := hc
    split at hc
    · simp only [Option.bind_eq_some_iff, Option.some.injEq] at hc
      obtain ⟨_, _, _, _, _, _, _, _, rfl⟩ := hc
      exact noB h2
    · cases hc
  | next x b =>
    cases b with
    | false => simp [cOp_eq, cOpS] at hc
    | true =>
      obtain ⟨p, hp, rfl⟩ := Option.map_eq_some_iff.1 (show (cO nt x).map .next = some ao from hc)
      exact noB h2
  | call c =>
    obtain ⟨callee, args, argTypes⟩ := c
    cases callee with
    | invoke r n => simp [cOp_eq, cOpS] at hc
    | value f =>
      cases f with
      | func f =>
        simp only [cOp_eq, cOpS] at hc
        split at hc
        · rename_i hlt
          simp only [Option.bind_eq_bind, Option.bind_eq_some_iff, Option.some.injEq] at hc
          obtain ⟨l, hl, rfl⟩ := hc
          exact ⟨_, _, _, rfl, .inl ⟨f, l, rfl, hlt, hl, rfl⟩⟩
        · cases hc
      | _ =>
        simp only [cOp_eq, cOpS, Option.bind_eq_bind, Option.bind_eq_some_iff, Option.some.injEq] at hc
        obtain ⟨x, hx, l, hl, rfl⟩ := hc
        exact ⟨_, _, _, rfl, .inr ⟨x, l, hx, hl, rfl⟩⟩
    | builtin b =>
      exfalso
      cases b <;> first | (simp [cOp_eq, cOpS] at hc; done) | skip
      case append =>
        simp only [cOp_eq, cOpS, Option.bind_eq_bind, Option.bind_eq_some_iff] at hc
        obtain ⟨_, _, _, _, _, _, _, _, _, _, _, _, _, _, _, _, hc⟩ := hc
        split at hc
        · simp only [Option.bind_eq_some_iff, Option.some.injEq] at hc
          obtain ⟨_, _, _, _, rfl⟩ := hc
          exact noB h2
        · split at hc
          · simp only [Option.bind_eq_some_iff, Option.some.injEq] at hc
            obtain ⟨_, _, _, _, rfl⟩ := hc
            exact noB h2
          · cases hc
        · simp only [Option.bind_eq_some_iff, Option.some.injEq] at hc
          obtain ⟨_, _, _, _, rfl⟩ := hc
          exact noB h2
      case cap =>
        simp only [cOp_eq, cOpS, Option.bind_eq_bind, Option.bind_eq_some_iff] at hc
        obtain ⟨t, ht, x, hx, d, hd, hc⟩ := hc
        split at hc
        · obtain rfl := Option.some.inj hc; exact noB h2
        · obtain ⟨p, hp, rfl⟩ := Option.map_eq_some_iff.1 hc; exact noB h2
        · cases hc
      case delete =>
        simp only [cOp_eq, cOpS, Option.bind_eq_bind, Option.bind_eq_some_iff] at hc
        obtain ⟨_, _, _, _, _, _, d, hd, hc⟩ := hc
        split at hc
        · simp only [Option.bind_eq_some_iff, Option.some.injEq] at hc
          obtain ⟨_, _, _, _, _, _, rfl⟩ := hc
          exact noB h2
        · cases hc
      case clear =>
        simp only [cOp_eq, cOpS, Option.bind_eq_bind, Option.bind_eq_some_iff] at hc
        obtain ⟨_, _, _, _, _, _, hc⟩ := hc
        split at hc
        · simp only [Option.bind_eq_some_iff, Option.some.injEq] at hc
          obtain ⟨_, _, _, _, rfl⟩ := hc
          exact noB h2
        · cases hc
      case copy =>
        simp only [cOp_eq, cOpS, Option.bind_eq_bind, Option.bind_eq_some_iff, Option.some.injEq] at hc
        obtain ⟨_, _, _, _, _, _, _, _, _, _, _, _, _, _, rfl⟩ := hc
        exact noB h2
      case len =>
        simp only [cOp_eq, cOpS, Option.bind_eq_bind, Option.bind_eq_some_iff] at hc
        obtain ⟨t, ht, x, hx, d, hd, hc⟩ := hc
        split at hc
        · obtain rfl := Option.some.inj hc; exact noB h2
        · simp only [Option.bind_eq_some_iff] at hc
          obtain ⟨d', hd', hc⟩ := hc
          split at hc
          · obtain rfl := Option.some.inj hc; exact noB h2
          · cases hc
        · obtain ⟨p, hp, rfl⟩ := Option.map_eq_some_iff.1 hc; exact noB h2
        · obtain ⟨p, hp, rfl⟩ := Option.map_eq_some_iff.1 hc; exact noB h2
        · obtain ⟨p, hp, rfl⟩ := Option.map_eq_some_iff.1 hc; exact noB h2
        · cases hc
      case max =>
        simp only [cOp_eq, cOpS, Option.bind_eq_bind, Option.bind_eq_some_iff, Option.some.injEq] at hc
        obtain ⟨x, hx, p, hp, q, hq, rfl⟩ := hc
        exact noB h2
      case min =>
        simp only [cOp_eq, cOpS, Option.bind_eq_bind, Option.bind_eq_some_iff, Option.some.injEq] at hc
        obtain ⟨x, hx, p, hp, q, hq, rfl⟩ := hc
        exact noB h2
      case unsafeSliceData =>
        simp only [cOp_eq, cOpS, Option.bind_eq_bind, Option.bind_eq_some_iff] at hc
        obtain ⟨x, hx, hc⟩ := hc
        split at hc
        · simp only [Option.bind_eq_some_iff, Option.some.injEq] at hc
          obtain ⟨p, hp, rfl⟩ := hc
          exact noB h2
        · cases hc
      case unsafeString =>
        simp only [cOp_eq, cOpS, Option.bind_eq_bind, Option.bind_eq_some_iff] at hc
        obtain ⟨_, _, _, _, _, _, d, hd, hc⟩ := hc
        split at hc
        · simp only [Option.bind_eq_some_iff] at hc
          obtain ⟨d', hd', hc⟩ := hc
          split at hc
          · split at hc
            · simp only [Option.bind_eq_some_iff, Option.some.injEq] at hc
              obtain ⟨_, _, _, _, rfl⟩ := hc
              exact noB h2
            · cases hc
          · cases hc
        · cases hc
  | _ => exact absurd hact (by simp [actOp])

/-! What calls come to -/
/-- The fences in which everything is walked. -/
def fnc (ro : Option Nat) : Fence := { Fence.wide with round := ro }
/-- How a call ends. -/
def RetA (P : Program) (m : Mp) (h : TB) (nx : Nat) (w : World) (v : AV) (h' : TB) (nx' : Nat) : Ending → World → Prop := fun e w' => ∃ v', e = .returned v' ∧ Acted P m h nx w v h' nx' v' w'
def CallsTo (P : Program) (ft : TF) (ex : Exec) : Prop := ∀ (f : Nat) (args : AV) (h : TB) (nx : Nat) (v : AV) (h' : TB) (nx' : Nat) (m : Mp) (w : World) (l : List Value), f < 8 ^ D → Inv P m h nx w → VRels m args l → callA ft ex (bid f) args h nx = .ok v h' nx' →
  (isFn (TF.get (bid f) ft) = false ∧ ∃ v' w', (callFunc f ⟨l⟩).run P w = .ok (.value v') w' ∧ Acted P m h nx w v h' nx' v' w') ∨ ((callFunc f ⟨l⟩).run P w = .ok (.enter f ⟨l⟩) w ∧ CallsIn Fence.wide 0 P f ⟨l⟩ w (RetA P m h nx w v h' nx'))
def RoundsTo (P : Program) (ex : Exec) : Prop := ∀ (id : Pth) (args : AV) (h : TB) (nx : Nat) (v : AV) (h' : TB) (nx' : Nat) (m : Mp) (w : World) (l : List Value) (e : E), m id = some e → Inv P m h nx w → VRels m args l → roundA ex id args h nx = .ok v h' nx' →
  ∀ ro, ∃ fn tmps as bd, (Instr.yield e.blk ⟨l⟩).run P w = .ok (.round e.blk fn tmps as bd) w ∧ RoundIn (fnc ro) 0 P e.blk fn tmps as bd w (RetA P m h nx w v h' nx')

theorem plain_sound (I : Inv P m h nx w) {o : Oper} {ao : AOp} (hc : cOp P nt o = some ao) (hO : OpsRel m nt z a o.op.operands) {v : AV} {h' : TB} {nx' : Nat} (hr : OpR ft ex ao z h nx v h' nx') (hn : ao.isCall = false) :
    ∃ r v' w', (execOp a.eval o).run P w = .ok r w' ∧ (r = .value v' ∨ (r = .skip ∧ v' = .tuple #[])) ∧ Acted P m h nx w v h' nx' v' w' := by
  cases hr with
  | pure =>
    rename_i hv
    obtain ⟨v', h1, h2⟩ := pev_sound I hc hO hv
    exact ⟨_, v', w, h1, .inl rfl, m, h2, I, Fr.refl _ _ _ _⟩
  | make =>
    rename_i b hlt hv
    obtain ⟨v', w', h1, e, _, h2, h3, h4⟩ := fev_sound I hlt hc hO hv
    exact ⟨_, v', w', h1, .inl rfl, _, h2, h3, h4⟩
  | act => rename_i hv; exact eev_sound I hc hO hv
  | callf => rename_i ho _; subst ho; cases hn
  | callv => rename_i ho _; subst ho; cases hn

theorem ofList_map {l : Array Operand} {ρ : Operand → Value} : (⟨l.toList.map ρ⟩ : Array Value) = l.map ρ := by apply Array.toList_inj.1; simp
theorem call_run {dst : Option Tmp} {ty : TypeId} {pos : String} {after : Array Edge} {guard : Option (Nat × Bool)} {f : Operand} {args : Array Operand} {ats : Array TypeId} {g : Nat} {l k : List Value} (hf : a.eval f = .func (.func g) ⟨l⟩ ⟨k⟩) :
    (execOp a.eval ⟨dst, .call ⟨.value f, args, ats⟩, ty, pos, after, guard⟩).run P w = (callFunc g ⟨l ++ (args.toList.map a.eval ++ k)⟩).run P w := by
  have : (⟨l⟩ ++ args.map a.eval ++ ⟨k⟩ : Array Value) = ⟨l ++ (args.toList.map a.eval ++ k)⟩ := by apply Array.toList_inj.1; simp
  simp only [execOp, resolve, Sem.run_bind, hf, Deferred.ofValue, Sem.run_pure, Result.andThen_ok, invoke, this]
theorem yield_run {dst : Option Tmp} {ty : TypeId} {pos : String} {after : Array Edge} {guard : Option (Nat × Bool)} {f : Operand} {args : Array Operand} {ats : Array TypeId} {b : Nat} (hf : a.eval f = .func (.yield b) #[] #[]) :
    (execOp a.eval ⟨dst, .call ⟨.value f, args, ats⟩, ty, pos, after, guard⟩).run P w = (Instr.yield b ⟨args.toList.map a.eval⟩).run P w := by
  have : (#[] ++ args.map a.eval : Array Value) = ⟨args.toList.map a.eval⟩ := by apply Array.toList_inj.1; simp
  simp only [execOp, resolve, Sem.run_bind, hf, Deferred.ofValue, Sem.run_pure, Result.andThen_ok, invoke, this]
theorem bid_of {f k : Nat} (hf : f < 8 ^ D) (hk : k < 8 ^ D) (h : bid f = bid k) : f = k := pth_inj hf hk h

theorem op_sound (hcal : CallsTo P ft ex) (hrnd : RoundsTo P ex) (I : Inv P m h nx w) {o : Oper} {ao : AOp} (hc : cOp P nt o = some ao) (hO : OpsRel m nt z a o.op.operands) {v : AV} {h' : TB} {nx' : Nat} (hr : OpR ft ex ao z h nx v h' nx')
    (ro : Option Nat) {next : Act → World → Prop} {Q : Exit → Act → World → Prop} (hnext : ∀ v' w', Acted P m h nx w v h' nx' v' w' → next (a.put o.dst v') w') : o.wpIn (fnc ro) 0 P a w next Q := by
  have hnd : ∀ c, o.op ≠ .defer c := fun c hd => by
    obtain ⟨dst, op, ty, pos, after, guard⟩ := o
    simp only at hd
    subst hd
    simp [cOp_eq, cOpS] at hc
  refine ⟨fun _ _ => trivial, ?_⟩
  rw [Oper.semAt_eq _ _ _ hnd]
  cases hcl : ao.isCall with
  | false =>
    obtain ⟨r, v', w', h1, h2, h3⟩ := plain_sound I hc hO hr hcl
    rw [h1]
    rcases h2 with rfl | ⟨rfl, rfl⟩
    · exact hnext v' w' h3
    · exact hnext _ w' h3
  | true =>
    obtain ⟨f, args, ats, hop, hcase⟩ := cOp_call hc hcl
    obtain ⟨dst, op, ty, pos, after, guard⟩ := o
    simp only at hop
    subst hop
    have hargs : ∀ l, cOs nt args.toList = some l → VRels m (l.ev z) (args.toList.map a.eval) := fun l hl => cOs_rel args.toList l hl fun y hy x hx => hO y (by
      simp only [Op.operands, Call.operands]
      simp
      exact .inr (by simpa using hy)) x hx
    have called : ∀ {g : Nat} {pa : AV} {l : List Value}, g < 8 ^ D → VRels m pa l → callA ft ex (bid g) pa h nx = .ok v h' nx' →
        Oper.uponIn (fnc ro) 0 P ⟨dst, .call ⟨.value f, args, ats⟩, ty, pos, after, guard⟩ a next Q ((callFunc g ⟨l⟩).run P w) := by
      intro g pa l hlt hl hA
      rcases hcal g pa h nx v h' nx' m w l hlt I hl hA with ⟨_, v', w', h1, h2⟩ | ⟨h1, h2⟩
      · rw [h1]; exact hnext v' w' h2
      · rw [h1]
        refine ⟨fun hd => by simp [fnc, Fence.wide] at hd, ?_⟩
        refine CallsIn.mono (F := fnc ro) (show CallsIn (fnc ro) 0 P g ⟨l⟩ w (RetA P m h nx w v h' nx') from h2) fun e w' he => ?_
        obtain ⟨v', rfl, hA⟩ := he
        exact hnext v' w' hA
    rcases hcase with ⟨g, l, rfl, hlt, hl, rfl⟩ | ⟨x, l, hx, hl, rfl⟩
    · cases hr with
      | callf =>
        rename_i ho hcall
        injection ho with h1 h2
        subst h1; subst h2
        rw [call_run (g := g) (l := []) (k := []) rfl]
        refine called hlt ?_ hcall
        simpa using hargs _ hl
      | callv => rename_i ho _; cases ho
      | pure => rename_i hv; exact noA hv
      | make => rename_i hv; cases hv
      | act => rename_i hv; exact noC hv
    · cases hr with
      | callv =>
        rename_i ho hcall
        injection ho with h1 h2
        subst h1; subst h2
        have hfx := hO f (by simp [Op.operands, Call.operands]) x hx
        have ha := hargs _ hl
        unfold callV at hcall
        split at hcall
        · rename_i p pa pb he
          rw [he] at hfx
          generalize hu : a.eval f = u at hfx
          cases hfx with | func g _ _ l1 l2 hlt h1 h2 =>
          rw [call_run hu]
          exact called hlt (h1.app (ha.app h2)) hcall
        · rename_i id he
          rw [he] at hfx
          generalize hu : a.eval f = u at hfx
          cases hfx with | yield _ e hid =>
          rw [yield_run hu]
          obtain ⟨fn, tmps, as, bd, h1, h2⟩ := hrnd id _ h nx v h' nx' m w _ e hid I ha hcall ro
          rw [h1]
          refine ⟨fun hd => by simp [fnc, Fence.wide] at hd, ?_⟩
          refine RoundIn.mono h2 fun e w' he => ?_
          obtain ⟨v', rfl, hA⟩ := he
          exact hnext v' w' hA
        · exact noC hcall
      | callf => rename_i ho _; cases ho
      | pure => rename_i hv; exact noA hv
      | make => rename_i hv; cases hv
      | act => rename_i hv; exact noC hv
end Go.Ra
