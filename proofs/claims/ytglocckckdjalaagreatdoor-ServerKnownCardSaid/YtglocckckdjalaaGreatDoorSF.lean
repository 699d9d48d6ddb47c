/-
  Operations that act: all of them, together.
-/
import Derived.Test.YtglocckckdjalaaGreatDoorSE
set_option linter.unusedVariables false
set_option linter.unusedSimpArgs false
namespace Go.Ra
variable {P : Program} {m : Mp} {h : TB} {nx : Nat} {w : World} {nt : Nat} {a : Act} {z : TV}

/-! All of them -/
theorem no02 {q : Prop} (h : (0 : Nat) = 2) : q := absurd h (by decide)
theorem no12 {q : Prop} (h : (1 : Nat) = 2) : q := absurd h (by decide)
def actOp : Op → Bool
  | .store .. | .mapUpdate .. | .insert .. | .next .. | .call .. => true
  | _ => false
theorem cOp_acts {o : Oper} {ao : AOp} (hc : cOp P nt o = some ao) (h2 : ao.cls = 2) : actOp o.op = true := by
  obtain ⟨dst, op, ty, pos, after, guard⟩ := o
  cases op with
  | move x => obtain ⟨p, hp, rfl⟩ := Option.map_eq_some_iff.1 hc; first | exact no02 h2 | exact no12 h2
  | assign x => obtain ⟨p, hp, rfl⟩ := Option.map_eq_some_iff.1 hc; first | exact no02 h2 | exact no12 h2
  | pick c x y =>
    simp only [cOp_eq, cOpS, Option.bind_eq_bind, Option.bind_eq_some_iff, Option.some.injEq] at hc
    obtain ⟨p, hp, q, hq, r, hr, rfl⟩ := hc
    first | exact no02 h2 | exact no12 h2
  | alloc e =>
    simp only [cOp_eq, cOpS, Option.bind_eq_bind, Option.bind_eq_some_iff, Option.some.injEq] at hc
    obtain ⟨_, _, rfl⟩ := hc
    first | exact no02 h2 | exact no12 h2
  | box e x =>
    simp only [cOp_eq, cOpS, Option.bind_eq_bind, Option.bind_eq_some_iff, Option.some.injEq] at hc
    obtain ⟨_, _, rfl⟩ := hc
    first | exact no02 h2 | exact no12 h2
  | buildSlice t n ps =>
    simp only [cOp_eq, cOpS, Option.bind_eq_bind, Option.bind_eq_some_iff] at hc
    obtain ⟨_, _, _, _, _, _, hc⟩ := hc
    split at hc
    · simp only [Option.bind_eq_some_iff, Option.some.injEq] at hc
      obtain ⟨_, _, rfl⟩ := hc
      first | exact no02 h2 | exact no12 h2
    · cases hc
  | makeMap t r =>
    cases r with
    | none =>
      simp only [cOp_eq, cOpS, Option.bind_eq_bind, Option.bind_eq_some_iff] at hc
      obtain ⟨d, hd, hc⟩ := hc
      split at hc
      · obtain rfl := Option.some.inj hc; first | exact no02 h2 | exact no12 h2
      · cases hc
    | some r =>
      cases r with
      | const c =>
        cases c with
        | int k n =>
          simp only [cOp_eq, cOpS, Option.bind_eq_bind, Option.bind_eq_some_iff] at hc
          obtain ⟨d, hd, hc⟩ := hc
          split at hc
          · obtain rfl := Option.some.inj hc; first | exact no02 h2 | exact no12 h2
          · cases hc
        | _ => simp [cOp_eq, cOpS] at hc
      | _ => simp [cOp_eq, cOpS] at hc
  | makeSlice t l c =>
    simp only [cOp_eq, cOpS, Option.bind_eq_bind, Option.bind_eq_some_iff] at hc
    obtain ⟨_, _, _, _, _, _, hc⟩ := hc
    split at hc
    · simp only [Option.bind_eq_some_iff, Option.some.injEq] at hc
      obtain ⟨_, _, _, _, rfl⟩ := hc
      first | exact no02 h2 | exact no12 h2
    · cases hc
  | range t x =>
    simp only [cOp_eq, cOpS, Option.bind_eq_bind, Option.bind_eq_some_iff] at hc
    obtain ⟨d, hd, hc⟩ := hc
    split at hc
    · obtain ⟨p, hp, rfl⟩ := Option.map_eq_some_iff.1 hc
      first | exact no02 h2 | exact no12 h2
    · cases hc
  | convert s d x =>
    simp only [cOp_eq, cOpS, Option.bind_eq_bind, Option.bind_eq_some_iff] at hc
    obtain ⟨p, hp, ds, hs, dd, hd, hc⟩ := hc
    split at hc
    · obtain rfl := Option.some.inj hc; first | exact no02 h2 | exact no12 h2
    · obtain rfl := Option.some.inj hc; first | exact no02 h2 | exact no12 h2
    · simp only [Option.bind_eq_some_iff] at hc
      obtain ⟨de, he, hc⟩ := hc
      split at hc
      · obtain rfl := Option.some.inj hc; first | exact no02 h2 | exact no12 h2
      · cases hc
    · simp only [Option.bind_eq_some_iff] at hc
      obtain ⟨de, he, hc⟩ := hc
      split at hc
      · obtain rfl := Option.some.inj hc; first | exact no02 h2 | exact no12 h2
      · cases hc
    · simp only [Option.bind_eq_some_iff] at hc
      obtain ⟨j, hj, hc⟩ := hc
      split at hc
      · obtain rfl := Option.some.inj hc; first | exact no02 h2 | exact no12 h2
      · cases hc
    · simp only [Option.bind_eq_some_iff] at hc
      obtain ⟨j, hj, hc⟩ := hc
      split at hc
      · obtain rfl := Option.some.inj hc; first | exact no02 h2 | exact no12 h2
      · cases hc
    · cases hc
  | build t ps =>
    simp only [cOp_eq, cOpS, Option.bind_eq_bind, Option.bind_eq_some_iff] at hc
    obtain ⟨zc, hz, d, hd, hc⟩ := hc
    split at hc
    · simp only [Option.bind_eq_some_iff, Option.some.injEq] at hc
      obtain ⟨_, _, _, _, rfl⟩ := hc
      first | exact no02 h2 | exact no12 h2
    · simp only [Option.bind_eq_some_iff, Option.some.injEq] at hc
      obtain ⟨_, _, _, _, rfl⟩ := hc
      first | exact no02 h2 | exact no12 h2
    · cases hc
  | load t x =>
    simp only [cOp_eq, cOpS, Option.bind_eq_bind, Option.bind_eq_some_iff, Option.some.injEq] at hc
    obtain ⟨⟨n, agg⟩, ht, p, hp, rfl⟩ := hc
    cases agg <;> first | exact no02 h2 | exact no12 h2
  | nilCheck x => obtain ⟨p, hp, rfl⟩ := Option.map_eq_some_iff.1 hc; first | exact no02 h2 | exact no12 h2
  | binOp op t x y ty' =>
    simp only [cOp_eq, cOpS, Option.bind_eq_bind, Option.bind_eq_some_iff] at hc
    obtain ⟨p, hp, q, hq, d, hd, hc⟩ := hc
    have eqs : ∀ (n : Bool) (op : BinOp) (lit : Bool), cEq P t d op n p q lit = some ao → ao.cls = 0 := by
      intro n op lit hc
      unfold cEq at hc
      split at hc
      · obtain rfl := Option.some.inj hc; rfl
      · obtain rfl := Option.some.inj hc; rfl
      · obtain rfl := Option.some.inj hc; rfl
      · simp only [Option.bind_eq_bind, Option.bind_eq_some_iff] at hc
        obtain ⟨_, _, hc⟩ := hc
        split at hc
        · obtain rfl := Option.some.inj hc; rfl
        · cases hc
      · obtain rfl := Option.some.inj hc; rfl
      · obtain rfl := Option.some.inj hc; rfl
      · obtain rfl := Option.some.inj hc; rfl
      · split at hc
        · obtain rfl := Option.some.inj hc; rfl
        · cases hc
      · split at hc
        · obtain ⟨_, _, rfl⟩ := Option.map_eq_some_iff.1 hc; rfl
        · cases hc
      · split at hc
        · obtain ⟨_, _, rfl⟩ := Option.map_eq_some_iff.1 hc; rfl
        · cases hc
      · cases hc
    have h0 : ao.cls = 0 := by
      cases op
      case eql => exact eqs _ _ _ hc
      case neq => exact eqs _ _ _ hc
      all_goals
        (simp only at hc
         split at hc
         · obtain rfl := Option.some.inj hc; rfl
         · obtain rfl := Option.some.inj hc; rfl
         · cases hc)
    exact absurd (h0.symm.trans h2) (by decide)
  | unOp op t x => obtain ⟨p, hp, rfl⟩ := Option.map_eq_some_iff.1 hc; first | exact no02 h2 | exact no12 h2
  | makeInterface t x =>
    simp only [cOp_eq, cOpS, Option.bind_eq_bind, Option.bind_eq_some_iff] at hc
    obtain ⟨d, hd, hc⟩ := hc
    split at hc
    · cases hc
    · simp only [Option.bind_eq_some_iff, Option.some.injEq] at hc
      obtain ⟨p, hp, rfl⟩ := hc
      first | exact no02 h2 | exact no12 h2
  | makeFunc f xs ys =>
    cases f with
    | func f =>
      simp only [cOp_eq, cOpS] at hc
      split at hc
      · simp only [Option.bind_eq_bind, Option.bind_eq_some_iff, Option.some.injEq] at hc
        obtain ⟨p, hp, q, hq, rfl⟩ := hc
        first | exact no02 h2 | exact no12 h2
      · cases hc
    | _ => simp [cOp_eq, cOpS] at hc
  | slice t x lo up mx =>
    simp only [cOp_eq, cOpS, Option.bind_eq_bind, Option.bind_eq_some_iff] at hc
    obtain ⟨p, hp, l, hl, u, hu, q, hq, d, hd, hc⟩ := hc
    split at hc
    · split at hc
      · obtain rfl := Option.some.inj hc; first | exact no02 h2 | exact no12 h2
      · cases hc
    · simp only [Option.bind_eq_some_iff, Option.some.injEq] at hc
      obtain ⟨i, hi, rfl⟩ := hc
      first | exact no02 h2 | exact no12 h2
    · simp only [Option.bind_eq_some_iff] at hc
      obtain ⟨i, hi, hc⟩ := hc
      split at hc
      · obtain rfl := Option.some.inj hc; first | exact no02 h2 | exact no12 h2
      · cases hc
    · cases hc
  | fieldAddr t x f =>
    simp only [cOp_eq, cOpS, Option.bind_eq_bind, Option.bind_eq_some_iff] at hc
    obtain ⟨d, hd, hc⟩ := hc
    split at hc
    · simp only [Option.bind_eq_some_iff] at hc
      obtain ⟨fd, hf, j, hj, hc⟩ := hc
      split at hc
      · simp only [Option.bind_eq_some_iff, Option.some.injEq] at hc
        obtain ⟨p, hp, rfl⟩ := hc
        first | exact no02 h2 | exact no12 h2
      · cases hc
    · cases hc
  | field t x f =>
    simp only [cOp_eq, cOpS, Option.bind_eq_bind, Option.bind_eq_some_iff] at hc
    obtain ⟨d, hd, hc⟩ := hc
    split at hc
    · simp only [Option.bind_eq_some_iff, Option.some.injEq] at hc
      obtain ⟨fd, hf, ⟨n, agg⟩, ht, p, hp, rfl⟩ := hc
      first | exact no02 h2 | exact no12 h2
    · cases hc
  | indexAddr t x i =>
    simp only [cOp_eq, cOpS, Option.bind_eq_bind, Option.bind_eq_some_iff] at hc
    obtain ⟨p, hp, q, hq, d, hd, hc⟩ := hc
    split at hc
    · simp only [Option.bind_eq_some_iff, Option.some.injEq] at hc
      obtain ⟨j, hj, rfl⟩ := hc
      first | exact no02 h2 | exact no12 h2
    · simp only [Option.bind_eq_some_iff, Option.some.injEq] at hc
      obtain ⟨j, hj, rfl⟩ := hc
      first | exact no02 h2 | exact no12 h2
    · cases hc
  | index t x i =>
    simp only [cOp_eq, cOpS, Option.bind_eq_bind, Option.bind_eq_some_iff] at hc
    obtain ⟨p, hp, q, hq, d, hd, hc⟩ := hc
    split at hc
    · simp only [Option.bind_eq_some_iff, Option.some.injEq] at hc
      obtain ⟨⟨k, agg⟩, ht, rfl⟩ := hc
      first | exact no02 h2 | exact no12 h2
    · obtain rfl := Option.some.inj hc; first | exact no02 h2 | exact no12 h2
    · cases hc
  | lookup t x i ok =>
    simp only [cOp_eq, cOpS, Option.bind_eq_bind, Option.bind_eq_some_iff] at hc
    obtain ⟨d, hd, hc⟩ := hc
    split at hc
    · simp only [Option.bind_eq_some_iff, Option.some.injEq] at hc
      obtain ⟨zc, hz, s, hs, p, hp, q, hq, rfl⟩ := hc
      first | exact no02 h2 | exact no12 h2
    · cases hc
  | extract x i => obtain ⟨p, hp, rfl⟩ := Option.map_eq_some_iff.1 hc; first | exact no02 h2 | exact no12 h2
  | store | mapUpdate | insert | next | call => rfl
  | _ => exfalso; simp [cOp_eq, cOpS] at hc
theorem eev_cls {ao : AOp} {v : AV} {h' : TB} {nx' : Nat} (hv : eev ao z h nx = .ok v h' nx') : ao.cls = 2 := by
  cases ao <;> first | rfl | exact noC hv
theorem append_two {ts : Array TypeId} {ty : TypeId} {l : Array Value} {s x : Value} (h0 : l[0]? = some s) (h1 : l[1]? = some x) : Builtin.append_ ts ty l = Builtin.append_ ts ty #[s, x] := by
  unfold Builtin.append_
  rw [h0, h1]
  rfl
theorem copy_two {ts : Array TypeId} {ty : TypeId} {l : Array Value} {s x : Value} (h0 : l[0]? = some s) (h1 : l[1]? = some x) : Builtin.copy_ ts ty l = Builtin.copy_ ts ty #[s, x] := by
  unfold Builtin.copy_
  rw [h0, h1]
  rfl
theorem clear_one {ts : Array TypeId} {ty : TypeId} {l : Array Value} {s : Value} (h0 : l[0]? = some s) : Builtin.clear_ ts ty l = Builtin.clear_ ts ty #[s] := by
  unfold Builtin.clear_
  rw [h0]
  rfl

set_option maxHeartbeats 1000000 in
theorem eev_sound (I : Inv P m h nx w) {o : Oper} {ao : AOp} {v : AV} {h' : TB} {nx' : Nat} (hc : cOp P nt o = some ao) (hO : OpsRel m nt z a o.op.operands) (hv : eev ao z h nx = .ok v h' nx') :
    ∃ r v' w', (execOp a.eval o).run P w = .ok r w' ∧ (r = .value v' ∨ (r = .skip ∧ v' = .tuple #[])) ∧ Acted P m h nx w v h' nx' v' w' := by
  have hact := cOp_acts hc (eev_cls hv)
  obtain ⟨dst, op, ty, pos, after, guard⟩ := o
  cases op with
  | store t x y =>
    simp only [cOp_eq, cOpS, Option.bind_eq_bind, Option.bind_eq_some_iff, Option.some.injEq] at hc
    obtain ⟨⟨n, agg⟩, ht, p, hp, q, hq, rfl⟩ := hc
    obtain ⟨w', h1, h2⟩ := st_sound I ht (hO x (by simp [Op.operands]) p hp) (hO y (by simp [Op.operands]) q hq) hv
    exact ⟨.skip, .tuple #[], w', by simp [execOp, h1], .inr ⟨rfl, rfl⟩, h2⟩
  | mapUpdate t m' k x =>
    simp only [cOp_eq, cOpS, Option.bind_eq_bind, Option.bind_eq_some_iff] at hc
    obtain ⟨d, hd, hc⟩ := hc
    split at hc
    · simp only [Option.bind_eq_some_iff, Option.some.injEq] at hc
      obtain ⟨s, hs, p, hp, q, hq, r, hr, rfl⟩ := hc
      obtain ⟨w', h1, h2⟩ := mapupd_sound I hd hs (hO m' (by simp [Op.operands]) p hp) (hO k (by simp [Op.operands]) q hq) (hO x (by simp [Op.operands]) r hr) hv
      exact ⟨.skip, .tuple #[], w', by simp [execOp, h1], .inr ⟨rfl, rfl⟩, h2⟩
    · cases hc
  | insert t m' k x =>
    simp only [cOp_eq, cOpS, Option.bind_eq_bind, Option.bind_eq_some_iff] at hc
    obtain ⟨d, hd, hc⟩ := hc
    split at hc
    · simp only [Option.bind_eq_some_iff, Option.some.injEq] at hc
      obtain ⟨s, hs, p, hp, q, hq, r, hr, rfl⟩ := hc
      obtain ⟨w', h1, h2⟩ := mapupd_sound I hd hs (hO m' (by simp [Op.operands]) p hp) (hO k (by simp [Op.operands]) q hq) (hO x (by simp [Op.operands]) r hr) hv
      exact ⟨.skip, .tuple #[], w', by simp [execOp, h1], .inr ⟨rfl, rfl⟩, h2⟩
    · cases hc
  | next x b =>
    cases b with
    | false => simp [cOp_eq, cOpS] at hc
    | true =>
      obtain ⟨p, hp, rfl⟩ := Option.map_eq_some_iff.1 (show (cO nt x).map .next = some ao from hc)
      obtain ⟨v', w', h1, h2⟩ := next_sound (ty := ty) I (hO x (by simp [Op.operands]) p hp) hv
      exact ⟨.value v', v', w', by simp [execOp, h1], .inl rfl, h2⟩
  | call c =>
    obtain ⟨callee, args, argTypes⟩ := c
    cases callee with
    | invoke r n => simp [cOp_eq, cOpS] at hc
    | value f =>
      cases f with
      | func f =>
        simp only [cOp_eq, cOpS] at hc
        split at hc
        · simp only [Option.bind_eq_bind, Option.bind_eq_some_iff, Option.some.injEq] at hc
          obtain ⟨_, _, rfl⟩ := hc
          exact noC hv
        · cases hc
      | _ =>
        simp only [cOp_eq, cOpS, Option.bind_eq_bind, Option.bind_eq_some_iff, Option.some.injEq] at hc
        obtain ⟨_, _, _, _, rfl⟩ := hc
        exact noC hv
    | builtin b =>
      have hargs : ∀ (i : Nat) (y : Operand), args[i]? = some y → ∀ p, cO nt y = some p → VRel m (p.ev z) (a.eval y) := fun i y hy p hp => hO y (by
        simp only [Op.operands, Call.operands]
        simpa using Array.mem_of_getElem? hy) p hp
      have hrun : ∀ {s : Sem Value}, (∃ v' w', s.run P w = .ok v' w' ∧ Acted P m h nx w v h' nx' v' w') → (builtin b argTypes ty (args.map fun | .const _ => true | _ => false) (args.map a.eval)) = (do pure (Next.value (← s))) →
          ∃ r v' w', (execOp a.eval ⟨dst, .call ⟨.builtin b, args, argTypes⟩, ty, pos, after, guard⟩).run P w = .ok r w' ∧ (r = .value v' ∨ (r = .skip ∧ v' = .tuple #[])) ∧ Acted P m h nx w v h' nx' v' w' := by
        intro s hs he
        obtain ⟨v', w', r1, r2⟩ := hs
        refine ⟨.value v', v', w', ?_, .inl rfl, r2⟩
        have : (do pure (Next.value (← s)) : Sem Next).run P w = .ok (.value v') w' := by simp [r1]
        rw [← this, ← he]
        simp only [execOp, resolve, invoke, Sem.run_bind, Sem.run_pure, Result.andThen_ok]
        rfl
      cases b <;> first | (exfalso; simp [cOp_eq, cOpS] at hc; done) | skip
      case append =>
        simp only [cOp_eq, cOpS, Option.bind_eq_bind, Option.bind_eq_some_iff] at hc
        obtain ⟨t, ht, el, hel, i, hi, zc, hz, s, hs, x, hx, u, hu, d, hd, hc⟩ := hc
        have hs' : (args.map a.eval)[0]? = some (a.eval s) := by simp [hs]
        have hx' : (args.map a.eval)[1]? = some (a.eval x) := by simp [hx]
        obtain ⟨zv, z1, z2, z3⟩ := elemZero_some hz
        split at hc
        · simp only [Option.bind_eq_some_iff, Option.some.injEq] at hc
          obtain ⟨p, hp, q, hq, rfl⟩ := hc
          refine hrun (s := Builtin.append_ argTypes ty (args.map a.eval)) ?_ rfl
          rw [append_two hs' hx']
          exact eappz_sound I ht (isSliceOf_some hel) hu hd hi hz (hargs 0 s hs p hp) (hargs 1 x hx q hq) hv
        · skip
          split at hc
          · simp only [Option.bind_eq_some_iff, Option.some.injEq] at hc
            obtain ⟨p, hp, q, hq, rfl⟩ := hc
            refine hrun (s := Builtin.append_ argTypes ty (args.map a.eval)) ?_ rfl
            rw [append_two hs' hx']
            exact eappend_sound I ht (isSliceOf_some hel) hu hd (by simp) hi z1 z2 z3 (hargs 0 s hs p hp) (hargs 1 x hx q hq) hv
          · cases hc
        · rename_i d hni hns
          simp only [Option.bind_eq_some_iff, Option.some.injEq] at hc
          obtain ⟨p, hp, q, hq, rfl⟩ := hc
          refine hrun (s := Builtin.append_ argTypes ty (args.map a.eval)) ?_ rfl
          rw [append_two hs' hx']
          exact eappend_sound I ht (isSliceOf_some hel) hu hd (fun k hk => hni k hk) hi z1 z2 z3 (hargs 0 s hs p hp) (hargs 1 x hx q hq) hv
      case cap =>
        simp only [cOp_eq, cOpS, Option.bind_eq_bind, Option.bind_eq_some_iff] at hc
        obtain ⟨t, ht, x, hx, d, hd, hc⟩ := hc
        split at hc
        · obtain rfl := Option.some.inj hc; exact noC hv
        · obtain ⟨p, hp, rfl⟩ := Option.map_eq_some_iff.1 hc; exact noC hv
        · cases hc
      case clear =>
        simp only [cOp_eq, cOpS, Option.bind_eq_bind, Option.bind_eq_some_iff] at hc
        obtain ⟨t, ht, x, hx, d, hd, hc⟩ := hc
        have hx' : (args.map a.eval)[0]? = some (a.eval x) := by simp [hx]
        split at hc
        · simp only [Option.bind_eq_some_iff, Option.some.injEq] at hc
          obtain ⟨zc, hz, p, hp, rfl⟩ := hc
          refine hrun (s := Builtin.clear_ argTypes ty (args.map a.eval)) ?_ rfl
          rw [clear_one hx']
          exact clear_sound I ht hd hz (hargs 0 x hx p hp) hv
        · cases hc
      case delete =>
        simp only [cOp_eq, cOpS, Option.bind_eq_bind, Option.bind_eq_some_iff] at hc
        obtain ⟨t, ht, mp, hm, ky, hk, d, hd, hc⟩ := hc
        have hm' : (args.map a.eval)[0]? = some (a.eval mp) := by simp [hm]
        have hk' : (args.map a.eval)[1]? = some (a.eval ky) := by simp [hk]
        split at hc
        · simp only [Option.bind_eq_some_iff, Option.some.injEq] at hc
          obtain ⟨s, hs, p, hp, q, hq, rfl⟩ := hc
          exact hrun (s := Builtin.delete_ argTypes ty (args.map a.eval)) (del_sound I ht hd hs hm' hk' (hargs 0 mp hm p hp) (hargs 1 ky hk q hq) hv) rfl
        · cases hc
      case copy =>
        simp only [cOp_eq, cOpS, Option.bind_eq_bind, Option.bind_eq_some_iff, Option.some.injEq] at hc
        obtain ⟨t, ht, el, hel, i, hi, d, hd, s, hs, p, hp, q, hq, rfl⟩ := hc
        have hd' : (args.map a.eval)[0]? = some (a.eval d) := by simp [hd]
        have hs' : (args.map a.eval)[1]? = some (a.eval s) := by simp [hs]
        refine hrun (s := Builtin.copy_ argTypes ty (args.map a.eval)) ?_ rfl
        rw [copy_two hd' hs']
        exact copy_sound I ht (isSliceOf_some hel) hi (hargs 0 d hd p hp) (hargs 1 s hs q hq) hv
      case len =>
        simp only [cOp_eq, cOpS, Option.bind_eq_bind, Option.bind_eq_some_iff] at hc
        obtain ⟨t, ht, x, hx, d, hd, hc⟩ := hc
        split at hc
        · obtain rfl := Option.some.inj hc; exact noC hv
        · simp only [Option.bind_eq_some_iff] at hc
          obtain ⟨d', hd', hc⟩ := hc
          split at hc
          · obtain rfl := Option.some.inj hc; exact noC hv
          · cases hc
        · obtain ⟨p, hp, rfl⟩ := Option.map_eq_some_iff.1 hc; exact noC hv
        · obtain ⟨p, hp, rfl⟩ := Option.map_eq_some_iff.1 hc; exact noC hv
        · obtain ⟨p, hp, rfl⟩ := Option.map_eq_some_iff.1 hc; exact noC hv
        · cases hc
      case max =>
        simp only [cOp_eq, cOpS, Option.bind_eq_bind, Option.bind_eq_some_iff, Option.some.injEq] at hc
        obtain ⟨x, hx, p, hp, q, hq, rfl⟩ := hc
        exact noC hv
      case min =>
        simp only [cOp_eq, cOpS, Option.bind_eq_bind, Option.bind_eq_some_iff, Option.some.injEq] at hc
        obtain ⟨x, hx, p, hp, q, hq, rfl⟩ := hc
        exact noC hv
      case unsafeSliceData =>
        simp only [cOp_eq, cOpS, Option.bind_eq_bind, Option.bind_eq_some_iff] at hc
        obtain ⟨x, hx, hc⟩ := hc
        split at hc
        · simp only [Option.bind_eq_some_iff, Option.some.injEq] at hc
          obtain ⟨p, hp, rfl⟩ := hc
          exact noC hv
        · cases hc
      case unsafeString =>
        simp only [cOp_eq, cOpS, Option.bind_eq_bind, Option.bind_eq_some_iff] at hc
        obtain ⟨t, ht, p, hp, n, hn, d, hd, hc⟩ := hc
        split at hc
        · simp only [Option.bind_eq_some_iff] at hc
          obtain ⟨d', hd', hc⟩ := hc
          split at hc
          · split at hc
            · rename_i hcnd
              simp only [Option.bind_eq_some_iff, Option.some.injEq] at hc
              obtain ⟨p', hp', n', hn', rfl⟩ := hc
              rw [and_true'] at hcnd
              obtain ⟨c1, c2⟩ := hcnd
              have hsz : args.size = 2 := by simpa using c1
              have harr : args.map a.eval = #[a.eval p, a.eval n] := by
                apply Array.ext_getElem?
                intro j
                match j with
                | 0 => simp [hp]
                | 1 => simp [hn]
                | j + 2 => rw [Array.getElem?_eq_none (by simp [hsz]), Array.getElem?_eq_none (by simp)]
              refine hrun (s := Builtin.unsafeString_ argTypes ty (args.map a.eval)) ?_ rfl
              rw [harr]
              exact ustr_sound I ht hd hd' (by simpa using c2) (hargs 0 p hp p' hp') (hargs 1 n hn n' hn') hv
            · cases hc
          · cases hc
        · cases hc
  | _ => exact absurd hact (by simp [actOp])
end Go.Ra
