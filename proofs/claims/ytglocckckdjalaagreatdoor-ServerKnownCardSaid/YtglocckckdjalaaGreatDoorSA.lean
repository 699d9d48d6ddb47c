/-
  Every operation that only looks runs as the abstract machine says.
-/
import Derived.Test.YtglocckckdjalaaGreatDoorS9
set_option linter.unusedVariables false
set_option linter.unusedSimpArgs false
namespace Go.Ra
variable {P : Program} {m : Mp} {h : TB} {nx : Nat} {w : World} {nt : Nat} {a : Act} {z : TV}

/-- Operands, as the abstract machine has them. -/
def OpsRel (m : Mp) (nt : Nat) (z : TV) (a : Act) (l : Array Operand) : Prop := ∀ y ∈ l, ∀ x, cO nt y = some x → VRel m (x.ev z) (a.eval y)

theorem fin_value {s : Sem Value} {v : AV} (hs : ∃ v', s.run P w = .ok v' w ∧ VRel m v v') : ∃ v', (do pure (Next.value (← s)) : Sem Next).run P w = .ok (.value v') w ∧ VRel m v v' := by
  obtain ⟨v', h1, h2⟩ := hs
  exact ⟨v', by simp [h1], h2⟩
theorem cOs_rel : ∀ (l : List Operand) (r : AOs), cOs nt l = some r → (∀ y ∈ l, ∀ x, cO nt y = some x → VRel m (x.ev z) (a.eval y)) → VRels m (r.ev z) (l.map a.eval) := by
  intro l
  induction l with
  | nil => intro r hr _; obtain rfl := Option.some.inj (show some AOs.nil = some r from hr); exact .nil
  | cons y l ih =>
    intro r hr hO
    unfold cOs at hr
    split at hr
    · rename_i p q hp hq
      obtain rfl := Option.some.inj hr
      exact .cons _ _ _ _ (hO y List.mem_cons_self p hp) (ih q hq fun y hy => hO y (List.mem_cons_of_mem _ hy))
    · cases hr
theorem cOo_mem {x : Option Operand} {l : Array Operand} (hO : OpsRel m nt z a l) (hx : ∀ y ∈ x, y ∈ l) : ∀ y ∈ x, ∀ q, cO nt y = some q → VRel m (q.ev z) (a.eval y) := fun y hy q hq => hO y (hx y hy) q hq

theorem places_run : ∀ (fs : List Field) (pl : List (Nat × Nat)), fieldPlaces P fs = some pl → ∀ w : World, (fs.mapM (fun f => do pure (f.offset, ← sizeOf f.type)) : Sem (List (Nat × Nat))).run P w = .ok pl w := by
  intro fs
  induction fs with
  | nil => intro pl hp w; obtain rfl := Option.some.inj (show some [] = some pl from hp); rfl
  | cons f fs ih =>
    intro pl hp w
    unfold fieldPlaces at hp
    split at hp
    · rename_i j r hj hr
      obtain rfl := Option.some.inj hp
      rw [List.mapM_cons]
      simp only [Sem.run_bind, size_run hj, Result.andThen_ok, Sem.run_pure, ih r hr w]
    · cases hp

set_option maxHeartbeats 2000000 in
theorem pev_sound (I : Inv P m h nx w) {o : Oper} {ao : AOp} {v : AV} (hc : cOp P nt o = some ao) (hO : OpsRel m nt z a o.op.operands) (hv : pev ao z h = some v) :
    ∃ v', (execOp a.eval o).run P w = .ok (.value v') w ∧ VRel m v v' := by
  obtain ⟨dst, op, ty, pos, after, guard⟩ := o
  cases op with
  | move x =>
    obtain ⟨p, hp, rfl⟩ := Option.map_eq_some_iff.1 hc
    obtain rfl := Option.some.inj hv
    exact ⟨_, rfl, hO x (by simp [Op.operands]) p hp⟩
  | assign x =>
    obtain ⟨p, hp, rfl⟩ := Option.map_eq_some_iff.1 hc
    obtain rfl := Option.some.inj hv
    exact ⟨_, rfl, hO x (by simp [Op.operands]) p hp⟩
  | pick c x y =>
    simp only [cOp_eq, cOpS, Option.bind_eq_bind, Option.bind_eq_some_iff, Option.some.injEq] at hc
    obtain ⟨p, hp, q, hq, r, hr, rfl⟩ := hc
    have h1 := hO c (by simp [Op.operands]) p hp
    have h2 := hO x (by simp [Op.operands]) q hq
    have h3 := hO y (by simp [Op.operands]) r hr
    have e : ∃ b, p.ev z = .bool b ∧ v = Bool.rec (r.ev z) (q.ev z) b := by
      replace hv : pPick p q r z h = some v := hv
      unfold pPick at hv
      cases hp' : p.ev z <;> rw [hp'] at hv <;> first | exact ⟨_, rfl, (Option.some.inj hv).symm⟩ | exact noA hv
    obtain ⟨b, hb, rfl⟩ := e
    rw [hb] at h1
    have e1 : a.eval c = .bool b := by generalize a.eval c = u at h1; cases h1; rfl
    cases b with
    | true => exact ⟨a.eval x, by simp [execOp, e1, asBool], h2⟩
    | false => exact ⟨a.eval y, by simp [execOp, e1, asBool], h3⟩
  | alloc e => 
    simp only [cOp_eq, cOpS, Option.bind_eq_bind, Option.bind_eq_some_iff, Option.some.injEq] at hc
    obtain ⟨_, _, rfl⟩ := hc
    exact noA hv
  | box e x =>
    simp only [cOp_eq, cOpS, Option.bind_eq_bind, Option.bind_eq_some_iff, Option.some.injEq] at hc
    obtain ⟨_, _, rfl⟩ := hc
    exact noA hv
  | build t ps =>
    simp only [cOp_eq, cOpS, Option.bind_eq_bind, Option.bind_eq_some_iff] at hc
    obtain ⟨zc, hz, d, hd, hc⟩ := hc
    obtain ⟨zv, hz1, hz2, hz3⟩ := zeroCells_run hz
    have hops : ∀ p ∈ ps.toList, ∀ x, cO nt p.2 = some x → VRel m (x.ev z) (a.eval p.2) := fun p hp x hx => hO p.2 (by
      simp only [Op.operands, List.mem_toArray, List.mem_map]
      exact ⟨p, hp, rfl⟩) x hx
    have hmap : (ps.map fun x => (x.1, a.eval x.2)).toList = ps.toList.map fun p => (p.1, a.eval p.2) := by simp
    split at hc
    · rename_i fs
      simp only [Option.bind_eq_some_iff, Option.some.injEq] at hc
      obtain ⟨pl, hpl, l, hl, rfl⟩ := hc
      obtain ⟨c, hf, rfl⟩ := Option.map_eq_some_iff.1 (show (l.fill z zc).map .agg = some v from hv)
      obtain ⟨cells', g1, g2, g3, g4⟩ := fill_run ps.toList l zc zv.cells.toList c hl hops (hz2 m) hz3 hf
      refine fin_value ⟨.agg cells'.toArray, ?_, .agg _ _ g2 g3⟩
      have g1' : Instr.fill (fun i => pl.toArray[i]?) zv.cells (ps.map fun x => (x.1, a.eval x.2)).toList = some cells'.toArray := by rw [hmap]; simpa using g1
      have hpr := places_run fs.toList pl hpl w
      simp only [Instr.build, Sem.run_bind, hz1, Result.andThen_ok, run_underlying hd, Array.mapM_eq_mapM_toList, Sem.run_map]
      rw [hpr]
      simp only [Result.andThen_ok, g1', Sem.run_pure]
    · rename_i n e
      simp only [Option.bind_eq_some_iff, Option.some.injEq] at hc
      obtain ⟨j, hj, l, hl, rfl⟩ := hc
      obtain ⟨c, hf, rfl⟩ := Option.map_eq_some_iff.1 (show (l.fill z zc).map .agg = some v from hv)
      obtain ⟨cells', g1, g2, g3, g4⟩ := fill_run ps.toList l zc zv.cells.toList c hl hops (hz2 m) hz3 hf
      refine fin_value ⟨.agg cells'.toArray, ?_, .agg _ _ g2 g3⟩
      have g1' : Instr.fill (fun i => some (i * j.size, j.size)) zv.cells (ps.map fun x => (x.1, a.eval x.2)).toList = some cells'.toArray := by rw [hmap]; exact g1
      simp only [Instr.build, Sem.run_bind, hz1, Result.andThen_ok, run_underlying hd, size_run hj, g1', Sem.run_pure]
    · cases hc
  | buildSlice t n ps =>
    simp only [cOp_eq, cOpS, Option.bind_eq_bind, Option.bind_eq_some_iff] at hc
    obtain ⟨_, _, _, _, _, _, hc⟩ := hc
    split at hc
    · simp only [Option.bind_eq_some_iff, Option.some.injEq] at hc
      obtain ⟨_, _, rfl⟩ := hc
      exact noA hv
    · cases hc
  | load t x =>
    simp only [cOp_eq, cOpS, Option.bind_eq_bind, Option.bind_eq_some_iff, Option.some.injEq] at hc
    obtain ⟨⟨n, agg⟩, ht, p, hp, rfl⟩ := hc
    have h1 := hO x (by simp [Op.operands]) p hp
    cases agg with
    | true => exact fin_value (ldn_run I ht h1 hv)
    | false =>
      obtain rfl : n = 1 := (tyOf_some ht).2.2 rfl
      exact fin_value (ld1_run I ht h1 hv)
  | store t x y =>
    simp only [cOp_eq, cOpS, Option.bind_eq_bind, Option.bind_eq_some_iff, Option.some.injEq] at hc
    obtain ⟨⟨n, agg⟩, ht, p, hp, q, hq, rfl⟩ := hc
    exact noA hv
  | nilCheck x =>
    obtain ⟨p, hp, rfl⟩ := Option.map_eq_some_iff.1 hc
    have h1 := hO x (by simp [Op.operands]) p hp
    replace hv : pNilck p z h = some v := hv
    unfold pNilck at hv
    cases hp' : p.ev z <;> rw [hp'] at hv h1 <;> first | exact noA hv | skip
    · obtain rfl := Option.some.inj hv
      have h2 := h1
      generalize hu : a.eval x = u at h1 h2
      cases h1
      exact ⟨_, by simp [execOp, hu], h2⟩
    · obtain rfl := Option.some.inj hv
      have h2 := h1
      generalize hu : a.eval x = u at h1 h2
      cases h1
      exact ⟨_, by simp [execOp, hu], h2⟩
    · obtain rfl := Option.some.inj hv
      have h2 := h1
      generalize hu : a.eval x = u at h1 h2
      cases h1
      exact ⟨_, by simp [execOp, hu], h2⟩
  | binOp op t x y ty' =>
    simp only [cOp_eq, cOpS, Option.bind_eq_bind, Option.bind_eq_some_iff] at hc
    obtain ⟨p, hp, q, hq, d, hd, hc⟩ := hc
    have h1 := hO x (by simp [Op.operands]) p hp
    have h2 := hO y (by simp [Op.operands]) q hq
    have nums : ∀ {v : AV}, binA op (p.ev z) (q.ev z) = some v → ∃ v', (execOp a.eval ⟨dst, .binOp op t x y ty', ty, pos, after, guard⟩).run P w = .ok (.value v') w ∧ VRel m v v' := by
      intro v hb
      refine fin_value ?_
      obtain ⟨v', r1, r2⟩ := binA_run (t := t) (w := w) (P := P) h1 h2 hb
      refine ⟨v', ?_, r2⟩
      have hg : (eqGuard op t x y (a.eval x) (a.eval y)).run P w = .ok () w := by
        refine guard_none ?_ ?_
        · rintro ⟨e1, _⟩
          rw [e1] at h1
          cases hp' : p.ev z <;> rw [hp'] at h1 hb <;> first | exact noA hb | (cases h1)
        · rintro c d ⟨e1, _⟩
          rw [e1] at h1
          cases hp' : p.ev z <;> rw [hp'] at h1 hb <;> first | exact noA hb | (cases h1)
      simp [hg, r1]
    have eqs : ∀ (n : Bool), op = (if n then .neq else .eql) → cEq P t d op n p q (nilIfaceC x || nilIfaceC y) = some ao → ∃ v', (execOp a.eval ⟨dst, .binOp op t x y ty', ty, pos, after, guard⟩).run P w = .ok (.value v') w ∧ VRel m v v' := by
      intro n hop hc
      have fin2 : ∀ {b : Bool}, v = neg n b → (eqGuard op t x y (a.eval x) (a.eval y)).run P w = .ok () w → (binOp op t (a.eval x) (a.eval y)).run P w = .ok (.bool (if n then !b else b)) w →
          ∃ v', (execOp a.eval ⟨dst, .binOp op t x y ty', ty, pos, after, guard⟩).run P w = .ok (.value v') w ∧ VRel m v v' := by
        intro b hv hg hb
        subst hv
        refine fin_value ⟨_, ?_, neg_rel n b⟩
        simp [hg, hb]
      -- what may be nil
      have nils : ∀ {s : Nat}, (eqNil s (p.ev z) (q.ev z)).map (neg n) = some v → (s = 5 → (nilIfaceC x || nilIfaceC y) = true) →
          ((∃ e i, s = 1 ∧ P.underlying t = some (.pointer e) ∧ P.info? e = some i ∧ i.size ≠ 0) ∨ (∃ e, s = 2 ∧ P.underlying t = some (.slice e)) ∨ (∃ k e, s = 3 ∧ P.underlying t = some (.map k e)) ∨
            (∃ a r c, s = 4 ∧ P.underlying t = some (.func a r c)) ∨ (∃ ms, s = 5 ∧ P.underlying t = some (.interface ms))) →
          ∃ v', (execOp a.eval ⟨dst, .binOp op t x y ty', ty, pos, after, guard⟩).run P w = .ok (.value v') w ∧ VRel m v v' := by
        intro s hb hlit ht
        obtain ⟨b, hb, hv⟩ := Option.map_eq_some_iff.1 hb
        have hs := eqNil_some hb
        have lit : ∀ {u : Operand} {pu : AO}, cO nt u = some pu → nilIfaceC u = true → pu.ev z = .nilIface := by
          intro u pu hu hl
          cases u with
          | const c =>
            cases c with
            | nilIface => obtain rfl := Option.some.inj (show some (AO.c .nilIface) = some pu from hu); rfl
            | _ => exact Bool.noConfusion hl
          | _ => exact Bool.noConfusion hl
        have h5 : s = 5 → isNil (p.ev z) = some true ∨ isNil (q.ev z) = some true := by
          intro hs5
          have := hlit hs5
          rw [Bool.or_eq_true] at this
          rcases this with h | h
          · exact .inl (by rw [lit hp h]; rfl)
          · exact .inr (by rw [lit hq h]; rfl)
        have he := eqnil_run (P := P) (w := w) h1 h2 hb ht h5
        have notnum : ∀ {u : AV} {u' : Value}, VRel m u u' → nilSort u ≠ 0 → (∀ k i, u' ≠ .int k i) ∧ (∀ k i, u' ≠ .float k i) ∧ (∀ k i j, u' ≠ .complex k i j) ∧ (∀ c, u' ≠ .string c) ∧ ∀ c, u' ≠ .agg c := by
          intro u u' hu hs'
          cases hu <;> first | (exfalso; exact hs' rfl) | (refine ⟨?_, ?_, ?_, ?_, ?_⟩ <;> intros <;> simp)
        have hs0 : s ≠ 0 := by rcases ht with ⟨_, _, rfl, _⟩ | ⟨_, rfl, _⟩ | ⟨_, _, rfl, _⟩ | ⟨_, _, _, rfl, _⟩ | ⟨_, rfl, _⟩ <;> simp
        obtain ⟨n1, n2, n3, n4, n5⟩ := notnum h1 (by rw [hs.1]; exact hs0)
        refine fin2 hv.symm ?_ ?_
        · by_cases hn : a.eval x = .nilIface ∧ a.eval y = .nilIface
          · rw [hn.1, hn.2]
            have hs5 : s = 5 := by
              rw [hn.1] at h1
              have := hs.1
              cases hp' : p.ev z <;> rw [hp'] at h1 this <;> first | (exact this.symm) | (exfalso; exact hs0 this.symm) | (cases h1)
            have := hlit hs5
            rw [Bool.or_eq_true] at this
            exact guard_iface this
          · exact guard_none hn (fun c d hcd => n5 c hcd.1)
        · have hbin : ∀ o', (o' = BinOp.eql ∨ o' = BinOp.neq) → (binOp o' t (a.eval x) (a.eval y)).run P w = .ok (.bool (match o' with | .neq => !b | _ => b)) w := by
            intro o' ho'
            generalize a.eval x = u at n1 n2 n3 n4 he
            generalize a.eval y = u' at he
            rcases ho' with rfl | rfl
            · unfold binOp
              split <;> first
                | (exfalso; exact n1 _ _ rfl)
                | (exfalso; exact n2 _ _ rfl)
                | (exfalso; exact n3 _ _ _ rfl)
                | (exfalso; exact n4 _ rfl)
                | (simp [he]; done)
                | (exfalso; rename_i hx _; exact hx _ _ rfl rfl rfl)
                | simp_all
            · unfold binOp
              split <;> first
                | (exfalso; exact n1 _ _ rfl)
                | (exfalso; exact n2 _ _ rfl)
                | (exfalso; exact n3 _ _ _ rfl)
                | (exfalso; exact n4 _ rfl)
                | (simp [he]; done)
                | simp_all
          cases n with
          | true => subst hop; exact hbin .neq (.inr rfl)
          | false => subst hop; exact hbin .eql (.inl rfl)
      unfold cEq at hc
      split at hc
      · obtain rfl := Option.some.inj hc; exact nums hv
      · obtain rfl := Option.some.inj hc; exact nums hv
      · obtain rfl := Option.some.inj hc
        obtain ⟨b1, e1, hv⟩ := onBool_some (show (p.ev z).onBool _ = some v from hv)
        obtain ⟨b2, e2, hv⟩ := onBool_some (show (q.ev z).onBool _ = some v from hv)
        rw [e1] at h1
        rw [e2] at h2
        have f1 : a.eval x = .bool b1 := by generalize a.eval x = u at h1; cases h1; rfl
        have f2 : a.eval y = .bool b2 := by generalize a.eval y = u at h2; cases h2; rfl
        refine fin2 (Option.some.inj hv).symm (guard_none (by rw [f1]; simp) (by rw [f1]; simp)) ?_
        rw [f1, f2]
        cases n with
        | true => subst hop; simp only [if_true, binOp, Sem.run_bind]; rw [run_equal_bool w t b1 b2 hd]; rfl
        | false => subst hop; simp only [Bool.false_eq_true, if_false, binOp, Sem.run_bind]; rw [run_equal_bool w t b1 b2 hd]; rfl
      · simp only [Option.bind_eq_bind, Option.bind_eq_some_iff] at hc
        obtain ⟨j, hj, hc⟩ := hc
        split at hc
        · rename_i e hz
          obtain rfl := Option.some.inj hc
          exact nils hv (fun h => by cases h) (.inl ⟨_, j, rfl, hd, hj, hz⟩)
        · cases hc
      · obtain rfl := Option.some.inj hc
        exact nils hv (fun h => by cases h) (.inr (.inl ⟨_, rfl, hd⟩))
      · obtain rfl := Option.some.inj hc
        exact nils hv (fun h => by cases h) (.inr (.inr (.inl ⟨_, _, rfl, hd⟩)))
      · obtain rfl := Option.some.inj hc
        exact nils hv (fun h => by cases h) (.inr (.inr (.inr (.inl ⟨_, _, _, rfl, hd⟩))))
      · split at hc
        · rename_i hl
          obtain rfl := Option.some.inj hc
          exact nils hv (fun _ => hl) (.inr (.inr (.inr (.inr ⟨_, rfl, hd⟩))))
        · cases hc
      · rename_i fs hcx
        split at hc
        · rename_i hg
          obtain ⟨offs, ho, rfl⟩ := Option.map_eq_some_iff.1 hc
          obtain ⟨l1, e1, hv⟩ := onAgg_some (show (p.ev z).onAgg _ = some v from hv)
          obtain ⟨l2, e2, hv⟩ := onAgg_some (show (q.ev z).onAgg _ = some v from hv)
          obtain ⟨b, hb, hv⟩ := Option.map_eq_some_iff.1 hv
          rw [e1] at h1
          rw [e2] at h2
          simp only [Bool.and_eq_true, Bool.not_eq_true'] at hg
          have hf : P.fieldsOf t = fs := by simp [Program.fieldsOf, hd]
          generalize hu : a.eval x = u at h1
          generalize hu' : a.eval y = u' at h2
          cases h1 with | agg _ vs1 r1 o1 =>
          cases h2 with | agg _ vs2 r2 o2 =>
          have hrun := eqagg_run (P := P) (w := w) (d := 9998) r1 r2 fs.toList offs b ho hb
          have heq : (Op.equalIn 10000 t (.agg vs1.toArray) (.agg vs2.toArray)).run P w = .ok b w := by
            have := run_equalIn_agg w 9999 t vs1.toArray vs2.toArray (by rw [hf]; exact hd) hg.2
            rw [hf] at this
            exact this.trans hrun
          refine fin2 hv.symm ?_ ?_
          · rw [hu, hu']; exact run_eqGuard_agg w op t x y _ _ hg.1
          · rw [hu, hu']
            cases n with
            | true => subst hop; rw [if_pos rfl, run_neq_struct, heq]; rfl
            | false => subst hop; rw [if_neg (by simp), run_eql_struct, heq]; rfl
        · cases hc
      · rename_i c e hcx
        split at hc
        · rename_i hg
          simp only [Bool.and_eq_true, Bool.not_eq_true'] at hg
          obtain ⟨kd, hkd, rfl⟩ := Option.map_eq_some_iff.1 hc
          obtain ⟨i, hi⟩ := Option.isSome_iff_exists.1 hg.2
          obtain ⟨l1, e1, hv⟩ := onAgg_some (show (p.ev z).onAgg _ = some v from hv)
          obtain ⟨l2, e2, hv⟩ := onAgg_some (show (q.ev z).onAgg _ = some v from hv)
          obtain ⟨b, hb, hv⟩ := Option.map_eq_some_iff.1 hv
          rw [e1] at h1
          rw [e2] at h2
          generalize hu : a.eval x = u at h1
          generalize hu' : a.eval y = u' at h2
          cases h1 with | agg _ vs1 r1 o1 =>
          cases h2 with | agg _ vs2 r2 o2 =>
          have hrun := eqitems_run (P := P) (w := w) (d := 9998) (c := P.cellsOf e) r1 r2 hkd (List.range c) b hb
          have heq : (Op.equalIn 10000 t (.agg vs1.toArray) (.agg vs2.toArray)).run P w = .ok b w := (run_equalIn_array w 9999 vs1.toArray vs2.toArray hd hi).trans hrun
          refine fin2 hv.symm ?_ ?_
          · rw [hu, hu']; exact run_eqGuard_agg w op t x y _ _ hg.1
          · rw [hu, hu']
            cases n with
            | true => subst hop; rw [if_pos rfl, run_neq_struct, heq]; rfl
            | false => subst hop; rw [if_neg (by simp), run_eql_struct, heq]; rfl
        · cases hc
      · cases hc
    cases op
    case eql => exact eqs false rfl hc
    case neq => exact eqs true rfl hc
    all_goals
      (simp only at hc
       split at hc
       · obtain rfl := Option.some.inj hc; exact nums hv
       · obtain rfl := Option.some.inj hc; exact nums hv
       · cases hc)
  | unOp op t x =>
    obtain ⟨p, hp, rfl⟩ := Option.map_eq_some_iff.1 hc
    exact fin_value (un_run (hO x (by simp [Op.operands]) p hp) hv)
  | convert s d x =>
    simp only [cOp_eq, cOpS, Option.bind_eq_bind, Option.bind_eq_some_iff] at hc
    obtain ⟨p, hp, ds, hs, dd, hd, hc⟩ := hc
    have h1 := hO x (by simp [Op.operands]) p hp
    split at hc
    · obtain rfl := Option.some.inj hc
      exact fin_value (cvi_run hs hd h1 hv)
    · obtain rfl := Option.some.inj hc
      obtain ⟨l, n, e, hv⟩ := onStr_some (show (p.ev z).onStr _ = some v from hv)
      obtain rfl := Option.some.inj hv
      rw [e] at h1
      have h2 := h1
      generalize hu : a.eval x = u at h1 h2
      cases h1
      refine fin_value ⟨_, ?_, h2⟩
      rw [hu]
      simp [convert, run_underlying hs, run_underlying hd]
    · simp only [Option.bind_eq_some_iff] at hc
      obtain ⟨de, he, hc⟩ := hc
      split at hc
      · obtain rfl := Option.some.inj hc; exact noA hv
      · cases hc
    · simp only [Option.bind_eq_some_iff] at hc
      obtain ⟨de, he, hc⟩ := hc
      split at hc
      · obtain rfl := Option.some.inj hc
        exact fin_value (b2s_run I hs he hd h1 hv)
      · cases hc
    · simp only [Option.bind_eq_some_iff] at hc
      obtain ⟨j, hj, hc⟩ := hc
      split at hc
      · rename_i hz
        obtain rfl := Option.some.inj hc
        exact fin_value (cvp0_run I hs hd hj hz h1 hv)
      · cases hc
    · simp only [Option.bind_eq_some_iff] at hc
      obtain ⟨j, hj, hc⟩ := hc
      split at hc
      · rename_i hz
        obtain rfl := Option.some.inj hc
        exact fin_value (cvp1_run I hs hd hj hz h1 hv)
      · cases hc
    · cases hc
  | makeInterface t x =>
    simp only [cOp_eq, cOpS, Option.bind_eq_bind, Option.bind_eq_some_iff] at hc
    obtain ⟨d, hd, hc⟩ := hc
    split at hc
    · cases hc
    · rename_i hni hcx
      simp only [Option.bind_eq_some_iff, Option.some.injEq] at hc
      obtain ⟨p, hp, rfl⟩ := hc
      obtain rfl := Option.some.inj hv
      refine fin_value ⟨.iface t (a.eval x), ?_, .iface _ _ _ (hO x (by simp [Op.operands]) p hp)⟩
      simp only [Instr.makeInterface, Sem.run_bind, run_underlying hd, Result.andThen_ok]
      cases d <;> first | rfl | (exfalso; exact hni _ rfl)
  | makeFunc f xs ys =>
    cases f with
    | func f =>
      simp only [cOp_eq, cOpS] at hc
      split at hc
      · rename_i hf
        simp only [Option.bind_eq_bind, Option.bind_eq_some_iff, Option.some.injEq] at hc
        obtain ⟨p, hp, q, hq, rfl⟩ := hc
        obtain rfl := Option.some.inj hv
        have h1 := cOs_rel xs.toList p hp fun y hy => hO y (by simp [Op.operands]; exact .inl (by simpa using hy))
        have h2 := cOs_rel ys.toList q hq fun y hy => hO y (by simp [Op.operands]; exact .inr (by simpa using hy))
        exact fin_value ⟨.func (.func f) ⟨xs.toList.map a.eval⟩ ⟨ys.toList.map a.eval⟩, by simp only [Instr.makeFunc, Sem.run_pure]; rw [show xs.map a.eval = ⟨xs.toList.map a.eval⟩ from Array.toList_inj.1 (by simp), show ys.map a.eval = ⟨ys.toList.map a.eval⟩ from Array.toList_inj.1 (by simp)], .func f _ _ _ _ hf h1 h2⟩
      · cases hc
    | _ => simp [cOp_eq, cOpS] at hc
  | makeMap t r =>
    cases r with
    | none =>
      simp only [cOp_eq, cOpS, Option.bind_eq_bind, Option.bind_eq_some_iff] at hc
      obtain ⟨d, hd, hc⟩ := hc
      split at hc
      · obtain rfl := Option.some.inj hc; exact noA hv
      · cases hc
    | some r =>
      cases r with
      | const c =>
        cases c with
        | int k n =>
          simp only [cOp_eq, cOpS, Option.bind_eq_bind, Option.bind_eq_some_iff] at hc
          obtain ⟨d, hd, hc⟩ := hc
          split at hc
          · obtain rfl := Option.some.inj hc; exact noA hv
          · cases hc
        | _ => simp [cOp_eq, cOpS] at hc
      | _ => simp [cOp_eq, cOpS] at hc
  | makeSlice t l c =>
    simp only [cOp_eq, cOpS, Option.bind_eq_bind, Option.bind_eq_some_iff] at hc
    obtain ⟨_, _, _, _, _, _, hc⟩ := hc
    split at hc
    · simp only [Option.bind_eq_some_iff, Option.some.injEq] at hc
      obtain ⟨_, _, _, _, rfl⟩ := hc
      exact noA hv
    · cases hc
  | slice t x lo up mx =>
    simp only [cOp_eq, cOpS, Option.bind_eq_bind, Option.bind_eq_some_iff] at hc
    obtain ⟨p, hp, l, hl, u, hu, q, hq, d, hd, hc⟩ := hc
    have h1 := hO x (by simp [Op.operands]) p hp
    have ol := cOo_mem hO (x := lo) (by intro y hy; cases lo <;> simp_all [Op.operands])
    have ou := cOo_mem hO (x := up) (by intro y hy; cases up <;> simp_all [Op.operands])
    have oq := cOo_mem hO (x := mx) (by intro y hy; cases mx <;> simp_all [Op.operands])
    split at hc
    · -- a text
      split at hc
      · rename_i hq0
        obtain rfl := Option.some.inj hc
        obtain rfl : mx = none := by
          cases mx with
          | none => rfl
          | some y =>
            obtain ⟨q', _, rfl⟩ := Option.map_eq_some_iff.1 (show (cO nt y).map some = some q from hq)
            simp at hq0
        rcases onTxt_some (show (p.ev z).onTxt _ _ = some v from hv) with ⟨len, n, e, hv⟩ | ⟨ta, tb, e, hv⟩
        · unfold slStr at hv
          split at hv
          · cases hv
          · rename_i u' hu'
            split at hv
            · cases hv
            · rename_i l' hl'
              obtain ⟨hk, hv⟩ := whenA_some.1 hv
              obtain rfl := Option.some.inj hv
              rw [and_true', nble_iff, nble_iff] at hk
              rw [e] at h1
              have b1 := map_eval (optNat_some hl ol hl')
              have b2 := map_eval (optNat_some hu ou hu')
              exact fin_value (slstr_run hd h1 b1 b2 hk.1 hk.2)
        · rw [e] at h1
          unfold slTxt at hv
          cases l with
          | some _ => cases hv
          | none =>
          cases u with
          | none => cases hv
          | some y =>
          obtain ⟨k, n, hy, hv⟩ := onNat_some (show (y.ev z).onNat _ = some v from hv)
          obtain ⟨hk, hv⟩ := whenA_some.1 (show whenA _ _ = some v from hv)
          obtain rfl := Option.some.inj hv
          rw [nble_iff] at hk
          have hlo : lo = none := by
            cases lo with
            | none => rfl
            | some q => obtain ⟨_, _, hq⟩ := Option.map_eq_some_iff.1 (show (cO nt q).map some = some none from hl); cases hq
          subst hlo
          cases up with
          | none => cases hu
          | some q =>
          obtain ⟨y', hy', hyy⟩ := Option.map_eq_some_iff.1 (show (cO nt q).map some = some (some y) from hu)
          obtain rfl := Option.some.inj hyy
          have hq1 := ou q rfl y' hy'
          rw [hy] at hq1
          have hq2 := hq1.int_inv
          have := sltxt_run (P := P) (w := w) hd h1 (k := k) hk
          rw [show (Value.int k (n : Int)) = a.eval q from hq2.symm] at this
          exact fin_value this
      · cases hc
    · -- a slice
      rename_i el hcx
      simp only [Option.bind_eq_some_iff, Option.some.injEq] at hc
      obtain ⟨i, hi, rfl⟩ := hc
      replace hv : pSlsl i.size p l u q z h = some v := hv
      unfold pSlsl at hv
      split at hv
      · rename_i e
        rw [e] at h1
        split at hv
        · rename_i l' u' q' hl' hu' hq'
          obtain ⟨hk, hv⟩ := whenA_some.1 hv
          obtain rfl := Option.some.inj hv
          rw [and_true', bits_and3, nbeq_iff, nbeq_iff, nbeq_iff] at hk
          obtain ⟨hmx, rfl, rfl, rfl⟩ := hk
          have hn : a.eval x = .slice none 0 0 := by generalize a.eval x = y at h1; cases h1; rfl
          have b1 := map_eval (optNat_some hl ol hl')
          have b2 := map_eval (optNat_some hu ou hu')
          have b3 := map_eval (optNat_some hq oq hq')
          refine fin_value ⟨.slice none 0 0, ?_, .nilslice⟩
          rw [hn]
          refine slnil_run hd hi (b1.imp (·.1) id) (b2.imp (·.1) id) ?_
          rcases b3 with ⟨e3, _⟩ | ⟨k3, e3⟩
          · exact .inl e3
          · refine .inr ⟨k3, ?_, e3⟩
            intro hun
            have hu0 : up = none := by cases up with | none => rfl | some _ => simp at hun
            have hq0 : q.isNone = false := by
              cases mx with
              | none => simp at e3
              | some y =>
                obtain ⟨q', _, rfl⟩ := Option.map_eq_some_iff.1 (show (cO nt y).map some = some q from hq)
                rfl
            subst hu0
            obtain rfl := Option.some.inj (show some none = some u from hu)
            rw [hq0] at hmx
            simp at hmx
        · cases hv
      · rename_i id off len c ex k' e
        rw [e] at h1
        split at hv
        · -- without a third bound
          obtain rfl : mx = none := by
            cases mx with
            | none => rfl
            | some y =>
              obtain ⟨q', _, hq'⟩ := Option.map_eq_some_iff.1 (show (cO nt y).map some = some none from hq)
              cases hq'
          split at hv
          · cases hv
          · rename_i u' hu'
            split at hv
            · cases hv
            · rename_i l' hl'
              obtain ⟨hk, hv⟩ := whenA_some.1 hv
              obtain rfl := Option.some.inj hv
              rw [bits_and3, nbeq_iff, nble_iff, nble_iff] at hk
              obtain ⟨rfl, k1, k2⟩ := hk
              exact fin_value (slsl_run hd hi h1 (map_eval (optNat_some hl ol hl')) (map_eval (optNat_some hu ou hu')) k1 k2)
        · rename_i q0
          split at hv
          · rename_i q' u0 l' hq' hl'
            split at hv
            · rename_i u' hu'
              obtain ⟨hk, hv⟩ := whenA_some.1 hv
              obtain rfl := Option.some.inj hv
              rw [bits_and4, nbeq_iff, nble_iff, nble_iff, nble_iff] at hk
              obtain ⟨rfl, k1, k2, k3⟩ := hk
              rcases optNat_some (z := z) (d := 0) (n := q') hq oq (by exact hq') with ⟨rfl, _⟩ | ⟨yq, kq, rfl, eq⟩
              · cases (show some none = some (some q0) from hq)
              · rcases optNat_some (z := z) (d := 0) (n := u') hu ou (by exact hu') with ⟨rfl, _⟩ | ⟨yu, ku, rfl, eu⟩
                · cases (show some none = some (some u0) from hu)
                · refine fin_value ?_
                  have := slsl3_run (P := P) (w := w) (k' := ku) (k'' := kq) hd hi h1 (map_eval (optNat_some hl ol hl')) k1 k2 k3
                  simp only [Option.map_some, eq, eu]
                  exact this
            · cases hv
          · cases hv
      · cases hv
    · -- an array
      rename_i n el hcx
      simp only [Option.bind_eq_some_iff] at hc
      obtain ⟨i, hi, hc⟩ := hc
      split at hc
      · rename_i hq0
        obtain rfl := Option.some.inj hc
        simp only [Bool.and_eq_true, decide_eq_true_eq] at hq0
        obtain rfl : mx = none := by
          cases mx with
          | none => rfl
          | some y =>
            obtain ⟨q', _, rfl⟩ := Option.map_eq_some_iff.1 (show (cO nt y).map some = some q from hq)
            simp at hq0
        obtain ⟨id, off, e, hv⟩ := onPtr_some (show (p.ev z).onPtr _ = some v from hv)
        rw [e] at h1
        split at hv
        · cases hv
        · rename_i u' hu'
          split at hv
          · cases hv
          · rename_i l' hl'
            obtain ⟨fz, elem, lo', hi2, tr, hb, hv⟩ := onCells_some hv
            obtain ⟨hk, hv⟩ := whenA_some.1 hv
            obtain rfl := Option.some.inj hv
            rw [bits_and4, nble_iff, nble_iff, nble_iff, nble_iff] at hk
            obtain ⟨k1, k2, k3, k4⟩ := hk
            exact fin_value (slarr_run I hd hi h1 (map_eval (optNat_some hl ol hl')) (map_eval (optNat_some hu ou hu')) k1 k2 hq0.2 hb k3 k4)
      · cases hc
    · cases hc
  | fieldAddr t x f =>
    simp only [cOp_eq, cOpS, Option.bind_eq_bind, Option.bind_eq_some_iff] at hc
    obtain ⟨d, hd, hc⟩ := hc
    split at hc
    · rename_i fs hcx
      simp only [Option.bind_eq_some_iff] at hc
      obtain ⟨fd, hf, j, hj, hc⟩ := hc
      split at hc
      · rename_i hz
        simp only [Option.bind_eq_some_iff, Option.some.injEq] at hc
        obtain ⟨p, hp, rfl⟩ := hc
        have h1 := hO x (by simp [Op.operands]) p hp
        obtain ⟨id, off, e, hv⟩ := onPtr_some (show (p.ev z).onPtr _ = some v from hv)
        obtain rfl := Option.some.inj hv
        rw [e] at h1
        exact fin_value (faddr_run hd hf hj hz h1)
      · cases hc
    · cases hc
  | field t x f =>
    simp only [cOp_eq, cOpS, Option.bind_eq_bind, Option.bind_eq_some_iff] at hc
    obtain ⟨d, hd, hc⟩ := hc
    split at hc
    · rename_i fs hcx
      simp only [Option.bind_eq_some_iff, Option.some.injEq] at hc
      obtain ⟨fd, hf, ⟨n, agg⟩, ht, p, hp, rfl⟩ := hc
      have h1 := hO x (by simp [Op.operands]) p hp
      obtain ⟨l, e, hv⟩ := onAgg_some (show (p.ev z).onAgg _ = some v from hv)
      obtain ⟨hk, hv⟩ := whenA_some.1 hv
      obtain rfl := Option.some.inj hv
      rw [nble_iff] at hk
      rw [e] at h1
      generalize hu : a.eval x = u at h1
      cases h1 with | agg _ vs hvs ho =>
      obtain ⟨v', r1, r2⟩ := part_run (w := w) ht hvs ho (off := fd.offset) hk
      refine fin_value ⟨v', ?_, r2⟩
      rw [hu]
      simp only [Instr.field, Sem.run_bind, run_underlying hd, Result.andThen_ok, hf, asAgg, Sem.run_pure, r1]
    · cases hc
  | indexAddr t x i =>
    simp only [cOp_eq, cOpS, Option.bind_eq_bind, Option.bind_eq_some_iff] at hc
    obtain ⟨p, hp, q, hq, d, hd, hc⟩ := hc
    have h1 := hO x (by simp [Op.operands]) p hp
    have h2 := hO i (by simp [Op.operands]) q hq
    split at hc
    · simp only [Option.bind_eq_some_iff, Option.some.injEq] at hc
      obtain ⟨j, hj, rfl⟩ := hc
      obtain ⟨id, off, e, hv⟩ := onPtr_some (show (p.ev z).onPtr _ = some v from hv)
      obtain ⟨k, n, e', hv⟩ := onNat_some (show (q.ev z).onNat _ = some v from hv)
      obtain ⟨hk, hv⟩ := whenA_some.1 hv
      obtain rfl := Option.some.inj hv
      rw [nble_iff] at hk
      rw [e] at h1
      rw [e'] at h2
      exact fin_value (iaarr_run hd hj h1 h2 hk)
    · simp only [Option.bind_eq_some_iff, Option.some.injEq] at hc
      obtain ⟨j, hj, rfl⟩ := hc
      obtain ⟨id, off, len, c, ex, k', e, hv⟩ := onSlice_some (show (p.ev z).onSlice _ = some v from hv)
      obtain ⟨k, n, e', hv⟩ := onNat_some (show (q.ev z).onNat _ = some v from hv)
      obtain ⟨hk, hv⟩ := whenA_some.1 hv
      obtain rfl := Option.some.inj hv
      rw [and_true', nble_iff, nbeq_iff] at hk
      obtain ⟨k1, rfl⟩ := hk
      rw [e] at h1
      rw [e'] at h2
      exact fin_value (iasl_run hd hj h1 h2 k1)
    · cases hc
  | index t x i =>
    simp only [cOp_eq, cOpS, Option.bind_eq_bind, Option.bind_eq_some_iff] at hc
    obtain ⟨p, hp, q, hq, d, hd, hc⟩ := hc
    have h1 := hO x (by simp [Op.operands]) p hp
    have h2 := hO i (by simp [Op.operands]) q hq
    split at hc
    · rename_i n el
      simp only [Option.bind_eq_some_iff, Option.some.injEq] at hc
      obtain ⟨⟨k, agg⟩, ht, rfl⟩ := hc
      obtain ⟨l, e, hv⟩ := onAgg_some (show (p.ev z).onAgg _ = some v from hv)
      obtain ⟨kk, j, e', hv⟩ := onNat_some (show (q.ev z).onNat _ = some v from hv)
      obtain ⟨hk, hv⟩ := whenA_some.1 hv
      obtain rfl := Option.some.inj hv
      rw [and_true', nble_iff, nble_iff] at hk
      rw [e] at h1
      rw [e'] at h2
      have e2 := h2.int_inv
      generalize hu : a.eval x = u at h1
      cases h1 with | agg _ vs hvs ho =>
      have hle : j * k + k ≤ l.len := by
        have h3 : n * k ≤ l.len := hk.2
        have : (j + 1) * k ≤ n * k := Nat.mul_le_mul_right _ hk.1
        rw [Nat.add_mul] at this
        omega
      obtain ⟨v', r1, r2⟩ := part_run (w := w) ht hvs ho (off := j * k) hle
      refine fin_value ⟨v', ?_, r2⟩
      rw [hu, e2]
      have e1 : (0 : Int) ≤ Int.ofNat j ∧ Int.ofNat j < (n : Int) := ⟨Int.natCast_nonneg j, Int.ofNat_lt.2 hk.1⟩
      simp only [Instr.index, asIntOf, Sem.run_bind, Sem.run_pure, run_underlying hd, Result.andThen_ok]
      rw [if_pos e1]
      simp only [Sem.run_bind, (tyOf_some ht).1, Result.andThen_ok]
      exact r1
    · obtain rfl := Option.some.inj hc
      obtain ⟨len, n, e, hv⟩ := onStr_some (show (p.ev z).onStr _ = some v from hv)
      obtain ⟨kk, j, e', hv⟩ := onNat_some (show (q.ev z).onNat _ = some v from hv)
      obtain ⟨hk, hv⟩ := whenA_some.1 hv
      obtain rfl := Option.some.inj hv
      rw [nble_iff] at hk
      rw [e] at h1
      rw [e'] at h2
      exact fin_value (ixstr_run hd h1 h2 hk)
    · cases hc
  | lookup t x i ok =>
    simp only [cOp_eq, cOpS, Option.bind_eq_bind, Option.bind_eq_some_iff] at hc
    obtain ⟨d, hd, hc⟩ := hc
    split at hc
    · simp only [Option.bind_eq_some_iff, Option.some.injEq] at hc
      obtain ⟨zc, hz, s, hs, p, hp, q, hq, rfl⟩ := hc
      exact fin_value (lookup_run I hd hz hs (hO x (by simp [Op.operands]) p hp) (hO i (by simp [Op.operands]) q hq) hv)
    · cases hc
  | mapUpdate t m' k x =>
    simp only [cOp_eq, cOpS, Option.bind_eq_bind, Option.bind_eq_some_iff] at hc
    obtain ⟨d, hd, hc⟩ := hc
    split at hc
    · simp only [Option.bind_eq_some_iff, Option.some.injEq] at hc
      obtain ⟨_, _, _, _, _, _, _, _, rfl⟩ := hc
      exact noA hv
    · cases hc
  | insert t m' k x =>
    simp only [cOp_eq, cOpS, Option.bind_eq_bind, Option.bind_eq_some_iff] at hc
    obtain ⟨d, hd, hc⟩ := hc
    split at hc
    · simp only [Option.bind_eq_some_iff, Option.some.injEq] at hc
      obtain ⟨_, _, _, _, _, _, _, _, rfl⟩ := hc
      exact noA hv
    · cases hc
  | range t x =>
    simp only [cOp_eq, cOpS, Option.bind_eq_bind, Option.bind_eq_some_iff] at hc
    obtain ⟨d, hd, hc⟩ := hc
    split at hc
    · obtain ⟨p, hp, rfl⟩ := Option.map_eq_some_iff.1 hc
      exact noA hv
    · cases hc
  | next x b =>
    cases b with
    | false => simp [cOp_eq, cOpS] at hc
    | true =>
      obtain ⟨p, hp, rfl⟩ := Option.map_eq_some_iff.1 (show (cO nt x).map .next = some ao from hc)
      exact noA hv
  | extract x i =>
    obtain ⟨p, hp, rfl⟩ := Option.map_eq_some_iff.1 hc
    have h1 := hO x (by simp [Op.operands]) p hp
    obtain ⟨l, e, hv⟩ := onTuple_some (show (p.ev z).onTuple _ = some v from hv)
    obtain ⟨hk, hv⟩ := whenA_some.1 hv
    obtain rfl := Option.some.inj hv
    rw [nble_iff] at hk
    rw [e] at h1
    generalize hu : a.eval x = u at h1
    cases h1 with | tuple _ vs hvs =>
    obtain ⟨v', r1, r2⟩ := hvs.nth (i := i) hk
    refine fin_value ⟨v', ?_, r2⟩
    rw [hu]
    simp [Instr.extract, r1]
  | call c =>
    obtain ⟨callee, args, argTypes⟩ := c
    cases callee with
    | invoke r n => simp [cOp_eq, cOpS] at hc
    | value f =>
      cases f with
      | func f =>
        simp only [cOp_eq, cOpS] at hc
        split at hc
        · simp only [Option.bind_eq_bind, Option.bind_eq_some_iff, Option.some.injEq] at hc
          obtain ⟨_, _, rfl⟩ := hc
          exact noA hv
        · cases hc
      | _ =>
        simp only [cOp_eq, cOpS, Option.bind_eq_bind, Option.bind_eq_some_iff, Option.some.injEq] at hc
        obtain ⟨_, _, _, _, rfl⟩ := hc
        exact noA hv
    | builtin b =>
      have hargs : ∀ (i : Nat) (y : Operand), args[i]? = some y → ∀ p, cO nt y = some p → VRel m (p.ev z) (a.eval y) := fun i y hy p hp => hO y (by
        simp only [Op.operands, Call.operands]
        simpa using Array.mem_of_getElem? hy) p hp
      have hrun : ∀ {s : Sem Value} {v : AV}, (∃ v', s.run P w = .ok v' w ∧ VRel m v v') → (builtin b argTypes ty (args.map fun | .const _ => true | _ => false) (args.map a.eval)) = (do pure (Next.value (← s))) →
          ∃ v', (execOp a.eval ⟨dst, .call ⟨.builtin b, args, argTypes⟩, ty, pos, after, guard⟩).run P w = .ok (.value v') w ∧ VRel m v v' := by
        intro s v hs he
        obtain ⟨v', r1, r2⟩ := fin_value hs
        refine ⟨v', ?_, r2⟩
        rw [← r1, ← he]
        simp only [execOp, resolve, invoke, Sem.run_bind, Sem.run_pure, Result.andThen_ok]
        rfl
      cases b <;> first | (exfalso; simp [cOp_eq, cOpS] at hc; done) | skip
      case append =>
        simp only [cOp_eq, cOpS, Option.bind_eq_bind, Option.bind_eq_some_iff] at hc
        obtain ⟨_, _, _, _, _, _, _, _, _, _, _, _, _, _, _, _, hc⟩ := hc
        split at hc
        · simp only [Option.bind_eq_some_iff, Option.some.injEq] at hc
          obtain ⟨_, _, _, _, rfl⟩ := hc
          exact noA hv
        · split at hc
          · simp only [Option.bind_eq_some_iff, Option.some.injEq] at hc
            obtain ⟨_, _, _, _, rfl⟩ := hc
            exact noA hv
          · cases hc
        · simp only [Option.bind_eq_some_iff, Option.some.injEq] at hc
          obtain ⟨_, _, _, _, rfl⟩ := hc
          exact noA hv
      case cap =>
        simp only [cOp_eq, cOpS, Option.bind_eq_bind, Option.bind_eq_some_iff] at hc
        obtain ⟨t, ht, x, hx, d, hd, hc⟩ := hc
        have hx' : (args.map a.eval)[0]? = some (a.eval x) := by simp [hx]
        split at hc
        · obtain rfl := Option.some.inj hc
          obtain rfl := Option.some.inj hv
          refine hrun (s := Builtin.cap_ argTypes ty (args.map a.eval)) ⟨_, ?_, .int _ _⟩ rfl
          simp [Builtin.cap_, ht, hx', run_underlying hd, goInt]
        · obtain ⟨p, hp, rfl⟩ := Option.map_eq_some_iff.1 hc
          have h1 := hargs 0 x hx p hp
          replace hv : pCap p z h = some v := hv
          unfold pCap at hv
          split at hv
          · rename_i id off len c ex k e
            obtain rfl := Option.some.inj hv
            rw [e] at h1
            generalize hu : a.eval x = u at h1 hx'
            cases h1 with | slice _ _ _ _ _ _ e0 aa cc he hd0 hlen hlo hmax hex hsz haddr =>
            refine hrun (s := Builtin.cap_ argTypes ty (args.map a.eval)) ⟨.int .i64 (.ofNat cc), ?_, ?_⟩ rfl
            · simp [Builtin.cap_, ht, hx', run_underlying hd, goInt]
            · cases ex with
              | true => rw [hex rfl]; exact .int _ _
              | false => exact .icap _ _ hlo hmax
          · rename_i e
            obtain rfl := Option.some.inj hv
            rw [e] at h1
            generalize hu : a.eval x = u at h1 hx'
            cases h1
            refine hrun (s := Builtin.cap_ argTypes ty (args.map a.eval)) ⟨.int .i64 (.ofNat 0), ?_, .int _ _⟩ rfl
            simp [Builtin.cap_, ht, hx', run_underlying hd, goInt]
          · cases hv
        · cases hc
      case delete =>
        simp only [cOp_eq, cOpS, Option.bind_eq_bind, Option.bind_eq_some_iff] at hc
        obtain ⟨_, _, _, _, _, _, d, hd, hc⟩ := hc
        split at hc
        · simp only [Option.bind_eq_some_iff, Option.some.injEq] at hc
          obtain ⟨_, _, _, _, _, _, rfl⟩ := hc
          exact noA hv
        · cases hc
      case clear =>
        simp only [cOp_eq, cOpS, Option.bind_eq_bind, Option.bind_eq_some_iff] at hc
        obtain ⟨_, _, _, _, _, _, hc⟩ := hc
        split at hc
        · simp only [Option.bind_eq_some_iff, Option.some.injEq] at hc
          obtain ⟨_, _, _, _, rfl⟩ := hc
          exact noA hv
        · cases hc
      case copy =>
        simp only [cOp_eq, cOpS, Option.bind_eq_bind, Option.bind_eq_some_iff, Option.some.injEq] at hc
        obtain ⟨_, _, _, _, _, _, _, _, _, _, _, _, _, _, rfl⟩ := hc
        exact noA hv
      case len =>
        simp only [cOp_eq, cOpS, Option.bind_eq_bind, Option.bind_eq_some_iff] at hc
        obtain ⟨t, ht, x, hx, d, hd, hc⟩ := hc
        have hx' : (args.map a.eval)[0]? = some (a.eval x) := by simp [hx]
        have lens : ∀ {s : Nat} {p : AO}, cO nt x = some p → pLen s p z h = some v → ((s = 0 ∧ d = .string) ∨ (s = 1 ∧ ∃ e, d = .slice e) ∨ (s = 2 ∧ ∃ k e, d = .map k e)) →
            ∃ v', (execOp a.eval ⟨dst, .call ⟨.builtin .len, args, argTypes⟩, ty, pos, after, guard⟩).run P w = .ok (.value v') w ∧ VRel m v v' := by
          intro s p hp hv hsd
          have h1 := hargs 0 x hx p hp
          unfold pLen at hv
          cases hp' : p.ev z <;> rw [hp'] at hv h1 <;> first | exact noA hv | skip
          · rename_i tlo thi
            obtain ⟨hk, hv⟩ := whenA_some.1 (show whenA _ _ = some v from hv)
            rw [nbeq_iff] at hk
            subst hk
            obtain rfl : d = .string := by rcases hsd with ⟨_, h⟩ | ⟨h, _⟩ | ⟨h, _⟩ <;> first | exact h | cases h
            generalize hu : a.eval x = u at h1 hx'
            cases h1 with | text _ _ s0 b1 b2 =>
            replace hv : lenT tlo thi = some v := hv
            have hsz : s0.data.toList.length = s0.size := Array.length_toList
            refine hrun (s := Builtin.len_ argTypes ty (args.map a.eval)) ⟨.int .i64 (s0.size : Int), ?_, ?_⟩ rfl
            · simp [Builtin.len_, ht, hx', run_underlying hd, goInt]
            · unfold lenT at hv
              cases hb : Nat.ble thi 70001 with
              | true =>
                rw [hb] at hv
                obtain rfl := Option.some.inj hv
                exact .ilt _ _ (by omega)
              | false =>
                rw [hb] at hv
                obtain ⟨hk, hv⟩ := whenA_some.1 (show whenA _ _ = some v from hv)
                obtain rfl := Option.some.inj hv
                rw [nble_iff] at hk
                exact .icap _ _ (by omega) (by show s0.size ≤ 9223372036854775807; omega)
          · obtain ⟨hk, hv⟩ := whenA_some.1 (show whenA _ _ = some v from hv)
            obtain rfl := Option.some.inj (show some _ = some v from hv)
            rw [nbeq_iff] at hk
            subst hk
            obtain rfl : d = .string := by rcases hsd with ⟨_, h⟩ | ⟨h, _⟩ | ⟨h, _⟩ <;> first | exact h | cases h
            generalize hu : a.eval x = u at h1 hx'
            cases h1 with | str s0 =>
            refine hrun (s := Builtin.len_ argTypes ty (args.map a.eval)) ⟨.int .i64 (s0.size : Int), ?_, ?_⟩ rfl
            · simp [Builtin.len_, ht, hx', run_underlying hd, goInt]
            · rw [show s0.data.toList.length = s0.size from Array.length_toList]; exact .int _ _
          · obtain ⟨hk, hv⟩ := whenA_some.1 (show whenA _ _ = some v from hv)
            obtain rfl := Option.some.inj (show some _ = some v from hv)
            rw [nbeq_iff] at hk
            subst hk
            obtain ⟨e, rfl⟩ : ∃ e, d = .slice e := by rcases hsd with ⟨h, _⟩ | ⟨_, h⟩ | ⟨h, _⟩ <;> first | exact h | cases h
            generalize hu : a.eval x = u at h1 hx'
            cases h1
            refine hrun (s := Builtin.len_ argTypes ty (args.map a.eval)) ⟨_, ?_, .int _ _⟩ rfl
            simp [Builtin.len_, ht, hx', run_underlying hd, goInt]
          · obtain ⟨hk, hv⟩ := whenA_some.1 (show whenA _ _ = some v from hv)
            obtain rfl := Option.some.inj (show some _ = some v from hv)
            rw [nbeq_iff] at hk
            subst hk
            obtain ⟨e, rfl⟩ : ∃ e, d = .slice e := by rcases hsd with ⟨h, _⟩ | ⟨_, h⟩ | ⟨h, _⟩ <;> first | exact h | cases h
            generalize hu : a.eval x = u at h1 hx'
            cases h1
            refine hrun (s := Builtin.len_ argTypes ty (args.map a.eval)) ⟨_, ?_, .int _ _⟩ rfl
            simp [Builtin.len_, ht, hx', run_underlying hd, goInt]
          · rename_i id
            replace hv := whenA_some.1 (show whenA _ _ = some v from hv)
            obtain ⟨hk, hv⟩ := hv
            rw [nbeq_iff] at hk
            subst hk
            obtain ⟨k, e, rfl⟩ : ∃ k e, d = .map k e := by rcases hsd with ⟨h, _⟩ | ⟨h, _⟩ | ⟨_, h⟩ <;> first | exact h | cases h
            generalize hu : a.eval x = u at h1 hx'
            cases h1 with | map _ e0 he0 =>
            have hB := I.blk id e0 he0
            cases hb : h.get id <;> rw [hb] at hv hB <;> first | exact noA hv | skip
            obtain rfl := Option.some.inj (show some _ = some v from hv)
            obtain ⟨l, hw, hM⟩ := hB
            refine hrun (s := Builtin.len_ argTypes ty (args.map a.eval)) ⟨.int .i64 (l.size : Int), ?_, ?_⟩ rfl
            · have hg : ∀ c, w.heap[e0.blk]? = some (.map l c) → (getObj e0.blk).run P w = .ok (.map l c) w := fun c hc => by simp [getObj, Sem.run, hc]
              simp [Builtin.len_, ht, hx', run_underlying hd, goInt, hg _ hw]
            · have := hM.len
              rw [this]
              have e2 : (l.size : Int) = Int.ofNat l.toList.length := by simp
              rw [e2]; exact .int _ _
          · obtain ⟨hk, hv⟩ := whenA_some.1 (show whenA _ _ = some v from hv)
            obtain rfl := Option.some.inj (show some _ = some v from hv)
            rw [nbeq_iff] at hk
            subst hk
            obtain ⟨k, e, rfl⟩ : ∃ k e, d = .map k e := by rcases hsd with ⟨h, _⟩ | ⟨h, _⟩ | ⟨_, h⟩ <;> first | exact h | cases h
            generalize hu : a.eval x = u at h1 hx'
            cases h1
            refine hrun (s := Builtin.len_ argTypes ty (args.map a.eval)) ⟨_, ?_, .int _ _⟩ rfl
            simp [Builtin.len_, ht, hx', run_underlying hd, goInt]
        split at hc
        · obtain rfl := Option.some.inj hc
          obtain rfl := Option.some.inj hv
          refine hrun (s := Builtin.len_ argTypes ty (args.map a.eval)) ⟨_, ?_, .int _ _⟩ rfl
          simp [Builtin.len_, ht, hx', run_underlying hd, goInt]
        · simp only [Option.bind_eq_some_iff] at hc
          obtain ⟨d', hd', hc⟩ := hc
          split at hc
          · obtain rfl := Option.some.inj hc
            obtain rfl := Option.some.inj hv
            refine hrun (s := Builtin.len_ argTypes ty (args.map a.eval)) ⟨_, ?_, .int _ _⟩ rfl
            simp [Builtin.len_, ht, hx', run_underlying hd, run_underlying hd', goInt]
          · cases hc
        · obtain ⟨p, hp, rfl⟩ := Option.map_eq_some_iff.1 hc
          exact lens hp hv (.inl ⟨rfl, rfl⟩)
        · obtain ⟨p, hp, rfl⟩ := Option.map_eq_some_iff.1 hc
          exact lens hp hv (.inr (.inl ⟨rfl, _, rfl⟩))
        · obtain ⟨p, hp, rfl⟩ := Option.map_eq_some_iff.1 hc
          exact lens hp hv (.inr (.inr ⟨rfl, _, _, rfl⟩))
        · cases hc
      case max =>
        simp only [cOp_eq, cOpS, Option.bind_eq_bind, Option.bind_eq_some_iff, Option.some.injEq] at hc
        obtain ⟨x, hx, p, hp, q, hq, rfl⟩ := hc
        obtain ⟨y, ys, hys⟩ : ∃ y ys, args.toList = y :: ys := by
          cases hl : args.toList with
          | nil => have := congrArg List.length hl; simp at this; subst this; simp at hx
          | cons y ys => exact ⟨y, ys, rfl⟩
        have hxy : x = y := by
          have : args.toList[0]? = some x := by simpa using hx
          rw [hys] at this; simpa using this.symm
        subst hxy
        rw [hys] at hq
        have hO' : ∀ u ∈ args.toList, ∀ p, cO nt u = some p → VRel m (p.ev z) (a.eval u) := fun u hu p hp => hO u (by simp [Op.operands, Call.operands]; simpa using hu) p hp
        have h1 := hO' x (by rw [hys]; simp) p hp
        have h2 := cOs_rel ys q (by simpa using hq) fun u hu => hO' u (by rw [hys]; simp [hu])
        obtain ⟨v', r1, r2⟩ := mm_run (P := P) (w := w) (ts := argTypes) (t := ty) (isMax := true) (q.ev z) _ (p.ev z) v _ h1 h2 hv
        refine hrun (s := Builtin.max_ argTypes ty (args.map a.eval)) ⟨v', ?_, r2⟩ rfl
        simp only [Builtin.max_, Array.toList_map, hys, List.map_cons]
        simpa using r1
      case min =>
        simp only [cOp_eq, cOpS, Option.bind_eq_bind, Option.bind_eq_some_iff, Option.some.injEq] at hc
        obtain ⟨x, hx, p, hp, q, hq, rfl⟩ := hc
        obtain ⟨y, ys, hys⟩ : ∃ y ys, args.toList = y :: ys := by
          cases hl : args.toList with
          | nil => have := congrArg List.length hl; simp at this; subst this; simp at hx
          | cons y ys => exact ⟨y, ys, rfl⟩
        have hxy : x = y := by
          have : args.toList[0]? = some x := by simpa using hx
          rw [hys] at this; simpa using this.symm
        subst hxy
        rw [hys] at hq
        have hO' : ∀ u ∈ args.toList, ∀ p, cO nt u = some p → VRel m (p.ev z) (a.eval u) := fun u hu p hp => hO u (by simp [Op.operands, Call.operands]; simpa using hu) p hp
        have h1 := hO' x (by rw [hys]; simp) p hp
        have h2 := cOs_rel ys q (by simpa using hq) fun u hu => hO' u (by rw [hys]; simp [hu])
        obtain ⟨v', r1, r2⟩ := mm_run (P := P) (w := w) (ts := argTypes) (t := ty) (isMax := false) (q.ev z) _ (p.ev z) v _ h1 h2 hv
        refine hrun (s := Builtin.min_ argTypes ty (args.map a.eval)) ⟨v', ?_, r2⟩ rfl
        simp only [Builtin.min_, Array.toList_map, hys, List.map_cons]
        simpa using r1
      case unsafeSliceData =>
        simp only [cOp_eq, cOpS, Option.bind_eq_bind, Option.bind_eq_some_iff] at hc
        obtain ⟨x, hx, hc⟩ := hc
        split at hc
        · rename_i h1s
          simp only [Option.bind_eq_some_iff, Option.some.injEq] at hc
          obtain ⟨p, hp, rfl⟩ := hc
          have h1 := hargs 0 x hx p hp
          have hal : args = #[x] := by
            apply Array.toList_inj.1
            have hsz : args.size = 1 := by simpa using h1s
            cases hl : args.toList with
            | nil => have := congrArg List.length hl; simp at this; subst this; simp at hx
            | cons y ys =>
              have h3 := congrArg List.length hl
              simp [hsz] at h3
              subst h3
              have : args.toList[0]? = some x := by simpa using hx
              rw [hl] at this
              simpa using this
          subst hal
          replace hv : pUsd p z h = some v := hv
          unfold pUsd at hv
          split at hv
          · rename_i e
            obtain rfl := Option.some.inj hv
            rw [e] at h1
            generalize hu : a.eval x = u at h1
            cases h1
            refine hrun (s := Builtin.unsafeSliceData_ argTypes ty (#[x].map a.eval)) ⟨.pointer none, ?_, .nilptr⟩ rfl
            rw [show (#[x].map a.eval) = #[a.eval x] by simp, hu]
            rfl
          · rename_i id off len c ex k e
            obtain ⟨hk, hv⟩ := whenA_some.1 hv
            obtain rfl := Option.some.inj hv
            rw [nble_iff] at hk
            rw [e] at h1
            generalize hu : a.eval x = u at h1
            cases h1 with | slice _ _ _ _ _ _ e0 aa cc he hd0 hlen hlo hmax hex hsz haddr =>
            have hne : cc ≠ 0 := by omega
            refine hrun (s := Builtin.unsafeSliceData_ argTypes ty (#[x].map a.eval)) ⟨.pointer (some aa), ?_, ?_⟩ rfl
            · rw [show (#[x].map a.eval) = #[a.eval x] by simp, hu]
              show (if cc ≠ 0 then (pure (Value.pointer (some aa)) : Sem Value) else _).run P w = _
              rw [if_pos hne]
              rfl
            · rw [haddr hne]; exact .ptr _ _ e0 he hd0
          · cases hv
        · cases hc
      case unsafeString =>
        simp only [cOp_eq, cOpS, Option.bind_eq_bind, Option.bind_eq_some_iff] at hc
        obtain ⟨_, _, _, _, _, _, d, hd, hc⟩ := hc
        split at hc
        · simp only [Option.bind_eq_some_iff] at hc
          obtain ⟨d', hd', hc⟩ := hc
          split at hc
          · split at hc
            · simp only [Option.bind_eq_some_iff, Option.some.injEq] at hc
              obtain ⟨_, _, _, _, rfl⟩ := hc
              exact noA hv
            · cases hc
          · cases hc
        · cases hc
  | _ => exfalso; simp [cOp_eq, cOpS] at hc
end Go.Ra
