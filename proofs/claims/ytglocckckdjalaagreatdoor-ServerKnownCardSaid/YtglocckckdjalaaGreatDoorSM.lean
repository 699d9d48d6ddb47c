/-
  Control: ranges over functions; code.
-/
import Derived.Test.YtglocckckdjalaaGreatDoorSL
set_option linter.unusedVariables false
set_option linter.unusedSimpArgs false
namespace Go.Ra
variable {P : Program} {m : Mp} {h : TB} {nx : Nat} {w : World} {nt : Nat} {a : Act} {z : TV} {ft : TF} {ex : Exec}

theorem alloc_more (w : World) (o : Obj) : w.alloc o = w.more o w.drawn := rfl
/-- A block more that nobody names. -/
theorem Inv.beside (I : Inv P m h nx w) (o : Obj) : Inv P m h nx (w.alloc o) ∧ Fr m h nx w m h nx (w.alloc o) := by
  refine ⟨⟨fun id e he => ?_, I.inj, I.dom, I.top, I.low, I.glob, I.ro, fun id e he => ?_⟩, ?_⟩
  · rw [alloc_more, more_old (I.lim id e he)]
    exact I.blk id e he
  · have := I.lim id e he
    rw [World.size_alloc]
    omega
  · refine ⟨Sub.refl m, Nat.le_refl _, fun _ _ e => ⟨e, rfl⟩, rfl, rfl, rfl, by rw [World.size_alloc]; omega, fun r hr _ => more_old hr, fun r l hl => ⟨l, ?_⟩, fun id e h1 h2 => by rw [h1] at h2; cases h2⟩
    rw [alloc_more, more_old (Array.getElem?_eq_some_iff.1 hl).1]
    exact hl

theorem range_core (hcal : CallsTo P ft ex) {g : Operand} {ps : Array Tmp} {assign body : Code} {s : Start} {ro : Option Nat} (hn : nt ≤ 4096) {qs : List Pth} {as bd : ACode} (hps : ps.toList.mapM (cT nt) = some qs) (has : cCode P nt assign = some as) (hbd : cCode P nt body = some bd)
    {w0 : World} {mark : List Deferred} (S : St P s nt m z h nx { a with defers := mark ++ a.defers } w0) {fp : Pth} {pa pb : AV} (hf : VRel m (.func fp pa pb) (a.eval g)) (hnx : nx ≤ 32767) (hfn : isFn (TF.get fp ft) = true)
    {r : R} (hr : rangeEnd (bid nx) z (callA ft ex fp (pa.app (.cs (.yield (bid nx)) pb)) (TB.set (bid nx) (.loop .ready none z qs as bd) h) (Nat.succ nx)) = r) (hrf : r ≠ .fail) (fn : FuncId) (dfs : Nat) :
    ∃ (d : Deferred) (f : FuncId) (args : Array Value),
      (resolve a.eval (rangeCall g w0.heap.size) 0).run P (w0.alloc (.loop { state := .ready, pending := none, fn, tmps := a.tmps, params := ps, assign, body, defers := dfs })) = .ok d (w0.alloc (.loop { state := .ready, pending := none, fn, tmps := a.tmps, params := ps, assign, body, defers := dfs })) ∧
      (invoke d.target d.args).run P (w0.alloc (.loop { state := .ready, pending := none, fn, tmps := a.tmps, params := ps, assign, body, defers := dfs })) = .ok (.enter f args) (w0.alloc (.loop { state := .ready, pending := none, fn, tmps := a.tmps, params := ps, assign, body, defers := dfs })) ∧
      CallsIn (fnc ro) 0 P f args (w0.alloc (.loop { state := .ready, pending := none, fn, tmps := a.tmps, params := ps, assign, body, defers := dfs })) (rangePost (fnc ro) 0 P w0.heap.size (Post P s nt r) { a with defers := mark ++ a.defers }) := by
  generalize hrec : ({ state := .ready, pending := none, fn, tmps := a.tmps, params := ps, assign, body, defers := dfs } : Loop) = rec
  have hB : BRel P (m.ext nx ⟨w0.heap.size, 0, 0, false⟩) ⟨w0.heap.size, 0, 0, false⟩ (.loop .ready none z qs as bd) (some (.loop rec)) := by
    subst hrec
    exact ⟨_, rfl, rfl, rfl, nt, hn, S.T.mono (Mp.ext_sub (S.I.fresh (Nat.le_refl _) hnx)), hps, has, hbd⟩
  obtain ⟨I1, F1⟩ := S.I.more hnx (e := ⟨w0.heap.size, 0, 0, false⟩) rfl rfl (d := w0.drawn) hB
  rw [← alloc_more] at I1 F1
  have hf1 := hf.mono F1.sub
  generalize hw1 : w0.alloc (.loop rec) = w1 at I1 F1
  generalize hu : a.eval g = u at hf1
  clear hf
  cases hf1 with | func f _ _ l1 l2 hlt h1 h2 =>
  have hy : VRel (m.ext nx ⟨w0.heap.size, 0, 0, false⟩) (.yield (bid nx)) (.func (.yield w0.heap.size) #[] #[]) := .yield _ ⟨w0.heap.size, 0, 0, false⟩ (Mp.ext_self m nx _)
  have hargs := h1.app (.cons _ _ _ _ hy h2)
  generalize hc : callA ft ex (bid f) (pa.app (.cs (.yield (bid nx)) pb)) (TB.set (bid nx) (.loop .ready none z qs as bd) h) (Nat.succ nx) = c at hr
  cases c with
  | fail => exact absurd hr.symm hrf
  | ok v h2 nx2 =>
  rcases hcal f _ _ _ v h2 nx2 _ w1 _ hlt I1 hargs hc with ⟨hno, _⟩ | ⟨henter, hcalls⟩
  · rw [hno] at hfn; cases hfn
  have ea : (⟨l1⟩ ++ #[Value.func (.yield w0.heap.size) #[] #[]] ++ ⟨l2⟩ : Array Value) = ⟨l1 ++ (Value.func (.yield w0.heap.size) #[] #[] :: l2)⟩ := by apply Array.toList_inj.1; simp
  refine ⟨{ target := .fn (.func f) ⟨l2⟩, args := ⟨l1⟩ ++ #[.func (.yield w0.heap.size) #[] #[]] }, f, ⟨l1 ++ (Value.func (.yield w0.heap.size) #[] #[] :: l2)⟩, ?_, ?_, ?_⟩
  · simp only [resolve, hu, Deferred.ofValue, Sem.run_pure]
    rw [show Array.map a.eval #[Operand.const (Value.func (Fn.yield w0.heap.size) #[] #[])] = #[Value.func (.yield w0.heap.size) #[] #[]] by rw [List.map_toArray]; rfl]
  · show (callFunc f (⟨l1⟩ ++ #[Value.func (.yield w0.heap.size) #[] #[]] ++ ⟨l2⟩)).run P w1 = _
    rw [ea]
    exact henter
  · refine CallsIn.mono (F := fnc ro) (show CallsIn (fnc ro) 0 P f _ w1 (RetA P _ _ _ w1 v h2 nx2) from hcalls) fun e w3 he => ?_
    obtain ⟨v', rfl, m3, _, I3, F3⟩ := he
    have he3 : m3 (bid nx) = some ⟨w0.heap.size, 0, 0, false⟩ := F3.sub _ _ (Mp.ext_self m nx _)
    have S3 : St P s nt m3 z h2 nx2 { a with defers := mark ++ a.defers } w3 :=
      ⟨(S.T.mono F1.sub).mono F3.sub, I3, (S.F.trans F1).trans F3, (S.K.step F1).step F3⟩
    unfold rangeEnd at hr
    simp only at hr
    split at hr
    case h_2 => exact absurd hr.symm hrf
    rename_i st pd z' qs' as' bd' hg
    obtain ⟨r3, k1, k2, k3, I4, F4⟩ := S3.I.loopUpd he3 hg .exhausted pd
    rw [← k3] at I4 F4
    have hst : st ≠ .busy := by
      rintro rfl
      exact absurd hr.symm hrf
    have hr' : (match (generalizing := false) pd with
        | none => R.norm z (TB.set (bid nx) (.loop .exhausted pd z' qs' as' bd') h2) nx2
        | some .ret => .ret z (TB.set (bid nx) (.loop .exhausted pd z' qs' as' bd') h2) nx2
        | some (.exit e) => .exit e z (TB.set (bid nx) (.loop .exhausted pd z' qs' as' bd') h2) nx2) = r := by
      cases st with
      | busy => exact absurd rfl hst
      | _ => exact hr
    have S4 := S3.upd I4 F4
    refine ⟨r3.pending, _, run_endLoop k1 (by rw [k2]; exact hst), ?_⟩
    cases pd with
    | none =>
      rw [k3]
      exact ⟨m3, z, _, nx2, hr'.symm, by rw [k3] at S4; exact S4⟩
    | some j =>
      cases j with
      | ret =>
        rw [k3]
        exact wpIn_ret ⟨m3, z, _, nx2, hr'.symm, by rw [k3] at S4; exact S4⟩
      | exit id =>
        rw [k3]
        exact wpIn_exit ⟨m3, z, _, nx2, hr'.symm, by rw [k3] at S4; exact S4⟩

theorem range_sound (hcal : CallsTo P ft ex) {g : Operand} {ps : Array Tmp} {assign body : Code} {s : Start} {ro : Option Nat} (hro : RoundOk s ro) (hn : nt ≤ 4096) {x : AO} {qs : List Pth} {as bd : ACode} (hx : cO nt g = some x) (hps : ps.toList.mapM (cT nt) = some qs) (has : cCode P nt assign = some as) (hbd : cCode P nt body = some bd)
    (S : St P s nt m z h nx a w) {r : R} (hr : rangeA ft ex (x.ev z) qs as bd z h nx = r) (hrf : r ≠ .fail) : (Code.rangeFunc g ps assign body).wpIn (fnc ro) 0 P (Post P s nt r) a w := by
  have hf := cO_all S.I.glob S.T hx
  unfold rangeA at hr
  split at hr
  case h_2 => exact absurd hr.symm hrf
  rename_i fp pa pb he
  rw [he] at hf
  cases hnx : Nat.ble nx 32767 with
  | false => rw [hnx] at hr; exact absurd hr.symm hrf
  | true =>
  rw [hnx] at hr
  cases hfn : isFn (TF.get fp ft) with
  | false => rw [hfn] at hr; exact absurd hr.symm hrf
  | true =>
  rw [hfn] at hr
  replace hr : rangeEnd (bid nx) z (callA ft ex fp (pa.app (.cs (.yield (bid nx)) pb)) (TB.set (bid nx) (.loop .ready none z qs as bd) h) (Nat.succ nx)) = r := hr
  have hnx' := nble_iff.1 hnx
  refine wpIn_rangeFunc fun fn _ => ?_
  cases ro with
  | none =>
    obtain ⟨I1, F1⟩ := S.I.beside (.deferred (some []))
    have hsz : (w.alloc (.deferred (some []))).heap.size = w.heap.size + 1 := World.size_alloc ..
    have S1 : St P s nt m z h nx { a with defers := [({ target := .collected w.heap.size, args := #[] } : Deferred)] ++ a.defers } (w.alloc (.deferred (some []))) := by
      obtain ⟨ml, hml, K0⟩ := S.K
      have K1 := K0.step F1
      refine ⟨S.T, I1, S.F.trans F1, ({ target := .collected w.heap.size, args := #[] } : Deferred) :: ml, by rw [hml]; rfl, fun d hd => ?_, ?_⟩
      · rcases List.mem_cons.1 hd with rfl | hd
        · refine ⟨w.heap.size, rfl, S.F.size, World.alloc_heap_new .., fun id e he hb => ?_⟩
          have := S.I.lim id e he
          omega
        · exact K1.1 d hd
      · show ((({ target := .collected w.heap.size, args := #[] } : Deferred) :: ml).map fun d => d.target).Nodup
        rw [List.map_cons, List.nodup_cons]
        refine ⟨fun hm => ?_, K1.2⟩
        obtain ⟨d, hd, ht⟩ := List.mem_map.1 hm
        obtain ⟨D, k1, k2, k3, k4⟩ := K0.1 d hd
        rw [k1] at ht
        injection ht with ht
        have := (Array.getElem?_eq_some_iff.1 k3).1
        omega
    obtain ⟨d, f, args, r1, r2, r3⟩ := range_core (ro := none) hcal hn hps has hbd S1 hf hnx' hfn hr hrf fn w.heap.size
    rw [hsz] at r1 r3
    exact ⟨_, _, _, d, _, f, args, _, run_enterLoop_outer fn a.tmps ps assign body, r1, fun _ _ => trivial, r2, fun hd => by simp [fnc, Fence.wide] at hd, r3⟩
  | some l0 =>
    obtain ⟨r0, hr0⟩ := hro
    obtain ⟨r0', hr0'⟩ := S.F.loops l0 r0 hr0
    obtain ⟨d, f, args, r1, r2, r3⟩ := range_core (ro := some l0) (mark := []) hcal hn hps has hbd S hf hnx' hfn hr hrf fn r0'.defers
    exact ⟨_, _, _, d, _, f, args, _, run_enterLoop_inner hr0' fn a.tmps ps assign body, r1, fun _ _ => trivial, r2, fun hd => by simp [fnc, Fence.wide] at hd, r3⟩

/-! Code -/
/-- What a drawn region comes to. -/
def DrawnTo (P : Program) (ft : TF) (ex : Exec) : Prop := ∀ (i : Nat) (ops : Array Oper) (nt : Nat) (al : ADr) (s : Start) (ro : Option Nat) (m : Mp) (z : TV) (h : TB) (nx : Nat) (a : Act) (w : World) (r : R), nt ≤ 4096 → cDr P nt ops = some al → St P s nt m z h nx a w → drawA ft ex al z h nx .nil (drawEnd al) = r → r ≠ .fail →
  (Code.region i ops true).wpIn (fnc ro) 0 P (Post P s nt r) a w
theorem exec_step (hcal : CallsTo P ft ex) (hrnd : RoundsTo P ex) (hdr : DrawnTo P ft ex) (hex : ExOk P ex) : ExOk P (execB ft ex) := by
  intro c nt ac s ro m z h nx a w r hn hc hro S hr hrf
  have noLoop : ∀ {q : Prop} {c : Code}, (∀ b, c ≠ .loop b) → (∀ b, c = .loop b → LoopIn (fnc ro) 0 P b (Post P s nt r) a w) := fun hne b hb => absurd hb (hne b)
  cases c with
  | skip =>
    obtain rfl := Option.some.inj (show some ACode.skip = some ac from hc)
    exact ⟨wpIn_skip ⟨m, z, h, nx, hr.symm, S⟩, noLoop (q := True) (by simp)⟩
  | label l =>
    obtain rfl := Option.some.inj (show some ACode.skip = some ac from hc)
    exact ⟨wpIn_label ⟨m, z, h, nx, hr.symm, S⟩, noLoop (q := True) (by simp)⟩
  | exit id =>
    obtain rfl := Option.some.inj (show some (ACode.exit id) = some ac from hc)
    exact ⟨wpIn_exit ⟨m, z, h, nx, hr.symm, S⟩, noLoop (q := True) (by simp)⟩
  | ret =>
    obtain rfl := Option.some.inj (show some ACode.ret = some ac from hc)
    exact ⟨wpIn_ret ⟨m, z, h, nx, hr.symm, S⟩, noLoop (q := True) (by simp)⟩
  | goto l =>
    obtain rfl := Option.some.inj (show some ACode.bad = some ac from hc)
    exact absurd hr.symm hrf
  | refuse l =>
    obtain rfl := Option.some.inj (show some ACode.bad = some ac from hc)
    exact absurd hr.symm hrf
  | region i ops b =>
    cases b with
    | false =>
      obtain ⟨al, hal, rfl⟩ := Option.map_eq_some_iff.1 (show (cRg P nt ops ops.toList).map ACode.region = some ac from hc)
      refine ⟨wpIn_region ?_, noLoop (q := True) (by simp)⟩
      have := region_sound hcal hrnd hn ro hrf ops.toList [] 0 al m z h nx a w (by simp) hal hr S
      rw [List.range_eq_range']
      simpa using this
    | true =>
      obtain ⟨al, hal, rfl⟩ := Option.map_eq_some_iff.1 (show (cDr P nt ops).map ACode.drawn = some ac from hc)
      exact ⟨hdr i ops nt al s ro m z h nx a w r hn hal S hr hrf, noLoop (q := True) (by simp)⟩
  | seq x y =>
    simp only [cCode, Option.bind_eq_bind, Option.bind_eq_some_iff, Option.some.injEq] at hc
    obtain ⟨ax, hx, ay, hy, rfl⟩ := hc
    refine ⟨wpIn_seq ?_, noLoop (q := True) (by simp)⟩
    replace hr : seqR (ex ax z h nx) ex ay = r := hr
    generalize hr1 : ex ax z h nx = r1 at hr
    have hf1 : r1 ≠ .fail := by rintro rfl; exact hrf hr.symm
    refine wpIn_mono (hex x nt ax s ro m z h nx a w r1 hn hx hro S hr1 hf1).1 fun e a' w' hq => ?_
    cases e with
    | normal =>
      obtain ⟨m1, z1, h1, nx1, rfl, S1⟩ := hq
      exact (hex y nt ay s ro m1 z1 h1 nx1 a' w' r hn hy hro S1 hr hrf).1
    | exit id =>
      obtain ⟨m1, z1, h1, nx1, rfl, S1⟩ := hq
      exact ⟨m1, z1, h1, nx1, hr.symm, S1⟩
    | ret =>
      obtain ⟨m1, z1, h1, nx1, rfl, S1⟩ := hq
      exact ⟨m1, z1, h1, nx1, hr.symm, S1⟩
    | goto l => exact hq.elim
    | panic l => exact hq.elim
    | outgrown => exact hq.elim
  | cond o x y =>
    simp only [cCode, Option.bind_eq_bind, Option.bind_eq_some_iff, Option.some.injEq] at hc
    obtain ⟨p, hp, ax, hx, ay, hy, rfl⟩ := hc
    replace hr : condR (p.ev z) ax ay ex z h nx = r := hr
    have ho := cO_all S.I.glob S.T hp
    refine ⟨?_, noLoop (q := True) (by simp)⟩
    generalize hu : a.eval o = u at ho
    generalize hv : p.ev z = v at hr ho
    cases v with
    | bool b =>
      cases ho
      refine wpIn_cond hu ?_
      cases b with
      | true => exact (hex x nt ax s ro m z h nx a w r hn hx hro S hr hrf).1
      | false => exact (hex y nt ay s ro m z h nx a w r hn hy hro S hr hrf).1
    | _ => exact absurd hr.symm hrf
  | block id x =>
    simp only [cCode, Option.bind_eq_bind, Option.bind_eq_some_iff, Option.some.injEq] at hc
    obtain ⟨ax, hx, rfl⟩ := hc
    replace hr : blockR (ex ax z h nx) id = r := hr
    refine ⟨wpIn_block ?_, noLoop (q := True) (by simp)⟩
    generalize hr1 : ex ax z h nx = r1 at hr
    have hf1 : r1 ≠ .fail := by rintro rfl; exact hrf hr.symm
    refine wpIn_mono (hex x nt ax s ro m z h nx a w r1 hn hx hro S hr1 hf1).1 fun e a' w' hq => ?_
    cases e with
    | normal =>
      obtain ⟨m1, z1, h1, nx1, rfl, S1⟩ := hq
      exact ⟨m1, z1, h1, nx1, hr.symm, S1⟩
    | exit id' =>
      obtain ⟨m1, z1, h1, nx1, rfl, S1⟩ := hq
      replace hr : Bool.rec (motive := fun _ => R) (.exit id' z1 h1 nx1) (.norm z1 h1 nx1) (Nat.beq id' id) = r := hr
      show if id' = id then Post P s nt r .normal a' w' else Post P s nt r (.exit id') a' w'
      cases hb : Nat.beq id' id with
      | true =>
        rw [hb] at hr
        rw [if_pos (nbeq_iff.1 hb)]
        exact ⟨m1, z1, h1, nx1, hr.symm, S1⟩
      | false =>
        rw [hb] at hr
        rw [if_neg (fun e => by rw [nbeq_iff.2 e] at hb; cases hb)]
        exact ⟨m1, z1, h1, nx1, hr.symm, S1⟩
    | ret =>
      obtain ⟨m1, z1, h1, nx1, rfl, S1⟩ := hq
      exact ⟨m1, z1, h1, nx1, hr.symm, S1⟩
    | goto l => exact hq.elim
    | panic l => exact hq.elim
    | outgrown => exact hq.elim
  | loop x =>
    have hc0 := hc
    simp only [cCode, Option.bind_eq_bind, Option.bind_eq_some_iff, Option.some.injEq] at hc
    obtain ⟨ax, hx, rfl⟩ := hc
    replace hr : seqR (ex ax z h nx) ex (.loop ax) = r := hr
    have key : LoopIn (fnc ro) 0 P x (Post P s nt r) a w := by
      refine LoopIn.step ?_
      generalize hr1 : ex ax z h nx = r1 at hr
      have hf1 : r1 ≠ .fail := by rintro rfl; exact hrf hr.symm
      refine wpIn_mono (hex x nt ax s ro m z h nx a w r1 hn hx hro S hr1 hf1).1 fun e a' w' hq => ?_
      cases e with
      | normal =>
        obtain ⟨m1, z1, h1, nx1, rfl, S1⟩ := hq
        exact (hex (.loop x) nt (.loop ax) s ro m1 z1 h1 nx1 a' w' r hn hc0 hro S1 hr hrf).2 x rfl
      | exit id =>
        obtain ⟨m1, z1, h1, nx1, rfl, S1⟩ := hq
        exact ⟨m1, z1, h1, nx1, hr.symm, S1⟩
      | ret =>
        obtain ⟨m1, z1, h1, nx1, rfl, S1⟩ := hq
        exact ⟨m1, z1, h1, nx1, hr.symm, S1⟩
      | goto l => exact hq.elim
      | panic l => exact hq.elim
      | outgrown => exact hq.elim
    exact ⟨key.wp, fun b hb => by cases hb; exact key⟩
  | rangeFunc g ps as bd =>
    simp only [cCode, Option.bind_eq_bind, Option.bind_eq_some_iff, Option.some.injEq] at hc
    obtain ⟨p, hp, qs, hqs, aas, has, abd, hbd, rfl⟩ := hc
    exact ⟨range_sound hcal hro hn hp hqs has hbd S hr hrf, noLoop (q := True) (by simp)⟩
  | scope x =>
    simp only [cCode, Option.bind_eq_bind, Option.bind_eq_some_iff, Option.some.injEq] at hc
    obtain ⟨ax, hx, rfl⟩ := hc
    refine ⟨wpIn_scope_through ?_, noLoop (q := True) (by simp)⟩
    refine wpIn_mono (hex x nt ax s ro m z h nx a w r hn hx hro S hr hrf).1 fun e a' w' hq => ?_
    cases e with
    | goto l => exact hq.elim
    | _ => exact hq
theorem reg_step (hcal : CallsTo P ft ex) (hrnd : RoundsTo P ex) : RegTo P (execB ft ex) := by
  intro ops l l' nt al s ro m z h nx a w r hn hl hc S hr hrf
  have := region_sound hcal hrnd hn ro hrf l l' 0 al m z h nx a w (by simpa using hl) hc hr S
  rwa [← List.range_eq_range'] at this
theorem exec_sound (hft : FtOk P ft) (hdr : ∀ ex, CallsTo P ft ex → RoundsTo P ex → DrawnTo P ft ex) (n : Nat) : ExOk P (exec ft n) ∧ RegTo P (exec ft n) := by
  induction n with
  | zero =>
    refine ⟨?_, ?_⟩
    · intro c nt ac s ro m z h nx a w r hn hc hro S hr hrf
      exact absurd hr.symm hrf
    · intro ops l l' nt al s ro m z h nx a w r hn hl hc S hr hrf
      exact absurd hr.symm hrf
  | succ n ih =>
    have hcal := calls_sound hft ih.1 ih.2
    exact ⟨exec_step hcal (rounds_sound ih.1) (hdr _ hcal (rounds_sound ih.1)) ih.1, reg_step hcal (rounds_sound ih.1)⟩
end Go.Ra
