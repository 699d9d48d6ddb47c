/-
  Control: calls.
-/
import Derived.Test.YticjdabhldielaaGreatDoorSV
set_option linter.unusedVariables false
set_option linter.unusedSimpArgs false
namespace Go.Ra
variable {P : Program} {m : Mp} {h : TB} {nx : Nat} {w : World} {nt : Nat} {a : Act} {z : TV} {ft : TF} {ex : Exec}

/-- The function table stands for the program's functions. -/
def FtOk (P : Program) (ft : TF) : Prop := ∀ f, f < 8 ^ D → TF.get (bid f) ft = .no ∨ (∃ g, TF.get (bid f) ft = .ext (.index g) ∧ IndexOk P f g) ∨ (∃ l, TF.get (bid f) ft = .ext (.truth l) ∧ TruthOk P f l) ∨ ∃ fn, P.funcs[f]? = some fn ∧ fn.name ≠ "runtime.NumGoroutine" ∧ cFn P fn = some (TF.get (bid f) ft)
/-- The fence's round is a loop's record. -/
def RoundOk (s : Start) : Option Nat → Prop
  | none => True
  | some l => ∃ r : Loop, s.w.heap[l]? = some (.loop r)
/-- What a run of the abstract machine says of code. -/
def ExOk (P : Program) (ex : Exec) : Prop := ∀ (c : Code) (nt : Nat) (ac : ACode) (s : Start) (ro : Option Nat) (m : Mp) (z : TV) (h : TB) (nx : Nat) (a : Act) (w : World) (r : R), nt ≤ 4096 → cCode P nt c = some ac → RoundOk s ro → St P s nt m z h nx a w → ex ac z h nx = r → r ≠ .fail →
  c.wpIn (fnc ro) 0 P (Post P s nt r) a w ∧ ∀ b, c = .loop b → LoopIn (fnc ro) 0 P b (Post P s nt r) a w

/-! Arguments -/
theorem get_fill {lv : Nat} {t : Nat} (ht : t < 8 ^ lv) : ∀ (k i : Nat) (args : AV) (z : TV), i + k ≤ 8 ^ lv → TV.get (pth lv t) (fillP ((List.range' i k).map (pth lv)) args z) = if i ≤ t ∧ t < i + k then args.nth (t - i) else TV.get (pth lv t) z := by
  intro k
  induction k with
  | zero =>
    intro i args z hk
    rw [if_neg (by omega)]
    rfl
  | succ k ih =>
    intro i args z hk
    rw [List.range'_succ, List.map_cons]
    show TV.get (pth lv t) (fillP ((List.range' (i + 1) k).map (pth lv)) args.tl (TV.set (pth lv i) args.hd z)) = _
    rw [ih (i + 1) args.tl _ (by omega)]
    by_cases h1 : i + 1 ≤ t ∧ t < i + 1 + k
    · rw [if_pos h1, if_pos (by omega)]
      obtain ⟨j, rfl⟩ : ∃ j, t = i + 1 + j := ⟨t - (i + 1), by omega⟩
      rw [show i + 1 + j - (i + 1) = j by omega, show i + 1 + j - i = j + 1 by omega]
      rfl
    · rw [if_neg h1, TV.get_set (by rw [plen_pth, plen_pth])]
      by_cases h2 : t = i
      · subst h2
        rw [if_pos rfl, if_pos (by omega), Nat.sub_self]
        rfl
      · rw [if_neg (fun e => h2 (pth_inj ht (by omega) e)), if_neg (by omega)]
theorem nth_rel {args : AV} {l : List Value} (ha : VRels m args l) (i : Nat) : VRel m (args.nth i) (l.getD i undef) := by
  induction i generalizing args l with
  | zero =>
    cases ha with
    | nil => exact .undef _
    | cons a l v vs h t => exact h
  | succ i ih =>
    cases ha with
    | nil =>
      have := ih (args := .nl) (l := []) .nil
      rw [show (AV.nl).nth (i + 1) = (AV.nl).nth i from rfl]
      simpa using this
    | cons a l v vs h t => simpa using ih t
theorem enter_rel {args : AV} {l : List Value} (ha : VRels m args l) {k : Nat} (hn : nt ≤ 4096) (hk : k ≤ nt) : TRel m nt (fillP ((List.range k).map (pth (lev nt))) args (.leaf .undef)) (⟨l⟩ ++ Array.replicate (nt - l.length) undef) := by
  have hle := lev_le hn
  refine ⟨by simp; omega, fun t ht => ?_⟩
  rw [List.range_eq_range', get_fill (by omega) k 0 args _ (by omega)]
  have hd : (⟨l⟩ ++ Array.replicate (nt - l.length) undef : Array Value).getD t undef = l.getD t undef := by
    simp only [Array.getD_eq_getD_getElem?, List.getD_eq_getElem?_getD]
    by_cases hlt : t < l.length
    · rw [Array.getElem?_append_left (by simpa using hlt)]
      simp
    · rw [Array.getElem?_append_right (by simpa using hlt)]
      rw [List.getElem?_eq_none (by omega)]
      simp [Array.getElem?_replicate]
      split <;> rfl
  rw [hd]
  split
  · have := nth_rel ha t
    simpa using this
  · rw [show TV.get (pth (lev nt) t) (.leaf .undef) = .undef from TV.get_leaf]
    exact .undef _

/-! Marks -/
/-- A block that nobody names changes. -/
theorem Inv.away (I : Inv P m h nx w) {D : Nat} (hD : ∀ id e, m id = some e → e.blk ≠ D) (o : Obj) : Inv P m h nx (w.putObj D o) := by
  refine ⟨fun id e he => ?_, I.inj, I.dom, I.top, I.low, I.glob, I.ro, fun id e he => by simpa using I.lim id e he⟩
  rw [World.putObj_heap_other (hD id e he)]
  exact I.blk id e he
theorem Fr.away {s : Start} (F : Fr s.m s.h s.nx s.w m h nx w) {D : Nat} (hD : s.w.heap.size ≤ D) (o : Obj) : Fr s.m s.h s.nx s.w m h nx (w.putObj D o) := by
  refine ⟨F.sub, F.le, F.old, F.os, F.tape, F.output, by simpa using F.size, fun r hr hk => ?_, fun r l hl => ?_, F.fresh⟩
  · rw [World.putObj_heap_other (by omega)]
    exact F.keep r hr hk
  · have := (Array.getElem?_eq_some_iff.1 hl).1
    rw [World.putObj_heap_other (by omega)]
    exact F.loops r l hl
theorem leaves_marks {s : Start} {fn : Func} {tmps : Array Value} {R : Ending → World → Prop} : ∀ (ds : List Deferred) (w : World), Inv P m h nx w → Fr s.m s.h s.nx s.w m h nx w → Marks s.w.heap.size m w ds →
    (∀ w', Inv P m h nx w' → Fr s.m s.h s.nx s.w m h nx w' → ∃ v, (results fn tmps).run P w' = .ok v w' ∧ R (.returned v) w') → LeavesInM Fence.wide 0 P fn tmps R ds .returning w := by
  intro ds
  induction ds with
  | nil => exact fun w I F _ hr => hr w I F
  | cons d ds ih =>
    intro w I F K hr
    obtain ⟨D, h1, h2, h3, h4⟩ := K.1 d (List.mem_cons_self ..)
    refine ⟨by simp, .inl ⟨D, w.putObj D (.deferred none), h1, run_takeDeferred h3, ?_⟩⟩
    refine ih _ (I.away h4 _) (F.away h2 _) ⟨fun d' hd' => ?_, ?_⟩ hr
    · obtain ⟨D', k1, k2, k3, k4⟩ := K.1 d' (List.mem_cons_of_mem _ hd')
      refine ⟨D', k1, k2, ?_, k4⟩
      rw [World.putObj_heap_other ?_]
      · exact k3
      · rintro rfl
        have := K.2
        rw [List.map_cons, List.nodup_cons] at this
        exact this.1 (by rw [h1, ← k1]; exact List.mem_map_of_mem hd')
    · have := K.2
      rw [List.map_cons, List.nodup_cons] at this
      exact this.2

theorem callFunc_enter {f : Nat} {fn : Func} (hf : P.funcs[f]? = some fn) (hno : fn.name ≠ "runtime.NumGoroutine") {c : Code} (hb : fn.body = some c) {l : Array Value} : (callFunc f l).run P w = .ok (.enter f l) w := by
  have h1 : (fn.name == "runtime.NumGoroutine") = false := by simpa using hno
  unfold callFunc
  simp only [Sem.run_bind, run_program, Result.andThen_ok, hf, h1, hb, Option.isNone_some, Bool.false_eq_true, if_false, Sem.run_pure]

theorem doneA_inv {res : List ARes} {v : AV} {h' : TB} {nx' : Nat} (hd : doneA res z h nx = .ok v h' nx') : ∃ c, resA res z h = some c ∧ v = resV c ∧ h' = h ∧ nx' = nx := by
  unfold doneA at hd
  cases hr : resA res z h with
  | none => rw [hr] at hd; cases hd
  | some c => rw [hr] at hd; cases hd; exact ⟨c, rfl, rfl, rfl, rfl⟩

theorem calls_sound (hft : FtOk P ft) (hex : ExOk P ex) : CallsTo P ft ex := by
  intro f args h nx v h' nx' m w l hlt I ha hA
  rcases hft f hlt with hno | ⟨g, hg, hok⟩ | ⟨gl, hg, hok⟩ | ⟨fn, hf, hnn, hc⟩
  · unfold callA at hA
    rw [hno] at hA
    cases hA
  · unfold callA at hA
    rw [hg] at hA
    have hA' : extA (.index g) args h nx = .ok v h' nx' := hA
    exact .inr ⟨hok.2.1 _ _, callsIn_wide.2 (index_sound I hok ha hA')⟩
  · unfold callA at hA
    rw [hg] at hA
    have hA' : extA (.truth gl) args h nx = .ok v h' nx' := hA
    exact .inr ⟨hok.2.1 _ _, callsIn_wide.2 (truth_sound I hok ha hA')⟩
  unfold callA at hA
  cases hg : TF.get (bid f) ft with
  | no => rw [hg] at hA; cases hA
  | ext e =>
    rw [hg] at hA hc
    have hA' : extA e args h nx = .ok v h' nx' := hA
    unfold cFn at hc
    split at hc
    · rename_i hb
      exact .inl ⟨rfl, ext_sound I hf hnn hb hc ha hA'⟩
    · split at hc
      · simp only [Option.bind_eq_bind, Option.bind_eq_some_iff, Option.some.injEq, reduceCtorEq, and_false, exists_false] at hc
      · cases hc
  | fn ps code res =>
    rw [hg] at hA hc
    have hA' : endA (ex code (fillP ps args (.leaf .undef)) h nx) res = .ok v h' nx' := hA
    unfold cFn at hc
    split at hc
    · unfold cExt at hc
      split at hc
      · cases hc
      split at hc
      · cases hc
      split at hc
      · cases hc
      split at hc
      · cases hc
      split at hc
      · simp only [Option.bind_eq_bind, Option.bind_eq_some_iff, Option.some.injEq, reduceCtorEq, and_false, exists_false] at hc
      · cases hc
    · rename_i c hb
      split at hc
      · rename_i hle
        simp only [Option.bind_eq_bind, Option.bind_eq_some_iff, Option.some.injEq] at hc
        obtain ⟨code', hcode, res', hres, hc⟩ := hc
        injection hc with e1 e2 e3
        subst e1; subst e2; subst e3
        simp only [Bool.and_eq_true, decide_eq_true_eq] at hle
        refine .inr ⟨callFunc_enter hf hnn hb, callsIn_of_wp_marks hf hb trivial ?_⟩
        have hT := enter_rel (nt := fn.ntmps) ha hle.1 hle.2
        have S : St P ⟨m, h, nx, w⟩ fn.ntmps m (fillP ((List.range (fn.params.size + fn.nfree)).map (pth (lev fn.ntmps))) args (.leaf .undef)) h nx { tmps := ⟨l⟩ ++ Array.replicate (fn.ntmps - l.length) undef, defers := [] } w :=
          ⟨hT, I, Fr.refl _ _ _ _, And.intro (fun d hd => by cases hd) (by simp)⟩
        generalize hr : ex code' (fillP ((List.range (fn.params.size + fn.nfree)).map (pth (lev fn.ntmps))) args (.leaf .undef)) h nx = r at hA'
        have hrf : r ≠ .fail := by rintro rfl; cases hA'
        have hw := (hex c fn.ntmps code' ⟨m, h, nx, w⟩ none m _ h nx _ w r hle.1 hcode trivial S hr hrf).1
        refine wpIn_mono (F := Fence.wide) hw fun e a' w' hq => ?_
        have fin : ∀ {m1 z1 h1 nx1}, doneA res' z1 h1 nx1 = .ok v h' nx' → St P ⟨m, h, nx, w⟩ fn.ntmps m1 z1 h1 nx1 a' w' → LeavesInM Fence.wide 0 P fn a'.tmps (RetA P m h nx w v h' nx') a'.defers .returning w' := by
          intro m1 z1 h1 nx1 hd S1
          obtain ⟨c1, g1, rfl, rfl, rfl⟩ := doneA_inv hd
          refine leaves_marks (s := ⟨m, h, nx, w⟩) a'.defers w' S1.I S1.F S1.K fun w2 I2 F2 => ?_
          obtain ⟨v', k1, k2⟩ := results_run I2 S1.T hres g1
          exact ⟨v', k1, v', rfl, m1, k2, I2, F2⟩
        cases e with
        | normal =>
          obtain ⟨m1, z1, h1, nx1, rfl, S1⟩ := hq
          exact fin hA' S1
        | ret =>
          obtain ⟨m1, z1, h1, nx1, rfl, S1⟩ := hq
          exact fin hA' S1
        | exit id =>
          obtain ⟨m1, z1, h1, nx1, rfl, S1⟩ := hq
          cases hA'
        | goto l => exact hq.elim
        | panic ch => exact hq.elim
        | outgrown => exact hq.elim
      · cases hc

/-! Rounds -/
theorem put_sets {v : AV} {v' : Value} {t : Nat} {p : Pth} {tmps : Array Value} (hn : nt ≤ 4096) (hp : cT nt t = some p) (hT : TRel m nt z tmps) (hv : VRel m v v') : TRel m nt (TV.set p v z) (tmps.setIfInBounds t v') := by
  obtain ⟨ht, rfl⟩ := cT_some hp
  exact hT.put hn ht hv
theorem yield_rel (hn : nt ≤ 4096) : ∀ (ps : List Tmp) (qs : List Pth) (args : AV) (l : List Value) (z : TV) (tmps : Array Value), ps.mapM (cT nt) = some qs → VRels m args l → ps.length = l.length → TRel m nt z tmps →
    TRel m nt (fillP qs args z) ((ps.zip l).foldl (fun tmps (x : Tmp × Value) => tmps.setIfInBounds x.1 x.2) tmps) := by
  intro ps
  induction ps with
  | nil =>
    intro qs args l z tmps hq ha hlen hT
    obtain rfl : [] = qs := by simpa using hq
    exact hT
  | cons p ps ih =>
    intro qs args l z tmps hq ha hlen hT
    rw [List.mapM_cons] at hq
    simp only [Option.bind_eq_bind, Option.bind_eq_some_iff, Option.pure_def, Option.some.injEq] at hq
    obtain ⟨q, hp, qs, hqs, rfl⟩ := hq
    cases ha with
    | nil => simp at hlen
    | cons v args v' l hv ht =>
      rw [List.zip_cons_cons, List.foldl_cons]
      exact ih qs args l _ _ hqs ht (by simpa using hlen) (put_sets hn hp hT hv)
theorem mapM_len {α β : Type} {f : α → Option β} : ∀ (l : List α) (r : List β), l.mapM f = some r → r.length = l.length := by
  intro l
  induction l with
  | nil =>
    intro r h
    obtain rfl : [] = r := by simpa using h
    rfl
  | cons a l ih =>
    intro r h
    rw [List.mapM_cons] at h
    simp only [Option.bind_eq_bind, Option.bind_eq_some_iff, Option.pure_def, Option.some.injEq] at h
    obtain ⟨b, hb, r, hr, rfl⟩ := h
    simp [ih r hr]
/-- A loop's record becomes another one of the same loop. -/
theorem Inv.loopUpd (I : Inv P m h nx w) {id : Pth} {e : E} (he : m id = some e) {st : LoopState} {pd : Option PJ} {ps : List Pth} {as bd : ACode} (hg : h.get id = .loop st pd z ps as bd) (st' : LoopState) (pd' : Option PJ) :
    ∃ r : Loop, w.heap[e.blk]? = some (.loop r) ∧ r.state = st ∧ r.pending = pd.map PJ.code ∧
      Inv P m (TB.set id (.loop st' pd' z ps as bd) h) nx (w.putObj e.blk (.loop { r with state := st', pending := pd'.map PJ.code })) ∧
      Fr m h nx w m (TB.set id (.loop st' pd' z ps as bd) h) nx (w.putObj e.blk (.loop { r with state := st', pending := pd'.map PJ.code })) := by
  have hB := I.blk id e he
  rw [hg] at hB
  obtain ⟨r, h1, h2, h3, h4⟩ := hB
  refine ⟨r, h1, h2, h3, ?_⟩
  refine I.upd he (by rw [hg]; trivial) ⟨_, rfl, rfl, rfl, h4⟩ (fun hro => ?_) (fun l _ => ⟨_, rfl⟩)
  have := I.ro id e he hro
  rw [hg] at this
  exact this.elim

theorem St.upd {s : Start} (S : St P s nt m z h nx a w) {h' : TB} {w' : World} (I : Inv P m h' nx w') (F : Fr m h nx w m h' nx w') : St P s nt m z h' nx a w' := ⟨S.T, I, S.F.trans F, S.K.step F⟩
theorem rounds_sound (hex : ExOk P ex) : RoundsTo P ex := by
  intro id args h nx v h' nx' m w l e he I ha hA ro
  unfold roundA at hA
  split at hA
  case h_2 => cases hA
  rename_i pd z ps as bd hg
  cases hlen : Nat.beq args.len ps.length with
  | false => rw [hlen] at hA; cases hA
  | true =>
  rw [hlen] at hA
  replace hA : roundGo ex id bd (ex as (fillP ps args z) h nx) = .ok v h' nx' := hA
  have hB := I.blk id e he
  rw [hg] at hB
  obtain ⟨r, h1, h2, h3, nt, h4, h5, h6, h7, h8⟩ := hB
  have hl := mapM_len _ _ h6
  have hlen' := nbeq_iff.1 hlen
  have hal := ha.len
  have hsz : (⟨l⟩ : Array Value).size = r.params.size := by
    show l.length = _
    rw [← hal, hlen', hl]
    simp
  refine ⟨_, _, _, _, run_yield h1 hsz, roundIn_of_wpIn (F := fnc ro) trivial ?_⟩
  have hT := yield_rel h4 r.params.toList ps args l z r.tmps h6 ha (by simpa using hsz.symm) h5
  have etm : (r.params.zip ⟨l⟩).foldl (fun tmps (x : Tmp × Value) => tmps.setIfInBounds x.1 x.2) r.tmps = (r.params.toList.zip l).foldl (fun tmps (x : Tmp × Value) => tmps.setIfInBounds x.1 x.2) r.tmps := by
    rw [← Array.foldl_toList, Array.toList_zip]
  rw [← etm] at hT
  have S : St P ⟨m, h, nx, w⟩ nt m (fillP ps args z) h nx { tmps := (r.params.zip ⟨l⟩).foldl (fun tmps (x : Tmp × Value) => tmps.setIfInBounds x.1 x.2) r.tmps, defers := [] } w :=
    ⟨hT, I, Fr.refl _ _ _ _, And.intro (fun d hd => by cases hd) (by simp)⟩
  generalize hr1 : ex as (fillP ps args z) h nx = r1 at hA
  unfold roundGo at hA
  split at hA
  case h_2 => cases hA
  rename_i z1 hh1 nx1
  split at hA
  case h_2 => cases hA
  rename_i pd1 z2 ps2 as2 bd2 hg1
  have hro : RoundOk ⟨m, h, nx, w⟩ (some e.blk) := ⟨r, h1⟩
  have hw := (hex r.assign nt as ⟨m, h, nx, w⟩ (some e.blk) m _ h nx _ w _ h4 h7 hro S hr1 (by simp)).1
  refine wpIn_mono (F := (fnc ro).inRound e.blk) hw fun ee a1 w1 hq => ?_
  cases ee with
  | normal =>
    obtain ⟨m1, _, _, _, hq1, S1⟩ := hq
    cases hq1
    have he1 : m1 id = some e := S1.F.sub _ _ he
    obtain ⟨r1, k1, k2, k3, I2, F2⟩ := S1.I.loopUpd he1 hg1 .busy pd1
    rw [← k3] at I2 F2
    refine ⟨_, run_beginRound k1 k2, ?_⟩
    generalize hr2 : ex bd z1 (TB.set id (.loop .busy pd1 z2 ps2 as2 bd2) hh1) nx1 = r2 at hA
    have hrf : r2 ≠ .fail := by rintro rfl; cases hA
    have hw2 := (hex r.body nt bd ⟨m, h, nx, w⟩ (some e.blk) m1 z1 _ nx1 a1 _ r2 h4 h8 hro (S1.upd I2 F2) hr2 hrf).1
    refine wpIn_mono (F := (fnc ro).inRound e.blk) hw2 fun e2 a2 w2 hq2 => ?_
    have fin : ∀ {m3 z3 h3 nx3} {st pd3 z4 ps4 as4 bd4} (st' : LoopState) (pd' : Option PJ), St P ⟨m, h, nx, w⟩ nt m3 z3 h3 nx3 a2 w2 → h3.get id = .loop st pd3 z4 ps4 as4 bd4 → st' = (if (pd'.map PJ.code).isNone then .ready else .done) → CR.ok (.bool (pd'.map PJ.code).isNone) (TB.set id (.loop st' pd' z4 ps4 as4 bd4) h3) nx3 = .ok v h' nx' →
        ∃ v' w', (Instr.endRound e.blk (pd'.map PJ.code)).run P w2 = .ok v' w' ∧ RetA P m h nx w v h' nx' (.returned v') w' := by
      intro m3 z3 h3 nx3 st pd3 z4 ps4 as4 bd4 st' pd' S3 hg3 hst hok
      have he3 : m3 id = some e := S3.F.sub _ _ he
      obtain ⟨r3, k4, k5, k6, I4, F4⟩ := S3.I.loopUpd he3 hg3 st' pd'
      refine ⟨_, _, run_endRound _ k4, _, rfl, ?_⟩
      cases hok
      rw [← hst]
      exact ⟨m3, .bool _, I4, S3.F.trans F4⟩
    cases e2 with
    | normal =>
      obtain ⟨m3, z3, h3, nx3, rfl, S3⟩ := hq2
      simp only [roundEnd] at hA
      split at hA
      · rename_i hg3
        exact fin .ready none S3 hg3 rfl hA
      · cases hA
    | ret =>
      obtain ⟨m3, z3, h3, nx3, rfl, S3⟩ := hq2
      simp only [roundEnd] at hA
      split at hA
      · rename_i hg3
        exact fin .done (some .ret) S3 hg3 rfl hA
      · cases hA
    | exit id2 =>
      obtain ⟨m3, z3, h3, nx3, rfl, S3⟩ := hq2
      simp only [roundEnd] at hA
      split at hA
      · rename_i hg3
        exact fin .done (some (.exit id2)) S3 hg3 rfl hA
      · cases hA
    | goto l => exact hq2.elim
    | panic ch => exact hq2.elim
    | outgrown => exact hq2.elim
  | ret => obtain ⟨m1, _, _, _, hq1, S1⟩ := hq; cases hq1
  | exit id2 => obtain ⟨m1, _, _, _, hq1, S1⟩ := hq; cases hq1
  | goto l => exact hq.elim
  | panic ch => exact hq.elim
  | outgrown => exact hq.elim
end Go.Ra
