/-
  Appends.
-/
import Derived.Test.YtjjmmakledpifaaGreatDoorSC
set_option linter.unusedVariables false
set_option linter.unusedSimpArgs false
namespace Go.Ra
variable {P : Program} {m : Mp} {h : TB} {nx : Nat} {w : World} {nt : Nat} {a : Act} {z : TV}

theorem growBy_le (need B : Nat) (hB : ∀ c, c < need → c + (c + 768) / 4 ≤ B) : ∀ (r c : Nat), c ≤ B → Builtin.growBy need r c ≤ B := by
  intro r
  induction r with
  | zero => intro c hc; exact hc
  | succ r ih =>
    intro c hc
    unfold Builtin.growBy
    split
    · exact hc
    · exact ih _ (hB c (by omega))
theorem nextcap_le (need cap : Nat) (hc : cap < need) : Builtin.nextslicecap need cap ≤ 2 * need + 192 := by
  unfold Builtin.nextslicecap
  split
  · omega
  · split
    · omega
    · exact growBy_le need _ (fun c hc => by omega) 4 cap (by omega)

theorem split3 (cs : Array Value) (K n : Nat) : cs = (cs.toList.take K ++ ((cs.toList.drop K).take n ++ cs.toList.drop (K + n))).toArray := by
  apply Array.toList_inj.1
  rw [← List.drop_drop, List.take_append_drop, List.take_append_drop]
/-- A block is given up. -/
theorem Inv.kill (I : Inv P m h nx w) {id : Pth} {e : E} (he : m id = some e) : Inv P m (TB.set id .dead h) nx w ∧ Fr m h nx w m (TB.set id .dead h) nx w := by
  have hg : ∀ id', id' ≠ id → id'.plen = D → (TB.set id .dead h).get id' = h.get id' := fun id' h1 h2 => by rw [TB.get_set (by rw [h2, I.plen he]), if_neg h1]
  have hgs : (TB.set id .dead h).get id = .dead := by rw [TB.get_set rfl, if_pos rfl]
  have hlive : ∀ id' e', m id' = some e' → live ((TB.set id .dead h).get id') → live (h.get id') := by
    intro id' e' h1 h2
    by_cases hi : id' = id
    · subst hi; rw [hgs] at h2; exact h2.elim
    · rwa [hg id' hi (I.plen h1)] at h2
  refine ⟨⟨fun id' e' h' => ?_, fun i1 i2 e1 e2 h1 h2 l1 l2 hb' => I.inj i1 i2 e1 e2 h1 h2 (hlive _ _ h1 l1) (hlive _ _ h2 l2) hb', I.dom, I.top, I.low, I.glob, fun id' e' h' hr => ?_, I.lim⟩, ?_⟩
  · by_cases hi : id' = id
    · subst hi; rw [hgs]; trivial
    · rw [hg id' hi (I.plen h')]; exact I.blk id' e' h'
  · by_cases hi : id' = id
    · subst hi
      rw [hgs]; trivial
    · rw [hg id' hi (I.plen h')]; exact I.ro id' e' h' hr
  · exact ⟨Sub.refl m, Nat.le_refl _, fun n hn hm => ⟨hm, hg _ (fun e' => by rw [e', he] at hm; cases hm) (plen_bid n)⟩, rfl, rfl, rfl, Nat.le_refl _, fun _ _ _ => rfl, fun r l hl => ⟨l, hl⟩, fun id' e' h1 h2 => by rw [h1] at h2; cases h2⟩
/-- A block that was given up gets another name. -/
theorem Inv.alias (I : Inv P m h nx w) (hn : nx ≤ 32767) {id : Pth} {e : E} (he : m id = some e) (hro : e.ro = false) (hx : ∀ id' e', m id' = some e' → live (h.get id') → e'.blk ≠ e.blk) {b : AB} (hb : BRel P (m.ext nx e) e b w.heap[e.blk]?) :
    Inv P (m.ext nx e) (TB.set (bid nx) b h) (nx + 1) w ∧ Fr m h nx w (m.ext nx e) (TB.set (bid nx) b h) (nx + 1) w := by
  have hf := I.fresh (Nat.le_refl _) hn
  have hs : Sub m (m.ext nx e) := Mp.ext_sub hf
  have hid : ∀ id e', m.ext nx e id = some e' → (id = bid nx ∧ e' = e) ∨ (id ≠ bid nx ∧ m id = some e') := by
    intro id e' h
    unfold Mp.ext at h
    split at h
    · rename_i hi; exact .inl ⟨hi, (Option.some.inj h).symm⟩
    · rename_i hi; exact .inr ⟨hi, h⟩
  have hg : ∀ id, id ≠ bid nx → id.plen = D → (TB.set (bid nx) b h).get id = h.get id := fun id h1 h2 => by rw [TB.get_set (by rw [h2, plen_bid]), if_neg h1]
  have hgn : (TB.set (bid nx) b h).get (bid nx) = b := by rw [TB.get_set rfl, if_pos rfl]
  refine ⟨⟨fun id e' h' => ?_, fun id id' e1 e2 h1 h2 l1 l2 hb' => ?_, fun id e' h' => ?_, by omega, by have := I.low; omega, fun g hg' => ?_, fun id e' h' hr => ?_, fun id e' h' => ?_⟩, ?_⟩
  · rcases hid id e' h' with ⟨rfl, rfl⟩ | ⟨h1, h2⟩
    · rw [hgn]; exact hb
    · rw [hg id h1 (I.plen h2)]; exact (I.blk id e' h2).mono P hs
  · rcases hid id e1 h1 with ⟨rfl, rfl⟩ | ⟨k1, k2⟩ <;> rcases hid id' e2 h2 with ⟨rfl, rfl⟩ | ⟨k3, k4⟩
    · rfl
    · rw [hg id' k3 (I.plen k4)] at l2
      exact absurd hb'.symm (hx id' e2 k4 l2)
    · rw [hg id k1 (I.plen k2)] at l1
      exact absurd hb' (hx id e1 k2 l1)
    · rw [hg id k1 (I.plen k2)] at l1
      rw [hg id' k3 (I.plen k4)] at l2
      exact I.inj id id' e1 e2 k2 k4 l1 l2 hb'
  · rcases hid id e' h' with ⟨rfl, rfl⟩ | ⟨h1, h2⟩
    · exact ⟨nx, by omega, rfl⟩
    · obtain ⟨n, k1, k2⟩ := I.dom id e' h2
      exact ⟨n, by omega, k2⟩
  · obtain ⟨e', k1, k2⟩ := I.glob g hg'
    exact ⟨e', hs _ _ k1, k2⟩
  · rcases hid id e' h' with ⟨rfl, rfl⟩ | ⟨h1, h2⟩
    · rw [hro] at hr; cases hr
    · rw [hg id h1 (I.plen h2)]; exact I.ro id e' h2 hr
  · rcases hid id e' h' with ⟨rfl, rfl⟩ | ⟨h1, h2⟩
    · exact I.lim _ _ he
    · exact I.lim id e' h2
  · refine ⟨hs, by omega, fun n hn' hm => ?_, rfl, rfl, rfl, Nat.le_refl _, fun _ _ _ => rfl, fun r l hl => ⟨l, hl⟩, fun id' e' h1 h2 => ?_⟩
    · have hne : bid n ≠ bid nx := fun e => by have := bid_inj (by omega) hn e; omega
      exact ⟨by unfold Mp.ext; rw [if_neg hne]; exact hm, hg _ hne (plen_bid n)⟩
    · rcases hid id' e' h1 with ⟨rfl, rfl⟩ | ⟨k1, k2⟩
      · exact .inr ⟨id, _, he, rfl, hro⟩
      · rw [h2] at k2; cases k2

/-- What is fed to an append: n elements' cells, told in each world of this heap. -/
structure Feed (P : Program) (m : Mp) (w : World) (size n : Nat) (x : Value) (c : AV) (news : List Value) : Prop where
  len : ∀ w' : World, (Builtin.lenOf x).run P w' = .ok n w'
  cells : ∀ w' : World, w'.heap = w.heap → (Builtin.firstCells size n x).run P w' = .ok news.toArray w'
  size : news.length = n * size
  one : ∀ v ∈ news, v.oneCell' = true
  rel : VRels m c news

/-- .. or, in the place of the elements, how many zero ones. -/
structure Fed (P : Program) (m : Mp) (w : World) (d : TypeDesc) (zv : Value) (bytes size n : Nat) (x : Value) (c : AV) (news : List Value) : Prop where
  how : ((∀ k, d ≠ .int k) ∧ (∀ w' : World, (Builtin.lenOf x).run P w' = .ok n w') ∧ ∀ w' : World, w'.heap = w.heap → (Builtin.firstCells size n x).run P w' = .ok news.toArray w') ∨
    ((∃ k, d = .int k) ∧ (∃ k, x = .int k (n : Int)) ∧ n ≤ 9223372036854775807 ∧ n * bytes ≤ 281474976710656 ∧ news.toArray = Builtin.zeroCells zv.cells n ∧ zv.cells.size = size)
  size : news.length = n * size
  one : ∀ v ∈ news, v.oneCell' = true
  rel : VRels m c news
theorem Feed.fed {d : TypeDesc} {zv : Value} {bytes size n : Nat} {x : Value} {c : AV} {news : List Value} (h : Feed P m w size n x c news) (hd : ∀ k, d ≠ .int k) : Fed P m w d zv bytes size n x c news :=
  ⟨.inl ⟨hd, h.len, h.cells⟩, h.size, h.one, h.rel⟩
theorem wrap64 {n : Nat} (h : n ≤ 9223372036854775807) : IntKind.i64.wrap (n : Int) = (n : Int) := wrap_id .i64 n (by simp [maxN]; omega)
theorem appended_zero {el : TypeId} {zv : Value} (hz : ∀ w : World, (zeroValue el).run P w = .ok zv w) {size n : Nat} (hs : zv.cells.size = size) (w : World) :
    (if n * size = 0 then pure #[] else do pure (Builtin.zeroCells (← zeroValue el).cells n) : Sem (Array Value)).run P w = .ok (Builtin.zeroCells zv.cells n) w := by
  split
  · rename_i h0
    have : Builtin.zeroCells zv.cells n = #[] := by
      unfold Builtin.zeroCells
      rw [hs, h0]; simp
    rw [this]; rfl
  · simp only [Sem.run_bind, hz, Result.andThen_ok, Sem.run_pure]

/-- What is said of an act. -/
def Acted (P : Program) (m : Mp) (h : TB) (nx : Nat) (w : World) (v : AV) (h' : TB) (nx' : Nat) (v' : Value) (w' : World) : Prop :=
  ∃ m', VRel m' v v' ∧ Inv P m' h' nx' w' ∧ Fr m h nx w m' h' nx' w'

theorem grow_run {ts : Array TypeId} {ty t u e : TypeId} {i : TypeInfo} {d : TypeDesc} {zv : Value} (ht0 : ts[0]? = some t) (ht : P.underlying t = some (.slice e)) (ht1 : ts[1]? = some u) (hu : P.underlying u = some d) (hi : P.info? e = some i)
    (hz : ∀ w : World, (zeroValue e).run P w = .ok zv w) {base : Option Addr} {len cap n : Nat} {x : Value} {c : AV} {news olds : List Value} (hF : Fed P m w d zv i.bytes i.size n x c news)
    (hold : ∀ w' : World, w'.heap = w.heap → (Builtin.firstCells i.size len (.slice base len cap)).run P w' = .ok olds.toArray w') (hgrow : cap < len + n) (hmax : len + n ≤ 4611686018427387904) (hfit : (2 * (len + n) + 192) * i.bytes ≤ 281474976710656) :
    ∃ newCap d', len + n ≤ newCap ∧ newCap ≤ maxInt ∧ (Builtin.append_ ts ty #[.slice base len cap, x]).run P w =
      .ok (.slice (some ⟨w.heap.size, 0, none⟩) (len + n) newCap) (w.more (.cells (olds ++ (news ++ (Builtin.zeroCells zv.cells (newCap - (len + n))).toList)).toArray e) d') := by
  obtain ⟨q1, q2⟩ := cut_cap (len + n) cap e (w.tape w.drawn (.appendCap (len + n) cap e)) hmax
  refine ⟨Question.cut (.appendCap (len + n) cap e) (w.tape w.drawn (.appendCap (len + n) cap e)), w.drawn + 1, q1, q2, ?_⟩
  generalize hcap : Question.cut (.appendCap (len + n) cap e) (w.tape w.drawn (.appendCap (len + n) cap e)) = nc at q1 q2
  have hnext := nextcap_le (len + n) cap hgrow
  have h48 : Builtin.nextslicecap (len + n) cap * i.bytes ≤ 281474976710656 := Nat.le_trans (Nat.mul_le_mul_right _ hnext) hfit
  have ho1 := hold { w with drawn := w.drawn + 1 } rfl
  have a0 : (#[Value.slice base len cap, x] : Array Value)[0]? = some (.slice base len cap) := rfl
  have a1 : (#[Value.slice base len cap, x] : Array Value)[1]? = some x := rfl
  rcases hF.how with ⟨hd, hlen, hcells⟩ | ⟨⟨k, rfl⟩, ⟨kk, rfl⟩, hn1, hn2, hnews, hzs⟩
  · have hz0 : (d matches .int _) = false := by cases d <;> first | rfl | exact absurd rfl (hd _)
    have hc1 := hcells { w with drawn := w.drawn + 1 } rfl
    unfold Builtin.append_
    simp only [ht0, a0, a1, ht1, Sem.run_bind, run_underlying ht, run_underlying hu, Result.andThen_ok, Sem.run_pure, size_run hi, hz0, Bool.false_eq_true, if_false, hlen, info_run hi, Bool.not_false, if_true]
    rw [if_neg (by omega)]
    simp only [Sem.run_bind, info_run hi, Result.andThen_ok]
    rw [if_neg (by rintro ⟨h1, _⟩; simp only [IntKind.max, IntKind.signed, IntKind.bits, if_true] at h1; omega)]
    simp only [Sem.run_bind, info_run hi, Result.andThen_ok]
    rw [if_neg (by omega)]
    simp only [Sem.run_bind, run_choose, Question.forced, Bool.false_eq_true, if_false, Result.andThen_ok, hcap, info_run hi, run_askRoom, ho1, hc1, hz, newRow_run, Sem.run_pure]
    congr 1
    have e1 : (olds.toArray ++ news.toArray ++ Builtin.zeroCells zv.cells (nc - (len + n))) = (olds ++ (news ++ (Builtin.zeroCells zv.cells (nc - (len + n))).toList)).toArray := by
      apply Array.toList_inj.1; simp
    rw [e1]
    rfl
  · have hc1 := appended_zero (n := n) hz hzs { w with drawn := w.drawn + 1 }
    unfold Builtin.append_
    simp only [ht0, a0, a1, ht1, Sem.run_bind, run_underlying ht, run_underlying hu, Result.andThen_ok, Sem.run_pure, size_run hi, if_true, asInt, asIntOf, wrap64 hn1]
    rw [if_neg (by omega)]
    simp only [Sem.run_bind, info_run hi, Result.andThen_ok]
    rw [if_neg (by
      have : ((n : Int) * (i.bytes : Int)) = ((n * i.bytes : Nat) : Int) := by simp
      rw [this]; omega)]
    simp only [Sem.run_pure, Sem.run_bind, Result.andThen_ok, Int.toNat_natCast]
    rw [if_neg (by omega)]
    simp only [Sem.run_bind, info_run hi, Result.andThen_ok]
    rw [if_neg (by rintro ⟨h1, _⟩; simp only [IntKind.max, IntKind.signed, IntKind.bits, if_true] at h1; omega)]
    simp only [Sem.run_bind, info_run hi, Result.andThen_ok]
    rw [if_neg (by omega)]
    simp only [Sem.run_bind, run_choose, Question.forced, Bool.false_eq_true, if_false, Bool.not_true, Result.andThen_ok, hcap, info_run hi, run_askRoom, ho1, hc1, hz, newRow_run, Sem.run_pure]
    congr 1
    rw [← hnews]
    have e1 : (olds.toArray ++ news.toArray ++ Builtin.zeroCells zv.cells (nc - (len + n))) = (olds ++ (news ++ (Builtin.zeroCells zv.cells (nc - (len + n))).toList)).toArray := by
      apply Array.toList_inj.1; simp
    rw [e1]
    rfl

theorem zeroCells_one (zc : Array Value) (h1 : ∀ c ∈ zc.toList, c.oneCell' = true) (n : Nat) : ∀ c ∈ (Builtin.zeroCells zc n).toList, c.oneCell' = true := by
  intro c hc
  unfold Builtin.zeroCells at hc
  simp only [Array.toList_map, List.mem_map, Array.mem_toList_iff, Array.mem_range] at hc
  obtain ⟨i, hi, rfl⟩ := hc
  have hz : 0 < zc.size := Nat.pos_of_ne_zero fun h => by rw [h] at hi; omega
  have : i % zc.size < zc.size := Nat.mod_lt _ hz
  rw [getElem!_pos zc _ this]
  exact h1 _ (by simp)
theorem zeroCells_size (zc : Array Value) (n : Nat) : (Builtin.zeroCells zc n).toList.length = n * zc.size := by simp [Builtin.zeroCells]

/-- A row that has grown into a new block. -/
theorem row_grown {e0 : E} {fz elem lo hi : Nat} {t : Tr} {cs : Array Value} {fr : Nat × Nat} (R : Row m e0 fz elem lo hi t cs fr) {off n k len : Nat} (hd : e0.delta ≤ off) (h1 : lo ≤ off) (h2 : off + len * k ≤ hi) {l : AV} {news rest : List Value}
    (hl : VRels m l news) (ho : ∀ v ∈ news, v.oneCell' = true) (hr : ∀ v ∈ rest, v.oneCell' = true) (hn : news.length = n * k) {e' : E} (hd' : e'.delta = off) (hs' : e'.size = len * k + (news.length + rest.length)) {elem' fz' : Nat} :
    Row m e' fz' elem' off (off + (len + n) * k) (Tr.sets l (off + len * k) t) (((cs.toList.drop (off - e0.delta)).take (len * k)) ++ (news ++ rest)).toArray (0, 0) := by
  have hhigh := R.high
  have hsz : cs.toList.length = e0.size := by rw [Array.length_toList]; exact R.size
  have hol : ((cs.toList.drop (off - e0.delta)).take (len * k)).length = len * k := by rw [List.length_take, List.length_drop]; omega
  have hmul : (len + n) * k = len * k + n * k := Nat.add_mul _ _ _
  refine ⟨by simp only [List.size_toArray, List.length_append]; omega, by omega, by omega, fun o k1 k2 v hv => ?_, fun o k1 k2 => ?_, fun o _ _ _ h => by simp at h, fun _ h => absurd rfl h⟩
  · rw [List.getElem?_toArray] at hv
    by_cases hin : o < off + len * k
    · rw [List.getElem?_append_left (by omega), List.getElem?_take_of_lt (by omega), List.getElem?_drop, hd'] at hv
      rw [show off - e0.delta + (o - off) = o - e0.delta by omega] at hv
      exact R.one o (by omega) (by omega) v (by rw [← Array.getElem?_toList]; exact hv)
    · rw [List.getElem?_append_right (by omega), hol, List.getElem?_append_left (by omega)] at hv
      exact ho v (List.mem_of_getElem? hv)
  · by_cases hin : o < off + len * k
    · obtain ⟨v, hv, hrel⟩ := R.cell o (by omega) (by omega)
      refine ⟨v, ?_, sets_rel hl _ t o v (fun q1 q2 => by omega) (fun _ => hrel)⟩
      rw [← Array.getElem?_toList] at hv
      rw [List.getElem?_toArray, List.getElem?_append_left (by omega), List.getElem?_take_of_lt (by omega), List.getElem?_drop, hd']
      rw [show off - e0.delta + (o - off) = o - e0.delta by omega]
      exact hv
    · obtain ⟨v, hv⟩ : ∃ v, news[o - (off + len * k)]? = some v := ⟨_, List.getElem?_eq_getElem (by omega)⟩
      refine ⟨v, ?_, sets_rel hl _ t o v (fun _ _ => hv) (fun hc => by omega)⟩
      rw [List.getElem?_toArray, List.getElem?_append_right (by omega), hol, List.getElem?_append_left (by omega), hd']
      rw [show o - off - len * k = o - (off + len * k) by omega]
      exact hv

/-- An append that has room. -/
theorem room_run {ts : Array TypeId} {ty t u e : TypeId} {i : TypeInfo} {d : TypeDesc} (ht0 : ts[0]? = some t) (ht : P.underlying t = some (.slice e)) (ht1 : ts[1]? = some u) (hu : P.underlying u = some d) (hi : P.info? e = some i) {zv : Value} (hz : ∀ w : World, (zeroValue e).run P w = .ok zv w)
    {base : Option Addr} {len cap n : Nat} {x : Value} {c : AV} {news : List Value} (hF : Fed P m w d zv i.bytes i.size n x c news) (hroom : len + n ≤ cap) {w' : World}
    (hst : (match base with | some a => storeCells (a.add (len * i.size)) news | none => pure ()).run P w = .ok () w') :
    (Builtin.append_ ts ty #[.slice base len cap, x]).run P w = .ok (.slice base (len + n) cap) w' := by
  have a0 : (#[Value.slice base len cap, x] : Array Value)[0]? = some (.slice base len cap) := rfl
  have a1 : (#[Value.slice base len cap, x] : Array Value)[1]? = some x := rfl
  rcases hF.how with ⟨hd, hlen, hcells⟩ | ⟨⟨k, rfl⟩, ⟨kk, rfl⟩, hn1, hn2, hnews, hzs⟩
  · have hz0 : (d matches .int _) = false := by cases d <;> first | rfl | exact absurd rfl (hd _)
    have hc1 := hcells w rfl
    unfold Builtin.append_
    simp only [ht0, a0, a1, ht1, Sem.run_bind, run_underlying ht, run_underlying hu, Result.andThen_ok, Sem.run_pure, size_run hi, hz0, Bool.false_eq_true, if_false, hlen, Bool.not_false, if_true]
    rw [if_pos hroom]
    cases base with
    | none =>
      simp only [Sem.run_bind, hc1, Result.andThen_ok, Sem.run_pure] at hst ⊢
      cases hst
      rfl
    | some a =>
      simp only [Sem.run_bind, hc1, Result.andThen_ok] at hst ⊢
      rw [hst]
      rfl
  · have hc1 := appended_zero (n := n) hz hzs w
    rw [← hnews] at hc1
    unfold Builtin.append_
    simp only [ht0, a0, a1, ht1, Sem.run_bind, run_underlying ht, run_underlying hu, Result.andThen_ok, Sem.run_pure, size_run hi, if_true, asInt, asIntOf, wrap64 hn1]
    rw [if_neg (by omega)]
    simp only [Sem.run_bind, info_run hi, Result.andThen_ok]
    rw [if_neg (by
      have : ((n : Int) * (i.bytes : Int)) = ((n * i.bytes : Nat) : Int) := by simp
      rw [this]; omega)]
    simp only [Sem.run_pure, Sem.run_bind, Result.andThen_ok, Int.toNat_natCast]
    rw [if_pos hroom]
    cases base with
    | none =>
      simp only [Sem.run_bind, Bool.not_true, Bool.false_eq_true, if_false, hc1, Result.andThen_ok, Sem.run_pure] at hst ⊢
      cases hst
      rfl
    | some a =>
      simp only [Sem.run_bind, Bool.not_true, Bool.false_eq_true, if_false, hc1, Result.andThen_ok] at hst ⊢
      rw [hst]
      rfl

set_option maxHeartbeats 1000000 in
theorem append1_sound (I : Inv P m h nx w) {ts : Array TypeId} {ty t u el : TypeId} {i : TypeInfo} {d : TypeDesc} {zv : Value} (ht0 : ts[0]? = some t) (ht : P.underlying t = some (.slice el)) (ht1 : ts[1]? = some u) (hu : P.underlying u = some d)
    (hi : P.info? el = some i) (hz : ∀ w : World, (zeroValue el).run P w = .ok zv w) (hz1 : ∀ c ∈ zv.cells.toList, c.oneCell' = true) (hzs : zv.cells.size = i.size)
    {s : AV} {s' x : Value} (hs : VRel m s s') {n : Nat} {c : AV} {news : List Value} (hF : Fed P m w d zv i.bytes i.size n x c news) {v : AV} {h' : TB} {nx' : Nat} (hv : append1 el i.size i.bytes s n c h nx = .ok v h' nx') :
    ∃ v' w', (Builtin.append_ ts ty #[s', x]).run P w = .ok v' w' ∧ Acted P m h nx w v h' nx' v' w' := by
  unfold append1 at hv
  cases h0 : Nat.beq n 0 with
  | true =>
    rw [h0] at hv
    obtain rfl := nbeq_iff.1 h0
    have hnil : news = [] := List.length_eq_zero_iff.1 (by rw [hF.size]; simp)
    subst hnil
    simp only [cond_true] at hv
    split at hv
    · obtain ⟨rfl, rfl, rfl⟩ : AV.nilslice = v ∧ h = h' ∧ nx = nx' := by simpa using hv
      cases hs
      exact ⟨.slice none 0 0, w, room_run (P := P) (ty := ty) ht0 ht ht1 hu hi hz hF (Nat.le_refl _) rfl, m, .nilslice, I, Fr.refl _ _ _ _⟩
    · rename_i id off len cp ex k
      obtain ⟨rfl, rfl, rfl⟩ : AV.slice id off len cp ex k = v ∧ h = h' ∧ nx = nx' := by simpa using hv
      have hs2 := hs
      cases hs with | slice _ _ _ _ _ _ e a cc he hde hlen hlo hmax hex hsz haddr =>
      exact ⟨_, w, room_run (P := P) (ty := ty) ht0 ht ht1 hu hi hz hF (by omega) rfl, m, hs2, I, Fr.refl _ _ _ _⟩
    · exact noC hv
  | false =>
    rw [h0] at hv
    have hn0 : n ≠ 0 := fun e => by subst e; simp at h0
    simp only [cond_false] at hv
    split at hv
    · -- the nil slice
      cases hcond : (Nat.ble (Nat.mul (Nat.add (Nat.mul 2 n) 192) i.bytes) 281474976710656 && (Nat.ble 1 i.bytes && Nat.ble nx 32767)) with
      | false => rw [hcond] at hv; exact noC hv
      | true =>
        rw [hcond] at hv
        rw [bits_and3, nble_iff, nble_iff, nble_iff] at hcond
        obtain ⟨k1, k2, k3⟩ := hcond
        replace k1 : (2 * n + 192) * i.bytes ≤ 281474976710656 := k1
        have hnb : 2 * n + 192 ≤ 281474976710656 := Nat.le_trans (Nat.le_mul_of_pos_right _ k2) k1
        simp only [cond_true] at hv
        cases hs
        obtain ⟨nc, d', q1, q2, hrun⟩ := grow_run (P := P) (ty := ty) (base := none) (len := 0) (cap := 0) (olds := []) ht0 ht ht1 hu hi hz hF (fun w' _ => rfl) (by omega) (by omega) (by simpa using k1)
        simp only [Nat.zero_add] at hrun q1
        refine ⟨_, _, hrun, ?_⟩
        have hmk := makes_cells (elem := el) (fr := (0, 0)) (d := d') (v := .slice (bid nx) 0 n n false i.size) (v' := .slice (some ⟨w.heap.size, 0, none⟩) n nc) (hi := Nat.mul n i.size) I k3 hF.rel hF.one (zeroCells_one zv.cells hz1 (nc - n)) (by intro o _; simp) (by rw [hF.rel.len, hF.size]; rfl)
          (fun m' hm' => .slice _ _ _ _ _ _ _ _ _ hm' (Nat.le_refl _) q1 q1 q2 (fun h => by cases h) (by
            simp only [zeroCells_size, hF.size, hzs, Nat.sub_self, Nat.zero_add]
            rw [← Nat.add_mul]
            apply Nat.mul_le_mul_right
            omega) (fun _ => rfl))
        obtain ⟨e, _, hv1, hI, hFr⟩ := hmk
        obtain ⟨rfl, rfl, rfl⟩ : AV.slice (bid nx) 0 n n false i.size = v ∧ _ = h' ∧ nx.succ = nx' := by simpa using hv
        exact ⟨_, hv1, hI, hFr⟩
    · -- a slice
      rename_i id off len cp ex k'
      split at hv
      · rename_i fz elem' lo hi' tr hb
        cases hcond : (Nat.beq i.size k' && (Nat.ble lo off && (Nat.ble (Nat.add off (Nat.mul len i.size)) hi' && (Nat.ble (Nat.mul (Nat.add (Nat.mul 2 (Nat.add len n)) 192) i.bytes) 281474976710656 && (Nat.ble 1 i.bytes && (Nat.ble nx 32767 && Nat.ble 1 i.size)))))) with
        | false => rw [hcond] at hv; exact noC hv
        | true =>
          rw [hcond] at hv
          simp only [Bool.and_eq_true, nble_iff, nbeq_iff] at hcond
          obtain ⟨rfl, k1, k2, k3, k4, k5, k6⟩ := hcond
          replace k2 : off + len * i.size ≤ hi' := k2
          replace k3 : (2 * (len + n) + 192) * i.bytes ≤ 281474976710656 := k3
          have hnb : 2 * (len + n) + 192 ≤ 281474976710656 := Nat.le_trans (Nat.le_mul_of_pos_right _ k4) k3
          simp only [cond_true] at hv
          have hs2 := hs
          cases hs with | slice _ _ _ _ _ _ e a cc he hde hlen hlo hmax hex hsz haddr =>
          obtain ⟨cs, fr, hw, R⟩ := I.row he hb
          have hcsz : cs.toList.length = e.size := by rw [Array.length_toList]; exact R.size
          have hhigh := R.high
          have hnew : news.length = n * i.size := hF.size
          have hmul : (len + n) * i.size = len * i.size + n * i.size := Nat.add_mul _ _ _
          have hpos : 1 ≤ n * i.size := Nat.mul_pos (by omega) k6
          -- what is stored, where there is room
          have inplace : len + n ≤ cc → fz ≤ off + len * i.size + 1 → ∃ cs' : List Value, (storeCells (a.add (len * i.size)) news).run P w = .ok () (w.putObj e.blk (.cells cs'.toArray elem' fr)) ∧ e.ro = false ∧
              (∀ hi2, hi' ≤ hi2 → off + (len + n) * i.size ≤ hi2 → hi2 ≤ max hi' (off + (len + n) * i.size) → Row m e fz elem' lo hi2 (Tr.sets c (off + len * i.size) tr) cs'.toArray fr) ∧
              Row m e fz elem' off (off + (len + n) * i.size) (Tr.sets c (off + len * i.size) tr) cs'.toArray fr := by
            intro hroom hfz
            have ha := haddr (by omega)
            have hfit : off - e.delta + (len + n) * i.size ≤ e.size := Nat.le_trans (Nat.add_le_add_left (Nat.mul_le_mul_right _ hroom) _) hsz
            have hro : e.ro = false := by
              cases hr : e.ro with
              | false => rfl
              | true =>
                have := I.ro id e he hr
                rw [hb] at this
                replace this : e.delta + e.size < fz ∧ _ := this
                have := this.1
                omega
            have hat : off + len * i.size - e.delta = off - e.delta + len * i.size := by omega
            have hsplit : cs = (cs.toList.take (off - e.delta + len * i.size) ++ ((cs.toList.drop (off - e.delta + len * i.size)).take news.length ++ cs.toList.drop (off - e.delta + len * i.size + news.length))).toArray := split3 _ _ _
            have hrun := storeCells_run (P := P) e.blk (off - e.delta + len * i.size) (elem := elem') (fr := fr) news (cs.toList.take (off - e.delta + len * i.size)) ((cs.toList.drop (off - e.delta + len * i.size)).take news.length) (cs.toList.drop (off - e.delta + len * i.size + news.length)) 0 w
              (by rw [← hsplit]; exact hw) (by rw [List.length_take]; omega) (by rw [List.length_take, List.length_drop]; omega) hF.one (fun j hj => by
                have := R.free (off + len * i.size + j) (by omega) (by omega) (by omega)
                rwa [show off + len * i.size + j - e.delta = off - e.delta + len * i.size + 0 + j by omega] at this)
            refine ⟨cs.toList.take (off - e.delta + len * i.size) ++ (news ++ cs.toList.drop (off - e.delta + len * i.size + news.length)), ?_, hro, fun hi2 g1 g2 g3 => ?_, ?_⟩
            · rw [ha, add_eq]; exact hrun
            · have := R.puts (off := off + len * i.size) hF.rel hF.one (by omega) (hi' := hi2) g1 (by omega) (by omega) (by rw [hnew]; omega) (by omega)
              rwa [hat] at this
            · have := R.puts (off := off + len * i.size) hF.rel hF.one (by omega) (hi' := max hi' (off + (len + n) * i.size)) (by omega) (by omega) (by omega) (by omega) (by omega)
              rw [hat] at this
              exact ⟨this.size, by omega, by omega, fun o g1 g2 => this.one o (by omega) (by omega), fun o g1 g2 => this.cell o (by omega) (by omega), this.free, this.mark⟩
          have grown : cc < len + n → ∃ nc d', len + n ≤ nc ∧ nc ≤ maxInt ∧ (Builtin.append_ ts ty #[.slice (some a) len cc, x]).run P w =
              .ok (.slice (some ⟨w.heap.size, 0, none⟩) (len + n) nc) (w.more (.cells (((cs.toList.drop (off - e.delta)).take (len * i.size)) ++ (news ++ (Builtin.zeroCells zv.cells (nc - (len + n))).toList)).toArray el) d') := by
            intro hg
            refine grow_run (P := P) (ty := ty) ht0 ht ht1 hu hi hz hF (fun w' hw' => ?_) hg (by omega) k3
            have hol : ((cs.toList.drop (off - e.delta)).take (len * i.size)).length = len * i.size := by rw [List.length_take, List.length_drop]; omega
            by_cases hl0 : len = 0
            · subst hl0
              simp [Builtin.firstCells, loadCells, loadCellsFrom]
            · have ha := haddr (by omega)
              have hlr := loads_run (P := P) (w := w') (b := e.blk) (o := off - e.delta) (vs := (cs.toList.drop (off - e.delta)).take (len * i.size)) (fun j v hj => by
                have hj2 : j < len * i.size := by
                  have := (List.getElem?_eq_some_iff.1 hj).1
                  omega
                rw [cell_of (by rw [hw']; exact hw), ← Array.getElem?_toList]
                rw [List.getElem?_take_of_lt hj2, List.getElem?_drop] at hj
                exact hj)
              rw [hol] at hlr
              simp only [Builtin.firstCells, ha]
              exact hlr
          have grownRow : ∀ {nc fz' : Nat}, len + n ≤ nc → Row m ⟨w.heap.size, off, nc * i.size, false⟩ fz' el off (off + (len + n) * i.size) (Tr.sets c (off + len * i.size) tr)
              (((cs.toList.drop (off - e.delta)).take (len * i.size)) ++ (news ++ (Builtin.zeroCells zv.cells (nc - (len + n))).toList)).toArray (0, 0) := by
            intro nc fz' hnc
            refine row_grown R hde k1 k2 hF.rel hF.one (zeroCells_one zv.cells hz1 _) hnew rfl ?_
            rw [zeroCells_size, hzs, hnew]
            show nc * i.size = _
            rw [← Nat.add_mul, ← Nat.add_mul]
            congr 1
            omega
          have newSlice : ∀ {m' : Mp} {nc : Nat}, len + n ≤ nc → nc ≤ maxInt → m' (bid nx) = some ⟨w.heap.size, off, nc * i.size, false⟩ → VRel m' (.slice (bid nx) off (len + n) (len + n) false i.size) (.slice (some ⟨w.heap.size, 0, none⟩) (len + n) nc) := by
            intro m' nc g1 g2 g3
            exact .slice _ _ _ _ _ _ _ _ _ g3 (Nat.le_refl _) g1 g1 g2 (fun h => by cases h) (by simp) (fun _ => by simp)
          cases hcp : Nat.ble (Nat.add len n) cp with
          | true =>
            rw [hcp] at hv
            rw [nble_iff] at hcp
            replace hcp : len + n ≤ cp := hcp
            cases hfz : Nat.ble fz (Nat.succ (Nat.add off (Nat.mul len i.size))) with
            | false => rw [hfz] at hv; exact noC hv
            | true =>
              rw [hfz] at hv
              rw [nble_iff] at hfz
              simp only [cond_true] at hv
              obtain ⟨cs', hst, hro, hrow, _⟩ := inplace (by omega) hfz
              obtain ⟨rfl, rfl, rfl⟩ : AV.slice id off (len.add n) cp ex i.size = v ∧ _ = h' ∧ nx = nx' := by simpa using hv
              have hhi : hi' ≤ (bif Nat.ble hi' (off.add ((len.add n).mul i.size)) then off.add ((len.add n).mul i.size) else hi') ∧ off + (len + n) * i.size ≤ (bif Nat.ble hi' (off.add ((len.add n).mul i.size)) then off.add ((len.add n).mul i.size) else hi') ∧
                  (bif Nat.ble hi' (off.add ((len.add n).mul i.size)) then off.add ((len.add n).mul i.size) else hi') ≤ max hi' (off + (len + n) * i.size) := by
                have e1 : off.add ((len.add n).mul i.size) = off + (len + n) * i.size := rfl
                rw [e1]
                cases hq : Nat.ble hi' (off + (len + n) * i.size) with
                | true => rw [nble_iff] at hq; simp only [cond_true]; omega
                | false => rw [nbleF] at hq; simp only [cond_false]; omega
              obtain ⟨hI, hFr⟩ := I.upd he (by rw [hb]; trivial) (b' := .cells fz elem' lo _ (Tr.sets c (off + len * i.size) tr)) ⟨_, _, rfl, hrow _ hhi.1 hhi.2.1 hhi.2.2⟩ (fun hr => by rw [hro] at hr; cases hr) (fun l hlp => by rw [hw] at hlp; cases hlp)
              refine ⟨_, _, room_run (P := P) (ty := ty) ht0 ht ht1 hu hi hz hF (by omega) hst, m, ?_, hI, hFr⟩
              exact .slice _ _ _ _ _ _ e a cc he hde (by show len + n ≤ cc; omega) hlo hmax hex hsz haddr
          | false =>
            rw [hcp] at hv
            rw [nbleF] at hcp
            replace hcp : cp < len + n := hcp
            simp only [cond_false] at hv
            cases ex with
            | true =>
              simp only [cond_true] at hv
              have := hex rfl
              subst this
              obtain ⟨nc, d', g1, g2, hrun⟩ := grown hcp
              obtain ⟨rfl, rfl, rfl⟩ : AV.slice (bid nx) off (len.add n) (len.add n) false i.size = v ∧ _ = h' ∧ nx.succ = nx' := by simpa using hv
              have hsub : Sub m (m.ext nx ⟨w.heap.size, off, nc * i.size, false⟩) := Mp.ext_sub (I.fresh (Nat.le_refl _) k5)
              obtain ⟨hI, hFr⟩ := I.more k5 (e := ⟨w.heap.size, off, nc * i.size, false⟩) rfl rfl (d := d') (b := .cells 1 el off (off + (len + n) * i.size) (Tr.sets c (off + len * i.size) tr)) ⟨_, _, rfl, (grownRow (fz' := 1) g1).mono hsub⟩
              exact ⟨_, _, hrun, _, newSlice g1 g2 (Mp.ext_self _ _ _), hI, hFr⟩
            | false =>
              simp only [cond_false] at hv
              cases hfz : (Nat.ble fz (Nat.succ (Nat.add off (Nat.mul len i.size))) && Nat.beq el elem') with
              | false => rw [hfz] at hv; exact noC hv
              | true =>
                rw [hfz] at hv
                rw [and_true', nble_iff, nbeq_iff] at hfz
                obtain ⟨hfz, rfl⟩ := hfz
                simp only [cond_true] at hv
                obtain ⟨rfl, rfl, rfl⟩ : AV.slice (bid nx) off (len.add n) (len.add n) false i.size = v ∧ _ = h' ∧ nx.succ = nx' := by simpa using hv
                by_cases hg : cc < len + n
                · obtain ⟨nc, d', g1, g2, hrun⟩ := grown hg
                  obtain ⟨I1, F1⟩ := I.kill he
                  have hsub : Sub m (m.ext nx ⟨w.heap.size, off, nc * i.size, false⟩) := Mp.ext_sub (I.fresh (Nat.le_refl _) k5)
                  obtain ⟨hI, hFr⟩ := I1.more k5 (e := ⟨w.heap.size, off, nc * i.size, false⟩) rfl rfl (d := d') (b := .cells fz el off (off + (len + n) * i.size) (Tr.sets c (off + len * i.size) tr)) ⟨_, _, rfl, (grownRow (fz' := fz) g1).mono hsub⟩
                  exact ⟨_, _, hrun, _, newSlice g1 g2 (Mp.ext_self _ _ _), hI, F1.trans hFr⟩
                · obtain ⟨cs', hst, hro, _, hrow⟩ := inplace (by omega) hfz
                  obtain ⟨I1, F1⟩ := I.upd he (by rw [hb]; trivial) (b' := .dead) (o := .cells cs'.toArray el fr) trivial (fun hr => by rw [hro] at hr; cases hr) (fun l hlp => by rw [hw] at hlp; cases hlp)
                  have hsub : Sub m (m.ext nx e) := Mp.ext_sub (I.fresh (Nat.le_refl _) k5)
                  have hlt : e.blk < w.heap.size := (Array.getElem?_eq_some_iff.1 hw).1
                  obtain ⟨hI, hFr⟩ := I1.alias k5 he hro (fun id' e' h1 h2 hbe => by
                    by_cases hid : id' = id
                    · subst hid
                      rw [TB.get_set rfl, if_pos rfl] at h2
                      exact h2.elim
                    · rw [TB.get_set (by rw [I.plen h1, I.plen he]), if_neg hid] at h2
                      exact hid (I.inj id' id e' e h1 he h2 (by rw [hb]; trivial) hbe)) (b := .cells fz el off (off + (len + n) * i.size) (Tr.sets c (off + len * i.size) tr)) (by rw [put_heap hlt]; exact ⟨_, _, rfl, hrow.mono hsub⟩)
                  refine ⟨_, _, room_run (P := P) (ty := ty) ht0 ht ht1 hu hi hz hF (by omega) hst, _, ?_, hI, F1.trans hFr⟩
                  exact .slice _ _ _ _ _ _ e a cc (Mp.ext_self _ _ _) hde (by show len + n ≤ cc; omega) (by show len + n ≤ cc; omega) hmax (fun h => by cases h) hsz haddr
      · exact noC hv
    · exact noC hv
end Go.Ra
