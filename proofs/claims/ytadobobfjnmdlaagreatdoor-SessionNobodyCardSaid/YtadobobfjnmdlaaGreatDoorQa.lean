/-
  Ranges over functions: iterators that make blocks of their own, and such whose first yield is the last one.
-/
import Derived.Test.YtadobobfjnmdlaaGreatDoorP0
import Derived.Test.YtadobobfjnmdlaaGreatDoorUt
import Derived.Test.YtadobobfjnmdlaaGreatDoorQb
import Derived.RangeFuncBound
import Derived.RangeFuncCalls
import Derived.Shelf.Abstract
import Derived.Shelf.RegionOpen
import Derived.OwnWalkIn
import Derived.TacticsInMore
import Derived.LoopNIn
import Derived.LoopIn
import Derived.BigGuardIn
set_option linter.unusedVariables false
set_option linter.unusedSimpArgs false
set_option maxHeartbeats 16000000
set_option maxRecDepth 100000
open Go.Lib (hid)
namespace Go
open Go.RowKit
def IterO {α:Type} (P:Program) (gf:Nat) (lb:Array Value) (encs:α→Array Value) (xs:List α) (T:Nat→Prop) (Gp:World→Prop) (W0:World):Prop :=
 ∀ (W:World) (l:Nat) (J Jx:List α→World→Prop) (U:Nat→Prop),
  W0.heap.size≤W.heap.size→(∀ k,T k→W.heap[k]?=W0.heap[k]?) →
  (∀ k,U k→k<W.heap.size∧¬T k) →
  (∀ pre A B,J pre A→Ch (fun k=>T k∨W.heap.size≤k) A B→J pre B) →
  (∀ pre A B,Jx pre A→Ch (fun k=>T k∨W.heap.size≤k) A B→Jx pre B) →
  (∀ pre A,J pre A→Gp A) →
  (∀ pre x rest A,xs=pre++x :: rest→W.heap.size≤A.heap.size→J pre A→YAt P l (encs x) A fun e B =>
   (e=.returned (.bool true)∧J (pre++[x]) B∧Ch U A B)∨(e=.returned (.bool false)∧Jx (pre++[x]) B∧Ch U A B)) →
  J [] W →
  CallsIn Fence.wide 0 P gf (#[.func (.yield l) #[] #[]]++lb) W fun e W'=>e=.returned (.tuple #[])∧(J xs W'∨∃ pre,pre <+: xs∧Jx pre W')
theorem wpIn_range2 {α:Type} {P:Program} {g:Operand} {ps:Array Tmp} {assign body:Code} {Q:Exit→Act→World→Prop} {a:Act} {w:World}
  {gf:Nat} {lb:Array Value} (hg:a.eval g=.func (.func gf) #[] lb) (eg:∀ args w,(callFunc gf args).run P w=.ok (.enter gf args) w)
  {encs:α→Array Value} {xs:List α} {T:Nat→Prop} {Gp:World→Prop} {W0:World} (hit:IterO P gf lb encs xs T Gp W0)
  (hW0:W0.heap.size≤w.heap.size) (hT:∀ k,T k→k<w.heap.size∧w.heap[k]?=W0.heap[k]?) (hps:∀ x,(encs x).size=ps.size)
  (I:List α→World→Prop) (Ix:Code→List α→World→Prop) (U:Nat→Prop) (hU:∀ k,U k→k<w.heap.size∧¬T k)
  (hI:∀ pre A B,I pre A→Ch (fun k=>T k∨w.heap.size≤k) A B→I pre B)
  (hIx:∀ c pre A B,Ix c pre A→Ch (fun k=>T k∨w.heap.size≤k) A B→Ix c pre B)
  (hIG:∀ pre A,I pre A→Gp A) (h0:I [] w)
  (hround:∀ (l:Nat) (pre:List α) (x:α) (rest:List α) (A:World),(w.heap.size+1≤l∧l≤w.heap.size+1)→w.heap.size+2≤A.heap.size→xs=pre++x :: rest→I pre A →
   assign.wpIn (Fence.wide.inRound l) 0 P (Exit.then (fun a₁ A₁=>Ch U A A₁∧∀ A₂,Ch (·=l) A₁ A₂→body.wpIn (Fence.wide.inRound l) 0 P (rPost U I Ix (pre++[x]) A₂) a₁ A₂) (fun _ _ _=>False))
    { tmps:=(ps.zip (encs x)).foldl (fun t (p,v)=>t.setIfInBounds p v) a.tmps,defers:=[] } A)
  (hdone:∀ (D:Nat) (W:World),(w.heap.size≤D∧D≤w.heap.size)→I xs W→W.heap[D]?=some (.deferred (some []))→Q .normal { a with defers:={ target:=.collected D,args:=#[] } :: a.defers } W)
  (hstop:∀ (D:Nat) (c:Code) (pre:List α) (W:World),(w.heap.size≤D∧D≤w.heap.size)→pre <+: xs→Ix c pre W→W.heap[D]?=some (.deferred (some []))→c.wpIn Fence.wide 0 P Q { a with defers:={ target:=.collected D,args:=#[] } :: a.defers } W) :
  (Code.rangeFunc g ps assign body).wpIn Fence.wide 0 P Q a w:=by
 refine wpIn_rangeFunc ?_
 intro fn hfn
 rw [show Fence.wide.round=none from rfl]
 obtain ⟨rec,hrec⟩:∃ rec:LoopState→Option Code→Loop,rec=fun st pe=>{ state:=st,pending:=pe,fn,tmps:=a.tmps,params:=ps,assign,body,defers:=w.heap.size }:=⟨_,rfl⟩
 obtain ⟨W1,hW1⟩:∃ W1,(w.alloc (.deferred (some []))).alloc (.loop (rec .ready none))=W1:=⟨_,rfl⟩
 have hL1:W1.heap[w.heap.size+1]?=some (.loop (rec .ready none)):=by
  rw [←hW1];have:=World.alloc_heap_new (w.alloc (.deferred (some []))) (.loop (rec .ready none));rwa [World.size_alloc] at this
 have hK1:W1.heap[w.heap.size]?=some (.deferred (some [])):=by
  rw [←hW1];exact (Below.heap_alloc _ _ _ (by simp)).trans (World.alloc_heap_new w _)
 have hch1:∀ T',Ch T' w W1:=fun T'=>by rw [←hW1];exact (Ch.alloc _ _ _).trans (Ch.alloc _ _ _)
 have hs1:W1.heap.size=w.heap.size+2:=by rw [←hW1];simp
 have hI1:I [] W1:=hI _ _ _ h0 (hch1 _)
 have hTl:∀ k,w.heap.size≤k→¬T k:=fun k hk ht=>by have:=(hT k ht).1;omega
 have hUl:∀ k,w.heap.size≤k→k<w.heap.size+2→¬U k:=fun k hk hk2 ht=>by have:=(hU k ht).1;omega
 refine ⟨w.heap.size+1,[{ target:=.collected w.heap.size,args:=#[] }],W1,{ target:=.fn (.func gf) lb,args:=#[.func (.yield (w.heap.size+1)) #[] #[]] },W1,gf,
  #[.func (.yield (w.heap.size+1)) #[] #[]]++lb,W1,?_,?_,fun _ _=>trivial,?_,fun h=>by simp [Fence.wide] at h,?_⟩
 ·rw [←hW1,hrec];exact run_enterLoop_outer _ _ _ _ _
 ·simp only [resolve,hg]
  simp [go_sem]
 ·simp [invoke,go_sem,eg]
 ·-- the two blocks of book-keeping stay under the iterator's own steps
  have bk:∀ {A B:World} {o:Obj} {k:Nat},w.heap.size≤k→k<w.heap.size+2→A.heap[k]?=some o→Ch (fun k=>T k∨W1.heap.size≤k) A B→B.heap[k]?=some o:=fun {A B o k} h1 h2 h3 h4 =>
   h4.get h3 (fun e=>by
    rcases e with e | e
    ·exact hTl _ h1 e
    ·rw [hs1] at e;omega)
  have wid:∀ {A B:World},Ch (fun k=>T k∨W1.heap.size≤k) A B→Ch (fun k=>T k∨w.heap.size≤k) A B:=fun h =>
   h.mono (fun k hk=>by rcases hk with hk | hk;exact .inl hk;exact .inr (by rw [hs1] at hk;omega))
  refine (hit W1 (w.heap.size+1)
   (fun pre W=>I pre W∧W.heap[w.heap.size+1]?=some (.loop (rec .ready none))∧W.heap[w.heap.size]?=some (.deferred (some [])))
   (fun pre W=>∃ c,Ix c pre W∧W.heap[w.heap.size+1]?=some (.loop (rec .done (some c)))∧W.heap[w.heap.size]?=some (.deferred (some [])))
   (fun k=>U k∨k=w.heap.size+1)
   (by rw [hs1];omega) (fun k hk=>((hch1 (fun _=>False)).block k (hT k hk).1 (fun h=>h)).trans (hT k hk).2)
   (fun k hk=>by
    rcases hk with hk | hk
    ·exact ⟨by have:=(hU k hk).1;rw [hs1];omega,(hU k hk).2⟩
    ·subst hk;exact ⟨by rw [hs1];omega,hTl _ (Nat.le_succ _)⟩)
   (fun pre A B hs hc=>⟨hI _ _ _ hs.1 (wid hc),bk (Nat.le_succ _) (by omega) hs.2.1 hc,bk (Nat.le_refl _) (by omega) hs.2.2 hc⟩)
   (fun pre A B hs hc=>by
    obtain ⟨c,hc1,hc2,hc3⟩:=hs
    exact ⟨c,hIx _ _ _ _ hc1 (wid hc),bk (Nat.le_succ _) (by omega) hc2 hc,bk (Nat.le_refl _) (by omega) hc3 hc⟩)
   (fun pre A hs=>hIG _ _ hs.1) ?_ ⟨hI1,hL1,hK1⟩).mono ?_
  ·-- one round
   rintro pre x rest A hxs hsA ⟨hi,hl,hk⟩
   have hlt:w.heap.size+1<A.heap.size:=(Array.getElem?_eq_some_iff.1 hl).1
   have hy:=run_yield (P:=P) (args:=encs x) hl (by rw [hrec];exact hps x)
   rw [hrec] at hy
   refine ⟨fn,_,assign,body,hy,roundIn_of_wpIn hfn ?_⟩
   clear hy
   refine wpIn_mono (hround (w.heap.size+1) pre x rest A ⟨Nat.le_refl _,Nat.le_refl _⟩ (by rw [hs1] at hsA;exact hsA) hxs hi) ?_
   rintro e a₁ A₁ he
   cases e with
   | normal =>
    obtain ⟨hch,hbody⟩:=he
    have hl':A₁.heap[w.heap.size+1]?=some (.loop (rec .ready none)):=hch.get hl (hUl _ (Nat.le_succ _) (by omega))
    have hk':A₁.heap[w.heap.size]?=some (.deferred (some [])):=hch.get hk (hUl _ (Nat.le_refl _) (by omega))
    have hlt':w.heap.size+1<A₁.heap.size:=(Array.getElem?_eq_some_iff.1 hl').1
    refine ⟨_,run_beginRound hl' (by rw [hrec]),?_⟩
    refine wpIn_mono (hbody _ (Ch.putObj (T:=fun k=>k=w.heap.size+1) _ rfl _)) ?_
    have hl2:(A₁.putObj (w.heap.size+1) (.loop { rec .ready none with state:=.busy })).heap[w.heap.size+1]?=some (.loop { rec .ready none with state:=.busy }):=World.putObj_heap_same hlt'
    have hk2:(A₁.putObj (w.heap.size+1) (.loop { rec .ready none with state:=.busy })).heap[w.heap.size]?=some (.deferred (some [])):=(World.putObj_heap_other (by omega)).trans hk'
    have fin:∀ (jump:Option Code) (W3:World),Ch U (A₁.putObj (w.heap.size+1) (.loop { rec .ready none with state:=.busy })) W3 →
      (Instr.endRound (w.heap.size+1) jump).run P W3=.ok (.bool jump.isNone) (W3.putObj (w.heap.size+1) (.loop (rec (if jump.isNone then .ready else .done) jump))) ∧
      (W3.putObj (w.heap.size+1) (.loop (rec (if jump.isNone then .ready else .done) jump))).heap[w.heap.size+1]?=some (.loop (rec (if jump.isNone then .ready else .done) jump)) ∧
      (W3.putObj (w.heap.size+1) (.loop (rec (if jump.isNone then .ready else .done) jump))).heap[w.heap.size]?=some (.deferred (some [])) ∧
      Ch (fun k=>U k∨k=w.heap.size+1) A (W3.putObj (w.heap.size+1) (.loop (rec (if jump.isNone then .ready else .done) jump))) ∧
      Ch (fun k=>T k∨w.heap.size≤k) W3 (W3.putObj (w.heap.size+1) (.loop (rec (if jump.isNone then .ready else .done) jump))):=fun jump W3 hk3=>by
     have hl3:W3.heap[w.heap.size+1]?=some (.loop { rec .ready none with state:=.busy }):=hk3.get hl2 (hUl _ (Nat.le_succ _) (by omega))
     have:=run_endRound (P:=P) jump hl3
     rw [hrec] at this ⊢
     exact ⟨this,World.putObj_heap_same (Array.getElem?_eq_some_iff.1 hl3).1,(World.putObj_heap_other (by omega)).trans (hk3.get hk2 (hUl _ (Nat.le_refl _) (by omega))),
      (((hch.mono (fun _ h=>.inl h)).trans (Ch.putObj _ (.inr rfl) _)).trans (hk3.mono (fun _ h=>.inl h))).trans (Ch.putObj _ (.inr rfl) _),Ch.putObj _ (.inr (Nat.le_succ _)) _⟩
    rintro e a3 W3 hp
    cases e with
    | normal =>
     obtain ⟨hk3,hi3⟩:=hp
     obtain ⟨hr,hl4,hk4,hc4,ho4⟩:=fin none W3 hk3
     exact ⟨_,_,hr,.inl ⟨rfl,⟨hI _ _ _ hi3 ho4,hl4,hk4⟩,hc4⟩⟩
    | ret =>
     obtain ⟨hk3,hi3⟩:=hp
     obtain ⟨hr,hl4,hk4,hc4,ho4⟩:=fin (some .ret) W3 hk3
     exact ⟨_,_,hr,.inr ⟨rfl,⟨_,hIx _ _ _ _ hi3 ho4,hl4,hk4⟩,hc4⟩⟩
    | exit id =>
     obtain ⟨hk3,hi3⟩:=hp
     obtain ⟨hr,hl4,hk4,hc4,ho4⟩:=fin (some (.exit id)) W3 hk3
     exact ⟨_,_,hr,.inr ⟨rfl,⟨_,hIx _ _ _ _ hi3 ho4,hl4,hk4⟩,hc4⟩⟩
    | goto t =>
     obtain ⟨hk3,hi3⟩:=hp
     obtain ⟨hr,hl4,hk4,hc4,ho4⟩:=fin (some (.goto t)) W3 hk3
     exact ⟨_,_,hr,.inr ⟨rfl,⟨_,hIx _ _ _ _ hi3 ho4,hl4,hk4⟩,hc4⟩⟩
    | panic ch=>exact hp.elim
    | outgrown=>exact hp.elim
   | ret=>exact he.elim
   | exit id=>exact he.elim
   | goto t=>exact he.elim
   | panic ch=>exact he.elim
   | outgrown=>exact he.elim
  ·-- behind the iterator
   rintro e W2 ⟨rfl,(⟨hi,hl,hk⟩ | ⟨pre,hpre,c,hi,hl,hk⟩)⟩
   ·exact ⟨none,_,by have:=run_endLoop (P:=P) hl (by rw [hrec];simp);rw [hrec] at this;exact this,hdone _ _ ⟨Nat.le_refl _,Nat.le_refl _⟩ (hI _ _ _ hi (Ch.putObj _ (.inr (Nat.le_succ _)) _)) ((World.putObj_heap_other (by omega)).trans hk)⟩
   ·exact ⟨some c,_,by have:=run_endLoop (P:=P) hl (by rw [hrec];simp);rw [hrec] at this;exact this,hstop _ c pre _ ⟨Nat.le_refl _,Nat.le_refl _⟩ hpre (hIx _ _ _ _ hi (Ch.putObj _ (.inr (Nat.le_succ _)) _)) ((World.putObj_heap_other (by omega)).trans hk)⟩
def IterF {α:Type} (P:Program) (gf:Nat) (lb:Array Value) (encs:α→Array Value) (M:α→World→World→Prop) (N:World→World→Prop) (W0:World):Prop :=
 ∀ (W:World) (l:Nat) (Jx:World→Prop),Gr W0 W →
  (∀ x A,M x W A→YAt P l (encs x) A fun e B=>e=.returned (.bool false)∧Jx B) →
  CallsIn Fence.wide 0 P gf (#[.func (.yield l) #[] #[]]++lb) W fun e W'=>e=.returned (.tuple #[])∧(N W W'∨Jx W')
theorem wpIn_range1 {α:Type} {P:Program} {g:Operand} {ps:Array Tmp} {assign body:Code} {Q:Exit→Act→World→Prop} {a:Act} {w:World}
  {gf:Nat} {lb:Array Value} (hg:a.eval g=.func (.func gf) #[] lb) (eg:∀ args w,(callFunc gf args).run P w=.ok (.enter gf args) w)
  {encs:α→Array Value} {M:α→World→World→Prop} {N:World→World→Prop} (hit:IterF P gf lb encs M N w) (T:Nat→Prop)
  (hT:∀ k,T k→k<w.heap.size) (hM:∀ x A B,M x A B→Ch T A B) (hN:∀ A B,N A B→Ch T A B) (hps:∀ x,(encs x).size=ps.size)
  (Ix:Code→World→Prop) (U:Nat→Prop) (hU:∀ k,U k→k<w.heap.size∨w.heap.size+2≤k)
  (hIx:∀ c A B,Ix c A→Ch (fun k=>k=w.heap.size+1) A B→Ix c B)
  (hround:∀ (l:Nat) (x:α) (W1 A:World),(w.heap.size+1≤l∧l≤w.heap.size+1)→Gr w W1→W1.heap.size=w.heap.size+2→M x W1 A →
   assign.wpIn (Fence.wide.inRound l) 0 P (Exit.then (fun a₁ A₁=>Ch U A A₁∧∀ A₂,Ch (·=l) A₁ A₂→body.wpIn (Fence.wide.inRound l) 0 P (rPost U (fun (_:List α) _=>False) (fun c _ W'=>Ix c W') [x] A₂) a₁ A₂) (fun _ _ _=>False))
    { tmps:=(ps.zip (encs x)).foldl (fun t (p,v)=>t.setIfInBounds p v) a.tmps,defers:=[] } A)
  (hdone:∀ (D:Nat) (W1 W2 W:World),(w.heap.size≤D∧D≤w.heap.size)→Gr w W1→W1.heap.size=w.heap.size+2→N W1 W2→Ch (fun k=>k=w.heap.size+1) W2 W→W.heap[D]?=some (.deferred (some []))→Q .normal { a with defers:={ target:=.collected D,args:=#[] } :: a.defers } W)
  (hstop:∀ (D:Nat) (c:Code) (W:World),(w.heap.size≤D∧D≤w.heap.size)→Ix c W→W.heap[D]?=some (.deferred (some []))→c.wpIn Fence.wide 0 P Q { a with defers:={ target:=.collected D,args:=#[] } :: a.defers } W) :
  (Code.rangeFunc g ps assign body).wpIn Fence.wide 0 P Q a w:=by
 refine wpIn_rangeFunc ?_
 intro fn hfn
 rw [show Fence.wide.round=none from rfl]
 obtain ⟨rec,hrec⟩:∃ rec:LoopState→Option Code→Loop,rec=fun st pe=>{ state:=st,pending:=pe,fn,tmps:=a.tmps,params:=ps,assign,body,defers:=w.heap.size }:=⟨_,rfl⟩
 obtain ⟨W1,hW1⟩:∃ W1,(w.alloc (.deferred (some []))).alloc (.loop (rec .ready none))=W1:=⟨_,rfl⟩
 have hL1:W1.heap[w.heap.size+1]?=some (.loop (rec .ready none)):=by
  rw [←hW1];have:=World.alloc_heap_new (w.alloc (.deferred (some []))) (.loop (rec .ready none));rwa [World.size_alloc] at this
 have hK1:W1.heap[w.heap.size]?=some (.deferred (some [])):=by
  rw [←hW1];exact (Below.heap_alloc _ _ _ (by simp)).trans (World.alloc_heap_new w _)
 have hg1:Gr w W1:=by rw [←hW1];exact ((Gr.refl w).alloc1 _).alloc1 _
 have hs1:W1.heap.size=w.heap.size+2:=by rw [←hW1];simp
 have hTl:∀ k,w.heap.size≤k→¬T k:=fun k hk ht=>by have:=hT k ht;omega
 have hUl:∀ k,w.heap.size≤k→k<w.heap.size+2→¬U k:=fun k hk hk2 ht=>by have:=hU k ht;omega
 refine ⟨w.heap.size+1,[{ target:=.collected w.heap.size,args:=#[] }],W1,{ target:=.fn (.func gf) lb,args:=#[.func (.yield (w.heap.size+1)) #[] #[]] },W1,gf,
  #[.func (.yield (w.heap.size+1)) #[] #[]]++lb,W1,?_,?_,fun _ _=>trivial,?_,fun h=>by simp [Fence.wide] at h,?_⟩
 ·rw [←hW1,hrec];exact run_enterLoop_outer _ _ _ _ _
 ·simp only [resolve,hg]
  simp [go_sem]
 ·simp [invoke,go_sem,eg]
 ·refine (hit W1 (w.heap.size+1) (fun W=>∃ c,Ix c W∧W.heap[w.heap.size+1]?=some (.loop (rec .done (some c)))∧W.heap[w.heap.size]?=some (.deferred (some []))) hg1 ?_).mono ?_
  ·-- the one round
   intro x A hm
   have hcA:=hM x _ _ hm
   have hl:A.heap[w.heap.size+1]?=some (.loop (rec .ready none)):=hcA.get hL1 (hTl _ (Nat.le_succ _))
   have hk:A.heap[w.heap.size]?=some (.deferred (some [])):=hcA.get hK1 (hTl _ (Nat.le_refl _))
   have hy:=run_yield (P:=P) (args:=encs x) hl (by rw [hrec];exact hps x)
   rw [hrec] at hy
   refine ⟨fn,_,assign,body,hy,roundIn_of_wpIn hfn ?_⟩
   clear hy
   refine wpIn_mono (hround (w.heap.size+1) x W1 A ⟨Nat.le_refl _,Nat.le_refl _⟩ hg1 hs1 hm) ?_
   rintro e a₁ A₁ he
   cases e with
   | normal =>
    obtain ⟨hch,hbody⟩:=he
    have hl':A₁.heap[w.heap.size+1]?=some (.loop (rec .ready none)):=hch.get hl (hUl _ (Nat.le_succ _) (by omega))
    have hk':A₁.heap[w.heap.size]?=some (.deferred (some [])):=hch.get hk (hUl _ (Nat.le_refl _) (by omega))
    have hlt':w.heap.size+1<A₁.heap.size:=(Array.getElem?_eq_some_iff.1 hl').1
    refine ⟨_,run_beginRound hl' (by rw [hrec]),?_⟩
    refine wpIn_mono (hbody _ (Ch.putObj (T:=fun k=>k=w.heap.size+1) _ rfl _)) ?_
    have hl2:(A₁.putObj (w.heap.size+1) (.loop { rec .ready none with state:=.busy })).heap[w.heap.size+1]?=some (.loop { rec .ready none with state:=.busy }):=World.putObj_heap_same hlt'
    have hk2:(A₁.putObj (w.heap.size+1) (.loop { rec .ready none with state:=.busy })).heap[w.heap.size]?=some (.deferred (some [])):=(World.putObj_heap_other (by omega)).trans hk'
    have fin:∀ (c:Code) (W3:World),Ch U (A₁.putObj (w.heap.size+1) (.loop { rec .ready none with state:=.busy })) W3 →
      (Instr.endRound (w.heap.size+1) (some c)).run P W3=.ok (.bool false) (W3.putObj (w.heap.size+1) (.loop (rec .done (some c)))) ∧
      (W3.putObj (w.heap.size+1) (.loop (rec .done (some c)))).heap[w.heap.size+1]?=some (.loop (rec .done (some c))) ∧
      (W3.putObj (w.heap.size+1) (.loop (rec .done (some c)))).heap[w.heap.size]?=some (.deferred (some [])) ∧
      Ch (fun k=>k=w.heap.size+1) W3 (W3.putObj (w.heap.size+1) (.loop (rec .done (some c)))):=fun c W3 hk3=>by
     have hl3:W3.heap[w.heap.size+1]?=some (.loop { rec .ready none with state:=.busy }):=hk3.get hl2 (hUl _ (Nat.le_succ _) (by omega))
     have:=run_endRound (P:=P) (some c) hl3
     rw [hrec] at this ⊢
     exact ⟨this,World.putObj_heap_same (Array.getElem?_eq_some_iff.1 hl3).1,(World.putObj_heap_other (by omega)).trans (hk3.get hk2 (hUl _ (Nat.le_refl _) (by omega))),Ch.putObj (T:=fun k=>k=w.heap.size+1) _ rfl _⟩
    rintro e a3 W3 hp
    cases e with
    | normal=>exact hp.2.elim
    | ret =>
     obtain ⟨hk3,hi3⟩:=hp
     obtain ⟨hr,hl4,hk4,ho4⟩:=fin .ret W3 hk3
     exact ⟨_,_,hr,rfl,_,hIx _ _ _ hi3 ho4,hl4,hk4⟩
    | exit id =>
     obtain ⟨hk3,hi3⟩:=hp
     obtain ⟨hr,hl4,hk4,ho4⟩:=fin (.exit id) W3 hk3
     exact ⟨_,_,hr,rfl,_,hIx _ _ _ hi3 ho4,hl4,hk4⟩
    | goto t =>
     obtain ⟨hk3,hi3⟩:=hp
     obtain ⟨hr,hl4,hk4,ho4⟩:=fin (.goto t) W3 hk3
     exact ⟨_,_,hr,rfl,_,hIx _ _ _ hi3 ho4,hl4,hk4⟩
    | panic ch=>exact hp.elim
    | outgrown=>exact hp.elim
   | ret=>exact he.elim
   | exit id=>exact he.elim
   | goto t=>exact he.elim
   | panic ch=>exact he.elim
   | outgrown=>exact he.elim
  ·-- behind the iterator
   rintro e W2 ⟨rfl,(hn | ⟨c,hi,hl,hk⟩)⟩
   ·have hc2:=hN _ _ hn
    have hl:=hc2.get hL1 (hTl _ (Nat.le_succ _))
    have hk:=hc2.get hK1 (hTl _ (Nat.le_refl _))
    exact ⟨none,_,by have:=run_endLoop (P:=P) hl (by rw [hrec];simp);rw [hrec] at this;exact this,hdone _ W1 W2 _ ⟨Nat.le_refl _,Nat.le_refl _⟩ hg1 hs1 hn (Ch.putObj (T:=fun k=>k=w.heap.size+1) _ rfl _) ((World.putObj_heap_other (by omega)).trans hk)⟩
   ·exact ⟨some c,_,by have:=run_endLoop (P:=P) hl (by rw [hrec];simp);rw [hrec] at this;exact this,hstop _ c _ ⟨Nat.le_refl _,Nat.le_refl _⟩ (hIx _ _ _ hi (Ch.putObj (T:=fun k=>k=w.heap.size+1) _ rfl _)) ((World.putObj_heap_other (by omega)).trans hk)⟩
end Go
namespace Go.Proofs.YtadobobfjnmdlaaGreatDoor
open Go.RowKit Go.Shelf
attribute [local go_sem] Oper.semAt_some
theorem runes_le:∀ (s:List UInt8) (c:Uc) (f i n:Nat),UcOk c→f≤n→i+s.length≤n→∀ y∈runesU c f i s,y.1≤n∧y.2<2097152
 | [],_,_,_,_,_,_,_,y,h=>by cases h
 | b :: t,c,f,i,n,hc,hf,hi,y,h=>by
  rw [List.length_cons] at hi
  rw [runesU] at h
  split at h
  ·cases h
  ·rename_i c' e
   have hc':=hc.step e
   have hf':(if c.left=0 then i else f)≤n:=by split <;> omega
   split at h
   ·rename_i h0
    rcases List.mem_cons.1 h with rfl | h
    ·exact ⟨hf',hc'.2.1 h0⟩
    ·exact runes_le t c' _ _ n hc' hf' (by omega) y h
   ·exact runes_le t c' _ _ n hc' hf' (by omega) y h
theorem runes_any (s:List UInt8) (W:World) :
  Calls Tryz.prog 125 #[.string ⟨s.toArray⟩] W fun e w'=>e=.returned (.func (.func 153) #[] #[.pointer (some ⟨W.heap.size,0,none⟩)])∧W.alloc (.cells #[.string ⟨s.toArray⟩] 9)=w':=by
 go_enter Tryz.func125,Tryz.ntmps125
 go_wp2
 go_ret
 exact ⟨rfl,rfl⟩
theorem uwidth_any (x:Nat) (W:World) :
  Calls Tryz.prog 126 #[.int .i32 x] W fun e w'=>e=.returned (.int .i64 (widthU x))∧W=w':=by
 by_cases h1:x<128
 ·have hv:=hid (show widthU x=1 by unfold widthU;rw [if_pos h1])
  have a1:(x:Int)<128:=by omega
  go_enter Tryz.func126,Tryz.ntmps126
  go_wp2
  go_ret
  exact ⟨by rw [hv.out];rfl,rfl⟩
 ·by_cases h2:x<2048
  ·have hv:=hid (show widthU x=2 by unfold widthU;rw [if_neg h1,if_pos h2])
   have a1:¬(x:Int)<128:=by omega
   have a2:(x:Int)<2048:=by omega
   go_enter Tryz.func126,Tryz.ntmps126
   go_wp2
   go_ret
   exact ⟨by rw [hv.out];rfl,rfl⟩
  ·have a1:¬(x:Int)<128:=by omega
   have a2:¬(x:Int)<2048:=by omega
   by_cases h3:x<65536
   ·have hv:=hid (show widthU x=3 by unfold widthU;rw [if_neg h1,if_neg h2,if_pos h3])
    have a3:(x:Int)<65536:=by omega
    go_enter Tryz.func126,Tryz.ntmps126
    go_wp2
    go_ret
    exact ⟨by rw [hv.out];rfl,rfl⟩
   ·have hv:=hid (show widthU x=4 by unfold widthU;rw [if_neg h1,if_neg h2,if_neg h3])
    have a3:¬(x:Int)<65536:=by omega
    go_enter Tryz.func126,Tryz.ntmps126
    go_wp2
    go_ret
    exact ⟨by rw [hv.out];rfl,rfl⟩
def encU (y:Nat×Nat):Array Value:=#[.int .i64 y.1,.int .i32 y.2]
theorem UkAt.ch {B:Nat} {T:Nat→Prop} {W W':World} {k:Uk} (h:UkAt B W k) (hc:Ch T W W') (hB:¬T B):UkAt B W' k :=
 have cc:∀ {o v},W.cell? ⟨B,o,none⟩=some v→W'.cell? ⟨B,o,none⟩=some v:=fun {o v} hh=>(hc.cell (p:=⟨B,o,none⟩) (cell_lt hh) hB).trans hh
 ⟨cc h.c0,cc h.c1,cc h.c2,cc h.c3,h.c4.imp fun _ e=>cc e,cc h.c5,fun o=>(hc.frozen (p:=⟨B,o,none⟩) h.lt hB).trans (h.fz o),h.ok⟩
def RuRel (s:List UInt8) (J:List (Nat×Nat)→World→Prop) (W:World) (bv:Nat) (fr i:Value) (wr:World):Prop :=
 ∃ (k fn:Nat) (c:Uc) (pre:List (Nat×Nat)),k≤s.length∧fr=.int .i64 fn∧i=.int .i64 k∧runesU uc0 0 0 s=pre++runesU c fn k (s.drop k)∧UkAt W.heap.size wr ⟨c,false⟩∧J pre wr∧wr.cell? ⟨bv,0,none⟩=some (.string ⟨s.toArray⟩)
theorem runes_iter (s:List UInt8) (W0:World) (bv:Nat) (hv:W0.cell? ⟨bv,0,none⟩=some (.string ⟨s.toArray⟩)) (hs:s.length≤4611686018427387904) :
  IterO Tryz.prog 153 #[.pointer (some ⟨bv,0,none⟩)] encU (runesU uc0 0 0 s) (fun k=>k=bv) (fun _=>True) W0:=by
 intro W l J Jx U hsz hT hU hJ hJx _ hY h0
 have gv:W.cell? ⟨bv,0,none⟩=some (.string ⟨s.toArray⟩):=(World.cell?_of_block (hT bv rfl)).trans hv
 have hbv:bv<W.heap.size:=cell_lt gv
 have gA:=Gr.alloc W (.cells #[.int .i64 0,.int .u8 0,.int .u8 0,.int .i32 0,.int .i64 0,.bool false] 210)
 have gv2:=gA.cell gv
 have hst:=hid (show RuRel s J W bv (.int .i64 0) (.int .i64 0) (W.alloc (.cells #[.int .i64 0,.int .u8 0,.int .u8 0,.int .i32 0,.int .i64 0,.bool false] 210)) from
  ⟨0,0,uc0,[],Nat.zero_le _,rfl,rfl,rfl,⟨cell_new7 _ _ _ 0 _ rfl,cell_new7 _ _ _ 1 _ rfl,cell_new7 _ _ _ 2 _ rfl,cell_new7 _ _ _ 3 _ rfl,⟨0,cell_new7 _ _ _ 4 _ rfl⟩,cell_new7 _ _ _ 5 _ rfl,fun o=>World.frozen?_alloc_at _ _ _ _ rfl,uc0_ok⟩,hJ _ _ _ h0 (gA.to_ch _),gv2⟩)
 have hJ':=hid hJ
 have hJx':=hid hJx
 have hY':=hid hY
 have hU':=hid hU
 clear hJ hJx hY hU h0 hT hv gv gA
 have hfn:∀ f,Fence.wide.fn f:=fun _=>trivial
 have hdp:Fence.wide.depth=none:=rfl
 refine callsIn_of_wp Tryz.func153 rfl trivial ?_ rfl
 simp only [Tryz.ntmps153,List.size_toArray,List.length_cons,List.length_nil,Nat.reduceAdd,Nat.reduceSub,Array.replicate_succ,Array.replicate_zero,List.push_toArray,List.append_toArray,List.nil_append,List.cons_append]
 gi_wp2
 gi_loopw [4,8] (fun fr i wr=>RuRel s J W bv fr i wr) (fun _ i _=>s.length - (intOf i).toNat)
 case atStart=>exact hst.out
 case round =>
  clear gv2 hst
  obtain ⟨k,fn,c,pre,hk,rfl,rfl,hpre,hUk,hj,gv⟩:=hrel
  have hpre':=hid hpre
  have hj':=hid hj
  have hUk':=hid hUk
  have c0:=hUk.c0
  clear hpre hj hUk
  by_cases hlt:k<s.length
  ·obtain ⟨d,hd⟩:∃ d,(⟨s.toArray⟩:ByteArray)[k]'(by rw [size_mk];exact hlt)=d:=⟨_,rfl⟩
   have hsd:s[k]=d:=hd
   have hdr:=hid (show s.drop k=d :: s.drop (k+1) by rw [List.drop_eq_getElem_cons hlt,hsd])
   have hstp:=hid (ustep_any W.heap.size wr ⟨c,false⟩ d hUk'.out)
   obtain ⟨fn2,hfn2⟩:∃ fn2,(if c.left=0 then k else fn)=fn2:=⟨_,rfl⟩
   have hfn2':=hid hfn2
   clear hsd
   dsimp only at c0
   obtain ⟨o,ho⟩:∃ o,stepU c d=o:=⟨_,rfl⟩
   have ho':=hid ho
   dsimp only at hstp
   rw [ho] at hstp
   clear ho
   by_cases hl0:c.left=0
   ·rw [if_pos hl0] at hfn2
    subst hfn2
    rw [hl0] at c0
    clear hl0
    gi_wp2_with (fail)
    refine (callsIn_wide.2 hstp.out).mono ?_
    rintro e w2 ⟨rfl,hU2,hC2⟩
    have hJ2:=hid (hJ'.out _ _ _ hj'.out (hC2.mono (fun j e=>.inr (Nat.le_of_eq (show j=W.heap.size from e).symm))))
    have hs2:=hid (Nat.le_trans (Nat.le_of_lt hUk'.out.lt) hC2.size)
    have gv2:w2.cell? ⟨bv,0,none⟩=some (.string ⟨s.toArray⟩):=(hC2.cell (p:=⟨bv,0,none⟩) (cell_lt gv) (fun e=>absurd (show bv=W.heap.size from e) (Nat.ne_of_lt hbv))).trans gv
    cases o with
    | none =>
     have hfin:=hid (show runesU c fn k (s.drop k)=[] by rw [hdr.out,runesU,ho'.out])
     rw [show (none:Option Uc).isSome=false from rfl]
     clear hU2 hC2 c0 gv gv2
     gi_wp2_with (refine wpListIn_skip (by rfl) (by rfl) ?_)
     refine bodyPost_ret (results_none rfl _ _ _) rfl ?_
     refine ⟨rfl,.inl ?_⟩
     rw [hpre'.out,hfin.out,List.append_nil]
     exact hJ2.out
    | some c' =>
     rw [show (some c').isSome=true from rfl]
     have e0:=hU2.c0
     have e3:=hU2.c3
     have hU2':=hid hU2
     clear hU2 hC2 c0 gv
     simp only [Option.getD_some] at e0 e3
     by_cases hl:c'.left=0
     ·have hsp:=hid (show runesU c fn k (s.drop k)=(k,c'.x) :: runesU c' k (k+1) (s.drop (k+1)) by rw [hdr.out,runesU,ho'.out];dsimp only;rw [hfn2'.out,if_pos hl])
      have hY2:=hY'.out pre (k,c'.x) _ w2 (by rw [hpre'.out,hsp.out]) hs2.out hJ2.out
      unfold encU at hY2
      dsimp only at hY2
      obtain ⟨gn,tmps,assign,body,hy,hR⟩:=hY2
      rw [hl] at e0
      gi_wp2
      refine hR.mono ?_
      rintro e A (⟨rfl,hj2,hc2⟩ | ⟨rfl,hj2,hc2⟩)
      ·have hn:¬U W.heap.size:=fun e=>Nat.lt_irrefl _ (hU'.out _ e).1
       have hnb:¬U bv:=fun e=>(hU'.out _ e).2 rfl
       have hU3:=hid (hU2'.out.ch hc2 hn)
       have gv3:=hid ((hc2.cell (p:=⟨bv,0,none⟩) (cell_lt gv2) hnb).trans gv2)
       have hj3:=hid hj2
       clear hj2 hc2 e0 e3 gv2 hy hR
       gi_wp2
       go_roundw
       case rel=>exact ⟨k+1,k,c',pre++[(k,c'.x)],hlt,rfl,by simp,by rw [hpre'.out,hsp.out,List.append_assoc];rfl,hU3.out,hj3.out,gv3.out⟩
       case measure=>simp [intOf];omega
      ·gi_wp2
       refine bodyPost_ret (results_none rfl _ _ _) rfl ?_
       exact ⟨rfl,.inr ⟨pre++[(k,c'.x)],⟨runesU c' k (k+1) (s.drop (k+1)),by rw [hpre'.out,hsp.out,List.append_assoc];rfl⟩,hj2⟩⟩
     ·have hl0:((c'.left:Int)==0)=false:=beq_eq_false_iff_ne.2 (by omega)
      have hsp:=hid (show runesU c fn k (s.drop k)=runesU c' k (k+1) (s.drop (k+1)) by rw [hdr.out,runesU,ho'.out];dsimp only;rw [hfn2'.out,if_neg hl])
      gi_wp2
      go_roundw
      case rel=>exact ⟨k+1,k,c',pre,hlt,rfl,by simp,by rw [hpre'.out,hsp.out],hU2'.out,hJ2.out,gv2⟩
      case measure=>simp [intOf];omega
   ·have hz:((c.left:Int)==0)=false:=beq_eq_false_iff_ne.2 (by omega)
    rw [if_neg hl0] at hfn2
    subst hfn2
    gi_wp2_with (fail)
    refine (callsIn_wide.2 hstp.out).mono ?_
    rintro e w2 ⟨rfl,hU2,hC2⟩
    have hJ2:=hid (hJ'.out _ _ _ hj'.out (hC2.mono (fun j e=>.inr (Nat.le_of_eq (show j=W.heap.size from e).symm))))
    have hs2:=hid (Nat.le_trans (Nat.le_of_lt hUk'.out.lt) hC2.size)
    have gv2:w2.cell? ⟨bv,0,none⟩=some (.string ⟨s.toArray⟩):=(hC2.cell (p:=⟨bv,0,none⟩) (cell_lt gv) (fun e=>absurd (show bv=W.heap.size from e) (Nat.ne_of_lt hbv))).trans gv
    cases o with
    | none =>
     have hfin:=hid (show runesU c fn k (s.drop k)=[] by rw [hdr.out,runesU,ho'.out])
     rw [show (none:Option Uc).isSome=false from rfl]
     clear hU2 hC2 c0 gv gv2
     gi_wp2_with (refine wpListIn_skip (by rfl) (by rfl) ?_)
     refine bodyPost_ret (results_none rfl _ _ _) rfl ?_
     refine ⟨rfl,.inl ?_⟩
     rw [hpre'.out,hfin.out,List.append_nil]
     exact hJ2.out
    | some c' =>
     rw [show (some c').isSome=true from rfl]
     have e0:=hU2.c0
     have e3:=hU2.c3
     have hU2':=hid hU2
     clear hU2 hC2 c0 gv
     simp only [Option.getD_some] at e0 e3
     by_cases hl:c'.left=0
     ·have hsp:=hid (show runesU c fn k (s.drop k)=(fn,c'.x) :: runesU c' fn (k+1) (s.drop (k+1)) by rw [hdr.out,runesU,ho'.out];dsimp only;rw [hfn2'.out,if_pos hl])
      have hY2:=hY'.out pre (fn,c'.x) _ w2 (by rw [hpre'.out,hsp.out]) hs2.out hJ2.out
      unfold encU at hY2
      dsimp only at hY2
      obtain ⟨gn,tmps,assign,body,hy,hR⟩:=hY2
      rw [hl] at e0
      gi_wp2
      refine hR.mono ?_
      rintro e A (⟨rfl,hj2,hc2⟩ | ⟨rfl,hj2,hc2⟩)
      ·have hn:¬U W.heap.size:=fun e=>Nat.lt_irrefl _ (hU'.out _ e).1
       have hnb:¬U bv:=fun e=>(hU'.out _ e).2 rfl
       have hU3:=hid (hU2'.out.ch hc2 hn)
       have gv3:=hid ((hc2.cell (p:=⟨bv,0,none⟩) (cell_lt gv2) hnb).trans gv2)
       have hj3:=hid hj2
       clear hj2 hc2 e0 e3 gv2 hy hR
       gi_wp2
       go_roundw
       case rel=>exact ⟨k+1,fn,c',pre++[(fn,c'.x)],hlt,rfl,by simp,by rw [hpre'.out,hsp.out,List.append_assoc];rfl,hU3.out,hj3.out,gv3.out⟩
       case measure=>simp [intOf];omega
      ·gi_wp2
       refine bodyPost_ret (results_none rfl _ _ _) rfl ?_
       exact ⟨rfl,.inr ⟨pre++[(fn,c'.x)],⟨runesU c' fn (k+1) (s.drop (k+1)),by rw [hpre'.out,hsp.out,List.append_assoc];rfl⟩,hj2⟩⟩
     ·have hl0:((c'.left:Int)==0)=false:=beq_eq_false_iff_ne.2 (by omega)
      have hsp:=hid (show runesU c fn k (s.drop k)=runesU c' fn (k+1) (s.drop (k+1)) by rw [hdr.out,runesU,ho'.out];dsimp only;rw [hfn2'.out,if_neg hl])
      gi_wp2
      go_roundw
      case rel=>exact ⟨k+1,fn,c',pre,hlt,rfl,by simp,by rw [hpre'.out,hsp.out],hU2'.out,hJ2.out,gv2⟩
      case measure=>simp [intOf];omega
  ·obtain rfl:k=s.length:=by omega
   have hJ2:=hid (show J (runesU uc0 0 0 s) wr by rw [hpre'.out,List.drop_length,runesU,List.append_nil];exact hj'.out)
   gi_wp2
   go_end0
   exact ⟨rfl,.inl hJ2.out⟩
theorem endU_snoc (l:List (Nat×Nat)) (y:Nat×Nat):endU (l++[y])=y.1+widthU y.2:=by unfold endU;rw [List.foldl_append];rfl
theorem widthU_le (x:Nat):widthU x≤4:=by
 unfold widthU
 repeat' split
 all_goals omega
theorem uvalid_any (s:List UInt8) (w:World) (hs:s.length≤4611686018427387904) :
  Calls Tryz.prog 104 #[.string ⟨s.toArray⟩] w fun e w'=>e=.returned (.bool (validU s))∧Gr w w':=by
 refine (callsIn_wide (n:=0)).1 ?_
 have hfn:∀ f,Fence.wide.fn f:=fun _=>trivial
 have hdp:Fence.wide.depth=none:=rfl
 refine callsIn_of_wp_marks Tryz.func104 rfl trivial ?_ rfl
 simp only [Tryz.ntmps104,List.size_toArray,List.length_cons,List.length_nil,Nat.reduceAdd,Nat.reduceSub,Array.replicate_succ,Array.replicate_zero,List.push_toArray,List.append_toArray,List.nil_append,List.cons_append]
 gi_wp2_with (gi_at_call 125;refine (callsIn_wide.2 (runes_any s _)).mono ?_;rintro e w' ⟨rfl,rfl⟩)
 obtain ⟨w3,hw3⟩:∃ w3,(w.alloc (.cells #[.int .i64 0] 3)).alloc (.cells #[.string ⟨s.toArray⟩] 9)=w3:=⟨_,rfl⟩
 rw [hw3]
 have hs3:=hid (show w3.heap.size=w.heap.size+2 by rw [←hw3];simp)
 have c0:w3.cell? ⟨w.heap.size,0,none⟩=some (.int .i64 0):=by rw [←hw3];simp [go_sem]
 have k0:w3.frozen? ⟨w.heap.size,0,none⟩=false:=by rw [←hw3];simp [go_sem]
 have c1:w3.cell? ⟨w.heap.size+1,0,none⟩=some (.string ⟨s.toArray⟩):=by rw [←hw3];simp [go_sem]
 have hg3:Gr w w3:=by rw [←hw3];exact (Gr.alloc w _).alloc1 _
 clear hw3
 refine wpIn_range2 (gf:=153) rfl (enters_of Tryz.func153 (by kernel_rfl) rfl) (runes_iter s w3 _ c1 hs) (Nat.le_refl _) (fun k hk=>⟨by rw [hs3.out];(try dsimp only at hk);omega,rfl⟩) (fun _=>rfl)
  (fun pre A=>Gr w A∧w3.heap.size≤A.heap.size∧A.cell? ⟨w.heap.size,0,none⟩=some (.int .i64 (endU pre:Nat))∧A.frozen? ⟨w.heap.size,0,none⟩=false)
  (fun _ _ _=>False) (fun k=>k=w.heap.size)
  (fun k hk=>⟨by rw [hs3.out];(try dsimp only at hk);omega,by (try dsimp only at hk ⊢);omega⟩) ?hI (fun _ _ _ _ h _=>h.elim) (fun _ _ _=>trivial) ⟨hg3,Nat.le_refl _,c0,k0⟩ ?round ?done (fun _ _ _ _ _ _ h _=>h.elim)
 case hI =>
  rintro pre A B ⟨h1,h2,h3,h4⟩ hch
  have e:=hs3.out
  have hn:¬(w.heap.size=w.heap.size+1∨w3.heap.size≤w.heap.size):=by omega
  exact ⟨h1.ch hch (fun k hk=>by omega),Nat.le_trans h2 hch.size,(hch.cell (p:=⟨w.heap.size,0,none⟩) (cell_lt h3) hn).trans h3,(hch.frozen (p:=⟨w.heap.size,0,none⟩) (show w.heap.size<A.heap.size from cell_lt h3) hn).trans h4⟩
 case round =>
  intro l' pre x rest A hl' hlt hxs hI
  obtain ⟨h1,h2,h3,h4⟩:=hI
  obtain ⟨x1,x2⟩:=x
  have hx:=runes_le s uc0 0 0 s.length uc0_ok (Nat.zero_le _) (by omega) (x1,x2) (by rw [hxs];simp)
  dsimp only at hx
  have hwl:=widthU_le x2
  have e:=hs3.out
  have hne0:¬(w.heap.size=l'):=by omega
  have hz0:w.heap.size<A.heap.size:=by omega
  have hll:w.heap.size≤l':=by omega
  have hwd:=hid (uwidth_any x2)
  have hend:=hid (endU_snoc pre (x1,x2))
  obtain ⟨hx1,hx2⟩:=hx
  have hwr:IntKind.i64.wrap ((x1:Int)+(widthU x2:Nat))=(x1:Int)+(widthU x2:Nat):=IntWalk.i64_in _ (by omega)
  clear e hxs
  unfold encU
  gi_wp2
  refine ⟨Ch.refl _ _,fun A2 hA2=>?_⟩
  have d0:A2.cell? ⟨w.heap.size,0,none⟩=some (.int .i64 (endU pre:Nat)):=(hA2.cell (p:=⟨w.heap.size,0,none⟩) hz0 hne0).trans h3
  have dk:A2.frozen? ⟨w.heap.size,0,none⟩=false:=(hA2.frozen (p:=⟨w.heap.size,0,none⟩) hz0 hne0).trans h4
  have hg2:=hid (show Gr w A2 from h1.ch hA2 (fun k hk=>by (try dsimp only at hk);omega))
  have hsz2:=hid (Nat.le_trans h2 hA2.size)
  clear h3 h4 h1 hA2
  gi_wp2_with (fail)
  refine (CallsIn.inRound l' (callsIn_wide.2 (hwd.out A2))).mono ?_
  rintro e A3 ⟨rfl,rfl⟩
  gi_wp2
  refine ⟨Ch.setCell (T:=fun k=>k=w.heap.size) _ rfl _,hg2.out.setCell (Nat.le_refl _) _,by rw [World.size_setCell];exact hsz2.out,?_,by rw [frozen_set];exact dk⟩
  rw [cell_set_same d0,hend.out]
  simp
 case done =>
  rintro D A hD ⟨h1,h2,h3,h4⟩ hK
  obtain ⟨n,hn⟩:∃ n,endU (runesU uc0 0 0 s)=n:=⟨_,rfl⟩
  rw [hn] at h3
  have hDn:D≠w.heap.size:=by have:=hs3.out;omega
  have hDw:w.heap.size≤D:=by have:=hs3.out;omega
  have hv:=hid (show validU s=(n==s.length) by unfold validU;rw [hn])
  have hb:((n:Int)==(s.length:Int))=(n==s.length):=by
   cases hh:(n==s.length)
   ·have:=beq_eq_false_iff_ne.1 hh
    exact beq_eq_false_iff_ne.2 (by omega)
   ·have:=eq_of_beq hh
    subst this
    simp
  have hDn':=hid hDn
  clear hDn
  gi_wp2
  refine ⟨by simp,.inl ⟨_,_,rfl,run_takeDeferred hK,?_⟩⟩
  refine ⟨.bool (n==s.length),by simp [results,Tryz.results104,go_sem],by rw [hv.out],?_⟩
  exact h1.ch (Ch.putObj (T:=fun k=>k=D) _ rfl _) (fun k hk=>by (try dsimp only at hk);omega)
end Go.Proofs.YtadobobfjnmdlaaGreatDoor
