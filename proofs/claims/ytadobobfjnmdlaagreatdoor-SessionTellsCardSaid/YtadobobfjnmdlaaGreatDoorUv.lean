/-
  The check of texts in memory: new, a text's bytes, whole.
-/
import Derived.Test.YtadobobfjnmdlaaGreatDoorUw
import Derived.BigGuardIn
set_option linter.unnecessarySimpa false
set_option linter.unusedVariables false
set_option linter.unusedSimpArgs false
set_option maxHeartbeats 16000000
set_option maxRecDepth 100000
open Go.Proofs.Tryz
namespace Go.Proofs.YtadobobfjnmdlaaGreatDoor
open Go.RowKit
attribute [local go_sem] Oper.semAt_some
theorem UkAt.sbad {B:Nat}{W:World}{k:Uk}(h:UkAt B W k)(b:Bool):UkAt B (W.setCell ⟨B,5,none⟩ (.bool b)) { k with bad:=b }:=by
 refine⟨?_,?_,?_,?_,h.c4.imp λn e=>?_,?_,λo=>by rw[ag];exact h.fz o,h.ok⟩;all_goals simp[go_sem,h.c0,h.c1,h.c2,h.c3,h.c5]
 exact e
theorem UkAt.sat {B:Nat}{W:World}{k:Uk}(h:UkAt B W k)(n:Int):UkAt B (W.setCell ⟨B,4,none⟩ (.int .i64 n)) k:=by
 obtain⟨m,hm⟩:=h.c4;refine⟨?_,?_,?_,?_,⟨n,?_⟩,?_,λo=>by rw[ag];exact h.fz o,h.ok⟩;all_goals simp[go_sem,h.c0,h.c1,h.c2,h.c3,h.c5,hm]
theorem ot {B:Nat}{W:World}{k:Uk}(h:UkAt B W k) :
  Calls prog 187 #[.pointer (some ⟨B,0,none⟩)] W λe w'=>e=.returned (.bool (jm k))∧W=w':=by
 have c0:=h.c0;have c5:=h.c5;clear h;obtain⟨⟨l,b,hi,x⟩,bad⟩:=k;dsimp only at c0 c5;cases bad with
 | true =>
  go_enter func187,ntmps187;go_wp2;go_ret;exact⟨rfl,rfl⟩
 | false =>
  by_cases hl:l=0
  ·subst hl;go_enter func187,ntmps187;go_wp2;go_ret;exact⟨rfl,rfl⟩
  ·have c:((l:Int)==0)=false:=qk.2 (by omega);have a:=qq (show jm ⟨⟨l,b,hi,x⟩,false⟩=false by unfold jm;simp[hl]);go_enter func187,ntmps187;go_wp2;go_ret;exact⟨by rw[a.out];rfl,rfl⟩
theorem wP:UcOk uc0:=⟨by decide,by decide,by decide,by decide,by decide⟩
theorem tS (W:World) :
  Calls prog 185 #[] W λe w'=>e=.returned (.pointer (some ⟨W.heap.size,0,none⟩))∧UkAt W.heap.size w' uk0∧Gr W w':=by
 go_enter func185,ntmps185;go_wp2;refine bodyPost_ret (v:=.pointer (some ⟨W.heap.size,0,none⟩)) (by simp[results,results185,go_sem]) rfl ⟨rfl,?_,Gr.alloc _ _⟩;exact⟨aa _ _ _ 0 _ rfl,aa _ _ _ 1 _ rfl,aa _ _ _ 2 _ rfl,aa _ _ _ 3 _ rfl,⟨0,aa _ _ _ 4 _ rfl⟩,aa _ _ _ 5 _ rfl,λo=>World.frozen?_alloc_at _ _ _ _ rfl,wP⟩
def EN (B:Nat)(W:World)(k:Uk)(s:List UInt8)(i:Value)(wr:World):Prop :=
 ∃j r,j≤s.length∧i=.int .i64 (j:Nat)∧UkAt B wr r∧Ch (λn=>n=B) W wr∧bG k s=bG r (s.drop j)
theorem Aw (B:Nat)(W:World)(k:Uk)(s:List UInt8)(h:UkAt B W k)(hl:s.length≤4611686018427387904) :
  Calls prog 186 #[.pointer (some ⟨B,0,none⟩),.string ⟨s.toArray⟩] W λe w'=>e=.returned (.bool (!(bG k s).bad))∧UkAt B w' (bG k s)∧Ch (λn=>n=B) W w':=by
 have H:=qq (show EN B W k s (.int .i64 0) W from⟨0,k,qx _,rfl,h,Ch.refl _ _,rfl⟩);clear h;go_enter func186,ntmps186;go_wp2;go_loopw [5] (λi wr=>EN B W k s i wr) (λi _=>s.length - (intOf i).toNat)
 case atStart=>exact H.out
 case round =>
  obtain⟨j,r,N,rfl,x,E,y⟩:=hrel;have z:=qq x;have p:=qq E;have C:=qq y;have c5:=x.c5;by_cases t:j<s.length
  ·cases v:r.bad with
   | true =>
    rw[v]at c5;have b:=qq (show bG k s=r by rw[y,em r v]);have q:=qq v;clear x E y v;go_wp2;go_ret;exact⟨by rw[b.out,q.out];rfl,by rw[b.out];exact z.out,p.out⟩
   | false =>
    rw[v]at c5;have q:=qq v;obtain⟨d,M⟩:∃d,(⟨s.toArray⟩:ByteArray)[j]'(by rw[aj];exact t)=d:=⟨_,rfl⟩;have D:s[j]=d:=M;have f:=qq (pW B wr r d x);have A:=qq (show s.drop j=d :: s.drop (j+1) by rw[List.drop_eq_getElem_cons t,D]);clear x E y v D;cases hs:ei r.c d with
    | none =>
     have F:=qq hs;rw[hs]at f;have w:=qq (show bG k s=bG { r with bad:=true } (s.drop (j+1)) by
      rw[C.out,A.out,fp,q.out,if_neg (by decide),hs,em _ rfl])
     clear hs;go_wp2_with fail;refine(f.out).mono ?_;rintro e I⟨rfl,o,g⟩;have m:=o.sbad true;have u:=qq m;have l:=qq (p.out.trans (g.trans (Ch.setCell (T:=λn=>n=B) I (a:=⟨B,5,none⟩) rfl (.bool true))));have J:=o.c5;have L:=o.fz;clear o g m;go_wp2;go_round
     case rel=>exact⟨j+1,{ r with bad:=true },t,by go_num,u.out,l.out,w.out⟩
     case measure=>simp[intOf];omega
    | some c' =>
     have F:=qq hs;rw[hs]at f;have w:=qq (show bG k s=bG ⟨c',false⟩ (s.drop (j+1)) by
      rw[C.out,A.out,fp,q.out,if_neg (by decide),hs])
     clear hs;go_wp2_with fail;refine(f.out).mono ?_;rintro e I⟨rfl,o,g⟩;obtain⟨n,hn⟩:=o.c4;have m:=o.sbad false;have u:=qq m;have l:=qq (p.out.trans (g.trans (Ch.setCell (T:=λn=>n=B) I (a:=⟨B,5,none⟩) rfl (.bool false))));have J:=o.c5;have L:=o.fz;clear o g m;go_wp2;go_round
     case rel=>exact⟨j+1,⟨c',false⟩,t,by go_num,u.out.sat _,l.out.trans (Ch.setCell (T:=λn=>n=B) _ (a:=⟨B,4,none⟩) rfl _),w.out⟩
     case measure=>simp[intOf];omega
  ·obtain rfl:j=s.length:=(by omega);have b:=qq (show bG k s=r by rw[y,List.drop_length];rfl);clear x E y;go_wp2;go_ret;exact⟨by rw[b.out];rfl,by rw[b.out];exact z.out,p.out⟩
end Go.Proofs.YtadobobfjnmdlaaGreatDoor
namespace Go
open Go.RowKit
def xT {α:Type}(P:Program)(gf:Nat)(lb:Array Value)(encs:α→Array Value)(xs:List α)(T:Nat→Prop)(Gp:World→Prop)(W0:World):Prop :=
 ∀(W:World) (l:Nat) (J Jx:List α→World→Prop) (U:Nat→Prop),
  W0.heap.size≤W.heap.size→(∀k,T k→W.heap[k]?=W0.heap[k]?) →
  (∀k,U k→k<W.heap.size∧¬T k) →
  (∀pre A B,J pre A→Ch (λk=>T k∨W.heap.size≤k) A B→J pre B) →
  (∀pre A B,Jx pre A→Ch (λk=>T k∨W.heap.size≤k) A B→Jx pre B) →
  (∀pre A,J pre A→Gp A) →
  (∀pre x rest A,xs=pre++x :: rest→W.heap.size≤A.heap.size→J pre A→YAt P l (encs x) A λe B =>
   (e=.returned (.bool true)∧J (pre++[x]) B∧Ch U A B)∨(e=.returned (.bool false)∧Jx (pre++[x]) B∧Ch U A B)) →
  J [] W →
  CallsIn Fence.wide 0 P gf (#[.func (.yield l) #[] #[]]++lb) W λe W'=>e=.returned (.tuple #[])∧(J xs W'∨∃pre,pre <+: xs∧Jx pre W')
theorem iJ {α:Type}{P:Program}{g:Operand}{ps:Array Tmp}{assign body:Code}{Q:Exit→Act→World→Prop}{a:Act}{w:World}
  {gf:Nat} {lb:Array Value} (hg:a.eval g=.func (.func gf) #[] lb) (eg:∀args w,(callFunc gf args).run P w=.ok (.enter gf args) w)
  {z:α→Array Value} {xs:List α} {T:Nat→Prop} {Gp:World→Prop} {W0:World} (b7:xT P gf lb z xs T Gp W0)
  (c2:W0.heap.size≤w.heap.size) (hT:∀k,T k→k<w.heap.size∧w.heap[k]?=W0.heap[k]?) (c0:∀x,(z x).size=ps.size)
  (I:List α→World→Prop) (Ix:Code→List α→World→Prop) (U:Nat→Prop) (hU:∀k,U k→k<w.heap.size∧¬T k)
  (hI:∀b A B,I b A→Ch (λk=>T k∨w.heap.size≤k) A B→I b B)
  (F:∀c b A B,Ix c b A→Ch (λk=>T k∨w.heap.size≤k) A B→Ix c b B)
  (b0:∀b A,I b A→Gp A) (h0:I [] w)
  (M:∀(l:Nat) (b:List α) (x:α) (rest:List α) (A:World),(w.heap.size+1≤l∧l≤w.heap.size+1)→w.heap.size+2≤A.heap.size→xs=b++x :: rest→I b A →
   assign.wpIn (Fence.wide.inRound l) 0 P (Exit.then (λa₁ J=>Ch U A J∧∀A₂,Ch (·=l) J A₂→body.wpIn (Fence.wide.inRound l) 0 P (Cn U I Ix (b++[x]) A₂) a₁ A₂) (λ_ _ _=>False))
    { tmps:=(ps.zip (z x)).foldl (λt (p,v)=>t.setIfInBounds p v) a.tmps,defers:=[] } A)
  (V:∀(D:Nat) (W:World),(w.heap.size≤D∧D≤w.heap.size)→I xs W→W.heap[D]?=some (.deferred (some []))→Q .normal { a with defers:={ target:=.collected D,args:=#[] } :: a.defers } W)
  (Y:∀(D:Nat) (c:Code) (b:List α) (W:World),(w.heap.size≤D∧D≤w.heap.size)→b <+: xs→Ix c b W→W.heap[D]?=some (.deferred (some []))→c.wpIn Fence.wide 0 P Q { a with defers:={ target:=.collected D,args:=#[] } :: a.defers } W) :
  (Code.rangeFunc g ps assign body).wpIn Fence.wide 0 P Q a w:=by
 refine wpIn_rangeFunc ?_;intro fn b6;rw[show Fence.wide.round=none from rfl];obtain⟨f,i⟩:∃f:LoopState→Option Code→Loop,f=λst pe=>{ state:=st,pending:=pe,fn,tmps:=a.tmps,params:=ps,assign,body,defers:=w.heap.size }:=⟨_,rfl⟩;obtain⟨C,H⟩:∃C,(w.alloc (.deferred (some []))).alloc (.loop (f .ready none))=C:=⟨_,rfl⟩;have b2:C.heap[w.heap.size+1]?=some (.loop (f .ready none)):=by
  rw[←H];have:=World.alloc_heap_new (w.alloc (.deferred (some []))) (.loop (f .ready none));rwa [World.size_alloc]at this
 have b1:C.heap[w.heap.size]?=some (.deferred (some [])):=by
  rw[←H];exact(Below.heap_alloc _ _ _ (by simp)).trans (World.alloc_heap_new w _)
 have N:∀T',Ch T' w C:=λT'=>by rw[←H];exact(Ch.alloc _ _ _).trans (Ch.alloc _ _ _)
 have E:C.heap.size=w.heap.size+2:=by rw[←H];simp
 have a9:I [] C:=hI _ _ _ h0 (N _);have a0:∀k,w.heap.size≤k→¬T k:=λk j ht=>by have:=(hT k ht).1;omega
 have L:∀k,w.heap.size≤k→k<w.heap.size+2→¬U k:=λk j a1 ht=>by have:=(hU k ht).1;omega
 refine⟨w.heap.size+1,[{ target:=.collected w.heap.size,args:=#[] }],C,{ target:=.fn (.func gf) lb,args:=#[.func (.yield (w.heap.size+1)) #[] #[]] },C,gf,
  #[.func (.yield (w.heap.size+1)) #[] #[]]++lb,C,?_,?_,λ_ _=>trivial,?_,λh=>by simp[Fence.wide]at h,?_⟩
 ·rw[←H,i];exact run_enterLoop_outer _ _ _ _ _
 ·simp only[resolve,hg];simp[go_sem]
 ·simp[invoke,go_sem,eg]
 ·have bk:∀ {A B:World} {o:Obj} {k:Nat},w.heap.size≤k→k<w.heap.size+2→A.heap[k]?=some o→Ch (λk=>T k∨C.heap.size≤k) A B→B.heap[k]?=some o:=fun {A B o k} h1 h2 h3 h4 =>
   h4.get h3 (λe=>by
    rcases e with e | e
    ·exact a0 _ h1 e
    ·rw[E]at e;omega)
  have a8:∀ {A B:World},Ch (λk=>T k∨C.heap.size≤k) A B→Ch (λk=>T k∨w.heap.size≤k) A B:=λh =>
   h.mono (λk j=>by rcases j with j | j;exact .inl j;exact .inr (by rw[E]at j;omega))
  refine(b7 C (w.heap.size+1)
   (λb W=>I b W∧W.heap[w.heap.size+1]?=some (.loop (f .ready none))∧W.heap[w.heap.size]?=some (.deferred (some [])))
   (λb W=>∃c,Ix c b W∧W.heap[w.heap.size+1]?=some (.loop (f .done (some c)))∧W.heap[w.heap.size]?=some (.deferred (some [])))
   (λk=>U k∨k=w.heap.size+1)
   (by rw[E];omega) (λk j=>((N (λ_=>False)).block k (hT k j).1 (λh=>h)).trans (hT k j).2)
   (λk j=>by
    rcases j with j | j
    ·exact⟨by have:=(hU k j).1;rw[E];omega,(hU k j).2⟩
    ·subst j;exact⟨by rw[E];omega,a0 _ (Nat.le_succ _)⟩)
   (λb A B hs R=>⟨hI _ _ _ hs.1 (a8 R),bk (Nat.le_succ _) (by omega) hs.2.1 R,bk (qv _) (by omega) hs.2.2 R⟩)
   (λb A B hs R=>by
    obtain⟨c,b3,b4,b5⟩:=hs;exact⟨c,F _ _ _ _ b3 (a8 R),bk (Nat.le_succ _) (by omega) b4 R,bk (qv _) (by omega) b5 R⟩)
   (λb A hs=>b0 _ _ hs.1) ?_ ⟨a9,b2,b1⟩).mono ?_
  ·rintro b x rest A c1 a7⟨hi,hl,j⟩;have c3:w.heap.size+1<A.heap.size:=(Array.getElem?_eq_some_iff.1 hl).1;have hy:=run_yield (P:=P) (args:=z x) hl (by rw[i];exact c0 x);rw[i]at hy;refine⟨fn,_,assign,body,hy,roundIn_of_wpIn b6 ?_⟩;clear hy;refine wpIn_mono (M (w.heap.size+1) b x rest A ⟨qv _,qv _⟩ (by rw[E]at a7;exact a7) c1 hi) ?_;rintro e a₁ J Z;cases e with
   | normal =>
    obtain⟨S,O⟩:=Z;have a2:J.heap[w.heap.size+1]?=some (.loop (f .ready none)):=S.get hl (L _ (Nat.le_succ _) (by omega));have b8:J.heap[w.heap.size]?=some (.deferred (some [])):=S.get j (L _ (qv _) (by omega));have a5:w.heap.size+1<J.heap.size:=(Array.getElem?_eq_some_iff.1 a2).1;refine⟨_,run_beginRound a2 (by rw[i]),?_⟩;refine wpIn_mono (O _ (Ch.putObj (T:=λk=>k=w.heap.size+1) _ rfl _)) ?_;have b9:(J.putObj (w.heap.size+1) (.loop { f .ready none with state:=.busy })).heap[w.heap.size+1]?=some (.loop { f .ready none with state:=.busy }):=World.putObj_heap_same a5;have a1:(J.putObj (w.heap.size+1) (.loop { f .ready none with state:=.busy })).heap[w.heap.size]?=some (.deferred (some [])):=(World.putObj_heap_other (by omega)).trans b8;have fin:∀(d:Option Code) (n:World),Ch U (J.putObj (w.heap.size+1) (.loop { f .ready none with state:=.busy })) n →
      (Instr.endRound (w.heap.size+1) d).run P n=.ok (.bool d.isNone) (n.putObj (w.heap.size+1) (.loop (f (if d.isNone then .ready else .done) d))) ∧
      (n.putObj (w.heap.size+1) (.loop (f (if d.isNone then .ready else .done) d))).heap[w.heap.size+1]?=some (.loop (f (if d.isNone then .ready else .done) d)) ∧
      (n.putObj (w.heap.size+1) (.loop (f (if d.isNone then .ready else .done) d))).heap[w.heap.size]?=some (.deferred (some [])) ∧
      Ch (λk=>U k∨k=w.heap.size+1) A (n.putObj (w.heap.size+1) (.loop (f (if d.isNone then .ready else .done) d))) ∧
      Ch (λk=>T k∨w.heap.size≤k) n (n.putObj (w.heap.size+1) (.loop (f (if d.isNone then .ready else .done) d))):=λd n m=>by
     have a4:n.heap[w.heap.size+1]?=some (.loop { f .ready none with state:=.busy }):=m.get b9 (L _ (Nat.le_succ _) (by omega));have:=run_endRound (P:=P) d a4;rw[i]at this ⊢;exact⟨this,World.putObj_heap_same (Array.getElem?_eq_some_iff.1 a4).1,(World.putObj_heap_other (by omega)).trans (m.get a1 (L _ (qv _) (by omega))),
      (((S.mono (λ_ h=>.inl h)).trans (Ch.putObj _ (.inr rfl) _)).trans (m.mono (λ_ h=>.inl h))).trans (Ch.putObj _ (.inr rfl) _),Ch.putObj _ (.inr (Nat.le_succ _)) _⟩
    rintro e a3 n hp;cases e with
    | normal =>
     obtain⟨m,r⟩:=hp;obtain⟨X,u,s,q,y⟩:=fin none n m;exact⟨_,_,X,.inl ⟨rfl,⟨hI _ _ _ r y,u,s⟩,q⟩⟩
    | ret =>
     obtain⟨m,r⟩:=hp;obtain⟨X,u,s,q,y⟩:=fin (some .ret) n m;exact⟨_,_,X,.inr ⟨rfl,⟨_,F _ _ _ _ r y,u,s⟩,q⟩⟩
    | exit id =>
     obtain⟨m,r⟩:=hp;obtain⟨X,u,s,q,y⟩:=fin (some (.exit id)) n m;exact⟨_,_,X,.inr ⟨rfl,⟨_,F _ _ _ _ r y,u,s⟩,q⟩⟩
    | goto t =>
     obtain⟨m,r⟩:=hp;obtain⟨X,u,s,q,y⟩:=fin (some (.goto t)) n m;exact⟨_,_,X,.inr ⟨rfl,⟨_,F _ _ _ _ r y,u,s⟩,q⟩⟩
    | panic ch=>exact hp.elim
    | outgrown=>exact hp.elim
   | ret=>exact Z.elim
   | exit id=>exact Z.elim
   | goto t=>exact Z.elim
   | panic ch=>exact Z.elim
   | outgrown=>exact Z.elim
  ·rintro e W2⟨rfl,(⟨hi,hl,j⟩ | ⟨b,a6,c,hi,hl,j⟩)⟩
   ·exact⟨none,_,by have:=run_endLoop (P:=P) hl (by rw[i];simp);rw[i]at this;exact this,V _ _ ⟨qv _,qv _⟩ (hI _ _ _ hi (Ch.putObj _ (.inr (Nat.le_succ _)) _)) ((World.putObj_heap_other (by omega)).trans j)⟩
   ·exact⟨some c,_,by have:=run_endLoop (P:=P) hl (by rw[i];simp);rw[i]at this;exact this,Y _ c b _ ⟨qv _,qv _⟩ a6 (F _ _ _ _ hi (Ch.putObj _ (.inr (Nat.le_succ _)) _)) ((World.putObj_heap_other (by omega)).trans j)⟩
def EO {α:Type}(P:Program)(gf:Nat)(lb:Array Value)(encs:α→Array Value)(M:α→World→World→Prop)(N:World→World→Prop)(W0:World):Prop :=
 ∀(W:World) (l:Nat) (Jx:World→Prop),Gr W0 W →
  (∀x A,M x W A→YAt P l (encs x) A λe B=>e=.returned (.bool false)∧Jx B) →
  CallsIn Fence.wide 0 P gf (#[.func (.yield l) #[] #[]]++lb) W λe W'=>e=.returned (.tuple #[])∧(N W W'∨Jx W')
theorem tT {α:Type}{P:Program}{g:Operand}{ps:Array Tmp}{assign body:Code}{Q:Exit→Act→World→Prop}{a:Act}{w:World}
  {gf:Nat} {lb:Array Value} (hg:a.eval g=.func (.func gf) #[] lb) (eg:∀args w,(callFunc gf args).run P w=.ok (.enter gf args) w)
  {j:α→Array Value} {M:α→World→World→Prop} {N:World→World→Prop} (a8:EO P gf lb j M N w) (T:Nat→Prop)
  (hT:∀k,T k→k<w.heap.size) (hM:∀x A B,M x A B→Ch T A B) (hN:∀A B,N A B→Ch T A B) (b1:∀x,(j x).size=ps.size)
  (S:Code→World→Prop) (U:Nat→Prop) (hU:∀k,U k→k<w.heap.size∨w.heap.size+2≤k)
  (y:∀c A B,S c A→Ch (λk=>k=w.heap.size+1) A B→S c B)
  (E:∀(l:Nat) (x:α) (f A:World),(w.heap.size+1≤l∧l≤w.heap.size+1)→Gr w f→f.heap.size=w.heap.size+2→M x f A →
   assign.wpIn (Fence.wide.inRound l) 0 P (Exit.then (λa₁ u=>Ch U A u∧∀A₂,Ch (·=l) u A₂→body.wpIn (Fence.wide.inRound l) 0 P (Cn U (λ(_:List α) _=>False) (λc _ W'=>S c W') [x] A₂) a₁ A₂) (λ_ _ _=>False))
    { tmps:=(ps.zip (j x)).foldl (λt (p,v)=>t.setIfInBounds p v) a.tmps,defers:=[] } A)
  (H:∀(D:Nat) (f W2 W:World),(w.heap.size≤D∧D≤w.heap.size)→Gr w f→f.heap.size=w.heap.size+2→N f W2→Ch (λk=>k=w.heap.size+1) W2 W→W.heap[D]?=some (.deferred (some []))→Q .normal { a with defers:={ target:=.collected D,args:=#[] } :: a.defers } W)
  (L:∀(D:Nat) (c:Code) (W:World),(w.heap.size≤D∧D≤w.heap.size)→S c W→W.heap[D]?=some (.deferred (some []))→c.wpIn Fence.wide 0 P Q { a with defers:={ target:=.collected D,args:=#[] } :: a.defers } W) :
  (Code.rangeFunc g ps assign body).wpIn Fence.wide 0 P Q a w:=by
 refine wpIn_rangeFunc ?_;intro fn a7;rw[show Fence.wide.round=none from rfl];obtain⟨b,d⟩:∃b:LoopState→Option Code→Loop,b=λst pe=>{ state:=st,pending:=pe,fn,tmps:=a.tmps,params:=ps,assign,body,defers:=w.heap.size }:=⟨_,rfl⟩;obtain⟨f,n⟩:∃f,(w.alloc (.deferred (some []))).alloc (.loop (b .ready none))=f:=⟨_,rfl⟩;have X:f.heap[w.heap.size+1]?=some (.loop (b .ready none)):=by
  rw[←n];have:=World.alloc_heap_new (w.alloc (.deferred (some []))) (.loop (b .ready none));rwa [World.size_alloc]at this
 have V:f.heap[w.heap.size]?=some (.deferred (some [])):=by
  rw[←n];exact(Below.heap_alloc _ _ _ (by simp)).trans (World.alloc_heap_new w _)
 have I:Gr w f:=by rw[←n];exact((Gr.refl w).alloc1 _).alloc1 _
 have a6:f.heap.size=w.heap.size+2:=by rw[←n];simp
 have z:∀k,w.heap.size≤k→¬T k:=λk J ht=>by have:=hT k ht;omega
 have C:∀k,w.heap.size≤k→k<w.heap.size+2→¬U k:=λk J a1 ht=>by have:=hU k ht;omega
 refine⟨w.heap.size+1,[{ target:=.collected w.heap.size,args:=#[] }],f,{ target:=.fn (.func gf) lb,args:=#[.func (.yield (w.heap.size+1)) #[] #[]] },f,gf,
  #[.func (.yield (w.heap.size+1)) #[] #[]]++lb,f,?_,?_,λ_ _=>trivial,?_,λh=>by simp[Fence.wide]at h,?_⟩
 ·rw[←n,d];exact run_enterLoop_outer _ _ _ _ _
 ·simp only[resolve,hg];simp[go_sem]
 ·simp[invoke,go_sem,eg]
 ·refine(a8 f (w.heap.size+1) (λW=>∃c,S c W∧W.heap[w.heap.size+1]?=some (.loop (b .done (some c)))∧W.heap[w.heap.size]?=some (.deferred (some []))) I ?_).mono ?_
  ·intro x A hm;have Z:=hM x _ _ hm;have hl:A.heap[w.heap.size+1]?=some (.loop (b .ready none)):=Z.get X (z _ (Nat.le_succ _));have J:A.heap[w.heap.size]?=some (.deferred (some [])):=Z.get V (z _ (qv _));have hy:=run_yield (P:=P) (args:=j x) hl (by rw[d];exact b1 x);rw[d]at hy;refine⟨fn,_,assign,body,hy,roundIn_of_wpIn a7 ?_⟩;clear hy;refine wpIn_mono (E (w.heap.size+1) x f A ⟨qv _,qv _⟩ I a6 hm) ?_;rintro e a₁ u O;cases e with
   | normal =>
    obtain⟨a0,F⟩:=O;have a2:u.heap[w.heap.size+1]?=some (.loop (b .ready none)):=a0.get hl (C _ (Nat.le_succ _) (by omega));have a9:u.heap[w.heap.size]?=some (.deferred (some [])):=a0.get J (C _ (qv _) (by omega));have a5:w.heap.size+1<u.heap.size:=(Array.getElem?_eq_some_iff.1 a2).1;refine⟨_,run_beginRound a2 (by rw[d]),?_⟩;refine wpIn_mono (F _ (Ch.putObj (T:=λk=>k=w.heap.size+1) _ rfl _)) ?_;have b0:(u.putObj (w.heap.size+1) (.loop { b .ready none with state:=.busy })).heap[w.heap.size+1]?=some (.loop { b .ready none with state:=.busy }):=World.putObj_heap_same a5;have a1:(u.putObj (w.heap.size+1) (.loop { b .ready none with state:=.busy })).heap[w.heap.size]?=some (.deferred (some [])):=(World.putObj_heap_other (by omega)).trans a9;have fin:∀(c:Code) (m:World),Ch U (u.putObj (w.heap.size+1) (.loop { b .ready none with state:=.busy })) m →
      (Instr.endRound (w.heap.size+1) (some c)).run P m=.ok (.bool false) (m.putObj (w.heap.size+1) (.loop (b .done (some c)))) ∧
      (m.putObj (w.heap.size+1) (.loop (b .done (some c)))).heap[w.heap.size+1]?=some (.loop (b .done (some c))) ∧
      (m.putObj (w.heap.size+1) (.loop (b .done (some c)))).heap[w.heap.size]?=some (.deferred (some [])) ∧
      Ch (λk=>k=w.heap.size+1) m (m.putObj (w.heap.size+1) (.loop (b .done (some c)))):=λc m i=>by
     have a4:m.heap[w.heap.size+1]?=some (.loop { b .ready none with state:=.busy }):=i.get b0 (C _ (Nat.le_succ _) (by omega));have:=run_endRound (P:=P) (some c) a4;rw[d]at this ⊢;exact⟨this,World.putObj_heap_same (Array.getElem?_eq_some_iff.1 a4).1,(World.putObj_heap_other (by omega)).trans (i.get a1 (C _ (qv _) (by omega))),Ch.putObj (T:=λk=>k=w.heap.size+1) _ rfl _⟩
    rintro e a3 m R;cases e with
    | normal=>exact R.2.elim
    | ret =>
     obtain⟨i,o⟩:=R;obtain⟨hr,r,q,s⟩:=fin .ret m i;exact⟨_,_,hr,rfl,_,y _ _ _ o s,r,q⟩
    | exit id =>
     obtain⟨i,o⟩:=R;obtain⟨hr,r,q,s⟩:=fin (.exit id) m i;exact⟨_,_,hr,rfl,_,y _ _ _ o s,r,q⟩
    | goto t =>
     obtain⟨i,o⟩:=R;obtain⟨hr,r,q,s⟩:=fin (.goto t) m i;exact⟨_,_,hr,rfl,_,y _ _ _ o s,r,q⟩
    | panic ch=>exact R.elim
    | outgrown=>exact R.elim
   | ret=>exact O.elim
   | exit id=>exact O.elim
   | goto t=>exact O.elim
   | panic ch=>exact O.elim
   | outgrown=>exact O.elim
  ·rintro e W2⟨rfl,(hn | ⟨c,hi,hl,J⟩)⟩
   ·have Y:=hN _ _ hn;have hl:=Y.get X (z _ (Nat.le_succ _));have J:=Y.get V (z _ (qv _));exact⟨none,_,by have:=run_endLoop (P:=P) hl (by rw[d];simp);rw[d]at this;exact this,H _ f W2 _ ⟨qv _,qv _⟩ I a6 hn (Ch.putObj (T:=λk=>k=w.heap.size+1) _ rfl _) ((World.putObj_heap_other (by omega)).trans J)⟩
   ·exact⟨some c,_,by have:=run_endLoop (P:=P) hl (by rw[d];simp);rw[d]at this;exact this,L _ c _ ⟨qv _,qv _⟩ (y _ _ _ hi (Ch.putObj (T:=λk=>k=w.heap.size+1) _ rfl _)) ((World.putObj_heap_other (by omega)).trans J)⟩
end Go
namespace Go.Proofs.YtadobobfjnmdlaaGreatDoor
open Go.RowKit Go.Shelf
attribute [local go_sem] Oper.semAt_some
theorem ou:∀(s:List UInt8) (c:Uc) (f i n:Nat),UcOk c→f≤n→i+s.length≤n→∀y∈bo c f i s,y.1≤n∧y.2<2097152
 | [],_,_,_,_,_,_,_,y,h=>by cases h
 | b :: t,c,f,i,n,hc,hf,hi,y,h=>by
  rw[List.length_cons]at hi;rw[bo]at h;split at h
  ·cases h
  ·rename_i c' e;have a:=hc.step e;have d:(if c.left=0 then i else f)≤n:=(by split <;> omega);split at h
   ·rename_i h0;rcases List.mem_cons.1 h with rfl | h
    ·exact⟨d,a.2.1 h0⟩
    ·exact ou t c' _ _ n a d (by omega) y h
   ·exact ou t c' _ _ n a d (by omega) y h
theorem Ax (s:List UInt8)(W:World) :
  Calls prog 125 #[.string ⟨s.toArray⟩] W λe w'=>e=.returned (.func (.func 153) #[] #[.pointer (some ⟨W.heap.size,0,none⟩)])∧W.alloc (.cells #[.string ⟨s.toArray⟩] 9)=w':=by
 go_enter func125,ntmps125;go_wp2;go_ret;exact⟨rfl,rfl⟩
theorem wQ (x:Nat)(W:World) :
  Calls prog 126 #[.int .i32 x] W λe w'=>e=.returned (.int .i64 (dB x))∧W=w':=by
 by_cases b:x<128
 ·have a:=qq (show dB x=1 by unfold dB;rw[if_pos b]);have a1:(x:Int)<128:=by omega
  go_enter func126,ntmps126;go_wp2;go_ret;exact⟨by rw[a.out];rfl,rfl⟩
 ·by_cases c:x<2048
  ·have a:=qq (show dB x=2 by unfold dB;rw[if_neg b,if_pos c]);have a1:¬(x:Int)<128:=(by omega);have a2:(x:Int)<2048:=(by omega);go_enter func126,ntmps126;go_wp2;go_ret;exact⟨by rw[a.out];rfl,rfl⟩
  ·have a1:¬(x:Int)<128:=(by omega);have a2:¬(x:Int)<2048:=(by omega);by_cases d:x<65536
   ·have a:=qq (show dB x=3 by unfold dB;rw[if_neg b,if_neg c,if_pos d]);have a3:(x:Int)<65536:=(by omega);go_enter func126,ntmps126;go_wp2;go_ret;exact⟨by rw[a.out];rfl,rfl⟩
   ·have a:=qq (show dB x=4 by unfold dB;rw[if_neg b,if_neg c,if_neg d]);have a3:¬(x:Int)<65536:=(by omega);go_enter func126,ntmps126;go_wp2;go_ret;exact⟨by rw[a.out];rfl,rfl⟩
def Ez (y:Nat×Nat):Array Value:=#[.int .i64 y.1,.int .i32 y.2]
theorem UkAt.ch {B:Nat}{T:Nat→Prop}{W b:World}{k:Uk}(h:UkAt B W k)(d:Ch T W b)(c:¬T B):UkAt B b k :=
 have a:∀ {o v},W.cell? ⟨B,o,none⟩=some v→b.cell? ⟨B,o,none⟩=some v:=fun {o v} f=>(d.cell (p:=⟨B,o,none⟩) (ae f) c).trans f
 ⟨a h.c0,a h.c1,a h.c2,a h.c3,h.c4.imp λ_ e=>a e,a h.c5,λo=>(d.frozen (p:=⟨B,o,none⟩) h.lt c).trans (h.fz o),h.ok⟩
def EP (s:List UInt8)(J:List (Nat×Nat)→World→Prop)(W:World)(bv:Nat)(fr i:Value)(wr:World):Prop :=
 ∃(k fn:Nat) (c:Uc) (pre:List (Nat×Nat)),k≤s.length∧fr=.int .i64 fn∧i=.int .i64 k∧bo uc0 0 0 s=pre++bo c fn k (s.drop k)∧UkAt W.heap.size wr ⟨c,false⟩∧J pre wr∧wr.cell? ⟨bv,0,none⟩=some (.string ⟨s.toArray⟩)
theorem wT (s:List UInt8)(W0:World)(u:Nat)(hv:W0.cell? ⟨u,0,none⟩=some (.string ⟨s.toArray⟩))(hs:s.length≤4611686018427387904) :
  xT prog 153 #[.pointer (some ⟨u,0,none⟩)] Ez (bo uc0 0 0 s) (λk=>k=u) (λ_=>True) W0:=by
 intro W l J Jx U a8 hT hU hJ a0 _ hY h0;have H:W.cell? ⟨u,0,none⟩=some (.string ⟨s.toArray⟩):=(World.cell?_of_block (hT u rfl)).trans hv;have a2:u<W.heap.size:=ae H;have gA:=Gr.alloc W (.cells #[.int .i64 0,.int .u8 0,.int .u8 0,.int .i32 0,.int .i64 0,.bool false] 210);have b:=gA.cell H;have a4:=qq (show EP s J W u (.int .i64 0) (.int .i64 0) (W.alloc (.cells #[.int .i64 0,.int .u8 0,.int .u8 0,.int .i32 0,.int .i64 0,.bool false] 210))from
  ⟨0,0,uc0,[],qx _,rfl,rfl,rfl,⟨aa _ _ _ 0 _ rfl,aa _ _ _ 1 _ rfl,aa _ _ _ 2 _ rfl,aa _ _ _ 3 _ rfl,⟨0,aa _ _ _ 4 _ rfl⟩,aa _ _ _ 5 _ rfl,λo=>World.frozen?_alloc_at _ _ _ _ rfl,wP⟩,hJ _ _ _ h0 (gA.to_ch _),b⟩)
 have Z:=qq hJ;have a5:=qq a0;have a1:=qq hY;have M:=qq hU;clear hJ a0 hY hU h0 hT hv H gA;have a7:∀f,Fence.wide.fn f:=λ_=>trivial;have a6:Fence.wide.depth=none:=rfl;refine callsIn_of_wp func153 rfl trivial ?_ rfl;simp only[ntmps153,List.size_toArray,List.length_cons,List.length_nil,Nat.reduceAdd,Nat.reduceSub,Array.replicate_succ,Array.replicate_zero,List.push_toArray,List.append_toArray,List.nil_append,List.cons_append];gi_wp2;gi_loopw [4,8] (λfr i wr=>EP s J W u fr i wr) (λ_ i _=>s.length - (intOf i).toNat)
 case atStart=>exact a4.out
 case round =>
  clear b a4;obtain⟨k,fn,c,y,hk,rfl,rfl,N,R,hj,H⟩:=hrel;have a:=qq N;have S:=qq hj;have I:=qq R;have c0:=R.c0;clear N hj R;by_cases E:k<s.length
  ·obtain⟨d,hd⟩:∃d,(⟨s.toArray⟩:ByteArray)[k]'(by rw[aj];exact E)=d:=⟨_,rfl⟩;have a3:s[k]=d:=hd;have C:=qq (show s.drop k=d :: s.drop (k+1) by rw[List.drop_eq_getElem_cons E,a3]);have B:=qq (pW W.heap.size wr ⟨c,false⟩ d I.out);obtain⟨Y,w⟩:∃Y,(if c.left=0 then k else fn)=Y:=⟨_,rfl⟩;have r:=qq w;clear a3;dsimp only at c0;obtain⟨o,ho⟩:∃o,ei c d=o:=⟨_,rfl⟩;have F:=qq ho;dsimp only at B;rw[ho]at B;clear ho;by_cases D:c.left=0
   ·rw[if_pos D]at w;subst w;rw[D]at c0;clear D;gi_wp2_with (fail);refine(callsIn_wide.2 B.out).mono ?_;rintro e w2⟨rfl,h,g⟩;have n:=qq (Z.out _ _ _ S.out (g.mono (λj e=>.inr (Nat.le_of_eq (show j=W.heap.size from e).symm))));have X:=qq (qy (Nat.le_of_lt I.out.lt) g.size);have b:w2.cell? ⟨u,0,none⟩=some (.string ⟨s.toArray⟩):=(g.cell (p:=⟨u,0,none⟩) (ae H) (λe=>absurd (show u=W.heap.size from e) (Nat.ne_of_lt a2))).trans H;cases o with
    | none =>
     have L:=qq (show bo c fn k (s.drop k)=[] by rw[C.out,bo,F.out]);rw[show(none:Option Uc).isSome=false from rfl];clear h g c0 H b;gi_wp2_with (refine wpListIn_skip (by rfl) (by rfl) ?_);refine bodyPost_ret (results_none rfl _ _ _) rfl ?_;refine⟨rfl,.inl ?_⟩;rw[a.out,L.out,List.append_nil];exact n.out
    | some c' =>
     rw[show(some c').isSome=true from rfl];have e0:=h.c0;have e3:=h.c3;have v:=qq h;clear h g c0 H;simp only[Option.getD_some]at e0 e3;by_cases hl:c'.left=0
     ·have m:=qq (show bo c fn k (s.drop k)=(k,c'.x) :: bo c' k (k+1) (s.drop (k+1)) by rw[C.out,bo,F.out];dsimp only;rw[r.out,if_pos hl]);have z:=a1.out y (k,c'.x) _ w2 (by rw[a.out,m.out]) X.out n.out;unfold Ez at z;dsimp only at z;obtain⟨gn,tmps,assign,body,hy,hR⟩:=z;rw[hl]at e0;gi_wp2;refine hR.mono ?_;rintro e A (⟨rfl,t,q⟩ | ⟨rfl,t,q⟩)
      ·have hn:¬U W.heap.size:=λe=>Nat.lt_irrefl _ (M.out _ e).1;have V:¬U u:=λe=>(M.out _ e).2 rfl;have P:=qq (v.out.ch q hn);have O:=qq ((q.cell (p:=⟨u,0,none⟩) (ae b) V).trans b);have T:=qq t;clear t q e0 e3 b hy hR;gi_wp2;go_roundw
       case rel=>exact⟨k+1,k,c',y++[(k,c'.x)],E,rfl,by simp,by rw[a.out,m.out,List.append_assoc];rfl,P.out,T.out,O.out⟩
       case measure=>simp[intOf];omega
      ·gi_wp2;refine bodyPost_ret (results_none rfl _ _ _) rfl ?_;exact⟨rfl,.inr ⟨y++[(k,c'.x)],⟨bo c' k (k+1) (s.drop (k+1)),by rw[a.out,m.out,List.append_assoc];rfl⟩,t⟩⟩
     ·have D:((c'.left:Int)==0)=false:=qk.2 (by omega);have m:=qq (show bo c fn k (s.drop k)=bo c' k (k+1) (s.drop (k+1)) by rw[C.out,bo,F.out];dsimp only;rw[r.out,if_neg hl]);gi_wp2;go_roundw
      case rel=>exact⟨k+1,k,c',y,E,rfl,by simp,by rw[a.out,m.out],v.out,n.out,b⟩
      case measure=>simp[intOf];omega
   ·have hz:((c.left:Int)==0)=false:=qk.2 (by omega);rw[if_neg D]at w;subst w;gi_wp2_with (fail);refine(callsIn_wide.2 B.out).mono ?_;rintro e w2⟨rfl,h,g⟩;have n:=qq (Z.out _ _ _ S.out (g.mono (λj e=>.inr (Nat.le_of_eq (show j=W.heap.size from e).symm))));have X:=qq (qy (Nat.le_of_lt I.out.lt) g.size);have b:w2.cell? ⟨u,0,none⟩=some (.string ⟨s.toArray⟩):=(g.cell (p:=⟨u,0,none⟩) (ae H) (λe=>absurd (show u=W.heap.size from e) (Nat.ne_of_lt a2))).trans H;cases o with
    | none =>
     have L:=qq (show bo c fn k (s.drop k)=[] by rw[C.out,bo,F.out]);rw[show(none:Option Uc).isSome=false from rfl];clear h g c0 H b;gi_wp2_with (refine wpListIn_skip (by rfl) (by rfl) ?_);refine bodyPost_ret (results_none rfl _ _ _) rfl ?_;refine⟨rfl,.inl ?_⟩;rw[a.out,L.out,List.append_nil];exact n.out
    | some c' =>
     rw[show(some c').isSome=true from rfl];have e0:=h.c0;have e3:=h.c3;have v:=qq h;clear h g c0 H;simp only[Option.getD_some]at e0 e3;by_cases hl:c'.left=0
     ·have m:=qq (show bo c fn k (s.drop k)=(fn,c'.x) :: bo c' fn (k+1) (s.drop (k+1)) by rw[C.out,bo,F.out];dsimp only;rw[r.out,if_pos hl]);have z:=a1.out y (fn,c'.x) _ w2 (by rw[a.out,m.out]) X.out n.out;unfold Ez at z;dsimp only at z;obtain⟨gn,tmps,assign,body,hy,hR⟩:=z;rw[hl]at e0;gi_wp2;refine hR.mono ?_;rintro e A (⟨rfl,t,q⟩ | ⟨rfl,t,q⟩)
      ·have hn:¬U W.heap.size:=λe=>Nat.lt_irrefl _ (M.out _ e).1;have V:¬U u:=λe=>(M.out _ e).2 rfl;have P:=qq (v.out.ch q hn);have O:=qq ((q.cell (p:=⟨u,0,none⟩) (ae b) V).trans b);have T:=qq t;clear t q e0 e3 b hy hR;gi_wp2;go_roundw
       case rel=>exact⟨k+1,fn,c',y++[(fn,c'.x)],E,rfl,by simp,by rw[a.out,m.out,List.append_assoc];rfl,P.out,T.out,O.out⟩
       case measure=>simp[intOf];omega
      ·gi_wp2;refine bodyPost_ret (results_none rfl _ _ _) rfl ?_;exact⟨rfl,.inr ⟨y++[(fn,c'.x)],⟨bo c' fn (k+1) (s.drop (k+1)),by rw[a.out,m.out,List.append_assoc];rfl⟩,t⟩⟩
     ·have D:((c'.left:Int)==0)=false:=qk.2 (by omega);have m:=qq (show bo c fn k (s.drop k)=bo c' fn (k+1) (s.drop (k+1)) by rw[C.out,bo,F.out];dsimp only;rw[r.out,if_neg hl]);gi_wp2;go_roundw
      case rel=>exact⟨k+1,fn,c',y,E,rfl,by simp,by rw[a.out,m.out],v.out,n.out,b⟩
      case measure=>simp[intOf];omega
  ·obtain rfl:k=s.length:=(by omega);have n:=qq (show J (bo uc0 0 0 s) wr by rw[a.out,List.drop_length,bo,List.append_nil];exact S.out);gi_wp2;go_end0;exact⟨rfl,.inl n.out⟩
theorem Ay (l:List (Nat×Nat))(y:Nat×Nat):yb (l++[y])=y.1+dB y.2:=by unfold yb;rw[List.foldl_append];rfl
theorem Az (x:Nat):dB x≤4:=by
 unfold dB
 repeat' split
 all_goals omega
theorem ov (s:List UInt8)(w:World)(hs:s.length≤4611686018427387904) :
  Calls prog 104 #[.string ⟨s.toArray⟩] w λe w'=>e=.returned (.bool (jn s))∧Gr w w':=by
 refine(callsIn_wide (n:=0)).1 ?_;have V:∀f,Fence.wide.fn f:=λ_=>trivial;have U:Fence.wide.depth=none:=rfl;refine callsIn_of_wp_marks func104 rfl trivial ?_ rfl;simp only[ntmps104,List.size_toArray,List.length_cons,List.length_nil,Nat.reduceAdd,Nat.reduceSub,Array.replicate_succ,Array.replicate_zero,List.push_toArray,List.append_toArray,List.nil_append,List.cons_append];gi_wp2_with (gi_at_call 125;refine(callsIn_wide.2 (Ax s _)).mono ?_;rintro e w' ⟨rfl,rfl⟩);obtain⟨w3,a⟩:∃w3,(w.alloc (.cells #[.int .i64 0] 3)).alloc (.cells #[.string ⟨s.toArray⟩] 9)=w3:=⟨_,rfl⟩;rw[a];have b:=qq (show w3.heap.size=w.heap.size+2 by rw[←a];simp);have c0:w3.cell? ⟨w.heap.size,0,none⟩=some (.int .i64 0):=by rw[←a];simp[go_sem]
 have k0:w3.frozen? ⟨w.heap.size,0,none⟩=false:=by rw[←a];simp[go_sem]
 have c1:w3.cell? ⟨w.heap.size+1,0,none⟩=some (.string ⟨s.toArray⟩):=by rw[←a];simp[go_sem]
 have H:Gr w w3:=by rw[←a];exact(Gr.alloc w _).alloc1 _
 clear a;refine iJ (gf:=153) rfl (enters_of func153 (by kernel_rfl) rfl) (wT s w3 _ c1 hs) (qv _) (λk i=>⟨by rw[b.out];(try dsimp only at i);omega,rfl⟩) (λ_=>rfl)
  (λd A=>Gr w A∧w3.heap.size≤A.heap.size∧A.cell? ⟨w.heap.size,0,none⟩=some (.int .i64 (yb d:Nat))∧A.frozen? ⟨w.heap.size,0,none⟩=false)
  (λ_ _ _=>False) (λk=>k=w.heap.size)
  (λk i=>⟨by rw[b.out];(try dsimp only at i);omega,by(try dsimp only at i ⊢);omega⟩) ?hI (λ_ _ _ _ h _=>h.elim) (λ_ _ _=>trivial) ⟨H,qv _,c0,k0⟩ ?round ?done (λ_ _ _ _ _ _ h _=>h.elim)
 case hI =>
  rintro d A B⟨m,C,j,q⟩ g;have e:=b.out;have hn:¬(w.heap.size=w.heap.size+1∨w3.heap.size≤w.heap.size):=by omega
  exact⟨m.ch g (λk i=>by omega),qy C g.size,(g.cell (p:=⟨w.heap.size,0,none⟩) (ae j) hn).trans j,(g.frozen (p:=⟨w.heap.size,0,none⟩) (show w.heap.size<A.heap.size from ae j) hn).trans q⟩
 case round =>
  intro l' d x rest A W Y v L;obtain⟨m,C,j,q⟩:=L;obtain⟨E,o⟩:=x;have N:=ou s uc0 0 0 s.length wP (qx _) (by omega) (E,o) (by rw[v];simp);dsimp only at N;have a0:=Az o;have e:=b.out;have l:¬(w.heap.size=l'):=by omega
  have y:w.heap.size<A.heap.size:=by omega
  have X:w.heap.size≤l':=by omega
  have I:=qq (wQ o);have t:=qq (Ay d (E,o));obtain⟨a2,a3⟩:=N;have a1:IntKind.i64.wrap ((E:Int)+(dB o:Nat))=(E:Int)+(dB o:Nat):=IntWalk.i64_in _ (by omega);clear e v;unfold Ez;gi_wp2;refine⟨Ch.refl _ _,λz c=>?_⟩;have O:z.cell? ⟨w.heap.size,0,none⟩=some (.int .i64 (yb d:Nat)):=(c.cell (p:=⟨w.heap.size,0,none⟩) y l).trans j;have P:z.frozen? ⟨w.heap.size,0,none⟩=false:=(c.frozen (p:=⟨w.heap.size,0,none⟩) y l).trans q;have F:=qq (show Gr w z from m.ch c (λk i=>by(try dsimp only at i);omega));have u:=qq (qy C c.size);clear j q m c;gi_wp2_with (fail);refine(CallsIn.inRound l' (callsIn_wide.2 (I.out z))).mono ?_;rintro e A3⟨rfl,rfl⟩;gi_wp2;refine⟨Ch.setCell (T:=λk=>k=w.heap.size) _ rfl _,F.out.setCell (qv _) _,by rw[World.size_setCell];exact u.out,?_,by rw[ag];exact P⟩;rw[af O,t.out];simp
 case done =>
  rintro D A hD⟨m,C,j,q⟩ S;obtain⟨n,hn⟩:∃n,yb (bo uc0 0 0 s)=n:=⟨_,rfl⟩;rw[hn]at j;have r:D≠w.heap.size:=by have:=b.out;omega
  have R:w.heap.size≤D:=by have:=b.out;omega
  have Z:=qq (show jn s=(n==s.length) by unfold jn;rw[hn]);have hb:((n:Int)==(s.length:Int))=(n==s.length):=by
   cases M:(n==s.length)
   ·have:=qk.1 M;exact qk.2 (by omega)
   ·have:=eq_of_beq M;subst this;simp
  have J:=qq r;clear r;gi_wp2;refine⟨by simp,.inl ⟨_,_,rfl,run_takeDeferred S,?_⟩⟩;refine⟨.bool (n==s.length),by simp[results,results104,go_sem],by rw[Z.out],?_⟩;exact m.ch (Ch.putObj (T:=λk=>k=D) _ rfl _) (λk i=>by(try dsimp only at i);omega)
