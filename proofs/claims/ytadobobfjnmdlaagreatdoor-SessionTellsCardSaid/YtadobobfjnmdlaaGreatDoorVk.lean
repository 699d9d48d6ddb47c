/-
  Replies: Read by the document.
-/
import Derived.Test.YtadobobfjnmdlaaGreatDoorP63
import Derived.Test.YtadobobfjnmdlaaGreatDoorP32
set_option linter.unnecessarySimpa false
set_option linter.unusedVariables false
set_option linter.unusedSimpArgs false
set_option maxHeartbeats 16000000
set_option maxRecDepth 100000
open Go.Proofs.Tryz
namespace Go.Proofs.YtadobobfjnmdlaaGreatDoor
open Go.RowKit
attribute [local go_sem] Oper.semAt_some
def RdW (w W:World):Prop:=Gr w W∧w.heap.size+1<W.heap.size∧W.cell? ⟨w.heap.size,0,none⟩=some (.int .i64 0)∧W.cell? ⟨w.heap.size,1,none⟩=some (.slice none 0 0)∧W.cell? ⟨w.heap.size,2,none⟩=some (.string ⟨#[]⟩) ∧
 W.cell? ⟨w.heap.size+1,0,none⟩=some (.int .i64 0)∧W.cell? ⟨w.heap.size+1,1,none⟩=some (.slice none 0 0)∧W.cell? ⟨w.heap.size+1,2,none⟩=some (.string ⟨#[]⟩)∧∀o,W.frozen? ⟨w.heap.size,o,none⟩=false
theorem RdW.below {w W c:World}{C:Nat}(h:RdW w W)(a:Below C W c)(j:w.heap.size+1<C):RdW w c:=by
 obtain⟨h0,g,a0,a1,a2,d,e,f,hf⟩:=h;have k:∀ {b o u},b<C→W.cell? ⟨b,o,none⟩=some u→c.cell? ⟨b,o,none⟩=some u:=fun {b o u} i h=>(Below.cell a (p:=⟨b,o,none⟩) i).trans h;exact⟨Below.trans h0 (Below.mono a (by omega)),qj g (Below.size a),k (by omega) a0,k (by omega) a1,k (by omega) a2,k (by omega) d,k (by omega) e,k (by omega) f,λo=>(Below.frozen a (show(⟨w.heap.size,o,none⟩:Addr).block<C by show w.heap.size<C;omega)).trans (hf o)⟩
theorem RdW.gr {w W a:World}(h:RdW w W)(b:Gr W a):RdW w a:=h.below b h.2.1
theorem RdW.bad {w W:World}(h:RdW w W)(n:Nat)(z:Int)(b:z=n){x:Rd10}(a:x=.bad n) :
  fK x w (.returned (.tuple #[.agg #[.int .i64 0,.slice none 0 0,.string ⟨#[]⟩],.bool false,.int .i64 0,.int .i64 z])) (((W.setCell ⟨w.heap.size,0,none⟩ (.int .i64 0)).setCell ⟨w.heap.size,1,none⟩ (.slice none 0 0)).setCell ⟨w.heap.size,2,none⟩ (.string ⟨#[]⟩)) :=
 qW n z b a (((h.1.setCell (qv _) _).setCell (qv _) _).setCell (qv _) _)
def Ds (w:World)(B2:Nat)(t:List UInt8)(v a i:Value)(W:World):Prop:=∃(L:List (List UInt8)) (a' i':Nat) (p:Option Addr) (cap:Nat),v=.slice p L.length cap∧a=.int .i64 a'∧i=.int .i64 i'∧SplI t L a' i'∧i'≤t.length∧L.length≤i'∧OwnV 9 B2 W (.slice p L.length cap) (L.map sV)∧B2≤W.heap.size∧RdW w W
def QRel (w4:World)(c:Int)(tl:List (List UInt8))(le cs n i:Value)(W:World):Prop:=∃(j:Nat) (st:RSt),j≤tl.length∧ek c nB (tl.take j)=some st∧le=.int .i64 st.lens∧cs=.int .i64 st.cls∧n=.int .i64 st.n∧i=.int .i64 ((j:Int)+1)∧st.n<1000000∧PW w4 c st.fs W
theorem QRel.next {e W:World}{c:Int}{tl:List (List UInt8)}{j:Nat}{st a:RSt}(d:j<tl.length)(b:ek c nB (tl.take j)=some st)(h:di c st tl[j]=some a)(hn:a.n<1000000)(l:PW e c a.fs W){i:Int}(hi:i=(j:Int)+2){le cs n:Int}(f:le=a.lens)(g:cs=a.cls)(k:n=a.n) :
  QRel e c tl (.int .i64 le) (.int .i64 cs) (.int .i64 n) (.int .i64 i) W :=
 ⟨j+1,a,d,by rw[List.take_succ_eq_append_getElem d,lx,b];show(di c st tl[j]).bind _=_;rw[h];rfl,by rw[f],by rw[g],by rw[k],by rw[hi];congr 1,hn,l⟩
theorem xf {c:Int}{tl:List (List UInt8)}{j:Nat}{st:RSt}(b:j<tl.length)(a:ek c nB (tl.take j)=some st)(h:di c st tl[j]=none):ek c nB tl=none:=by
 have e:tl=tl.take j++tl[j] :: tl.drop (j+1):=by
  rw[←List.drop_eq_getElem_cons b,List.take_append_drop]
 rw[e,lx,a];show(di c st tl[j]).bind _=_;rw[h];rfl
theorem Dt {s:List UInt8}{m:Nat}(h:dN s=some m):m<1000000:=by
 by_cases h0:s=[]
 ·rw[kM (.inl h0)]at h;cases h
 ·by_cases d:6<s.length
  ·rw[kM (.inr (.inl d))]at h;cases h
  ·cases a:s.all dQ
   ·rw[kM (.inr (.inr a))]at h;cases h
   ·obtain⟨n,b,_,c⟩:=EI h0 (by omega) a;rw[b]at h;cases h;exact c
theorem xg (c:Int)(fs:List Fl)(cls lens n:Nat)(l d b:List UInt8)(a a1 a2 a3:Bool)(z:Int)
  (k:ax l=(d,b,a)) (h:an d ky=a1) (i:an d dq=a2) (j:an d cx=a3) (e:qc (dN b)=z) :
  (a=false∧di c ⟨fs,cls,lens,n⟩ l=none) ∨
  (a=true∧a1=true∧di c ⟨fs,cls,lens,n⟩ l=none) ∨
  (a=true∧a1=false∧a2=true∧z = -1∧di c ⟨fs,cls,lens,n⟩ l=none) ∨
  (a=true∧a1=false∧a2=true∧(∃m:Nat,z=m∧¬(m:Int)<0∧m<1000000∧di c ⟨fs,cls,lens,n⟩ l=some ⟨fs,cls,lens+1,m⟩)) ∨
  (a=true∧a1=false∧a2=false∧(c != 101)=true∧a3=true∧b=el∧di c ⟨fs,cls,lens,n⟩ l=some ⟨fs,cls+1,lens,n⟩) ∨
  (a=true∧a1=false∧a2=false∧(c != 101)=true∧a3=true∧(b==[99,108,111,115,101])=false∧di c ⟨fs,cls,lens,n⟩ l=none) ∨
  (a=true∧a1=false∧a2=false∧(c != 101)=false∧di c ⟨fs,cls,lens,n⟩ l=some ⟨fs++[(d,b)],cls,lens,n⟩) ∨
  (a=true∧a1=false∧a2=false∧(c != 101)=true∧a3=false∧di c ⟨fs,cls,lens,n⟩ l=some ⟨fs++[(d,b)],cls,lens,n⟩):=by
 unfold di;rw[k];dsimp only;rw[h,i,j];cases a
 ·left;exact⟨rfl,rfl⟩
 ·right;cases a1
  ·right;cases a2
   ·right;right;cases o:(c != 101)
    ·right;right;left;exact⟨rfl,rfl,rfl,rfl,rfl⟩
    ·cases a3
     ·right;right;right;exact⟨rfl,rfl,rfl,rfl,rfl,rfl⟩
     ·cases g:(b==el)
      ·right;left;exact⟨rfl,rfl,rfl,rfl,rfl,g,rfl⟩
      ·left;exact⟨rfl,rfl,rfl,rfl,rfl,beq_iff_eq.1 g,rfl⟩
   ·cases f:dN b with
    | none=>left;rw[f]at e;exact⟨rfl,rfl,rfl,e.symm,rfl⟩
    | some m =>
     right;left;rw[f]at e;exact⟨rfl,rfl,rfl,m,e.symm,by omega,Dt f,rfl⟩
  ·left;exact⟨rfl,rfl,rfl⟩
theorem p8 (s:List UInt8)(head:Bool)(w:World)(hl:s.length≤800000) :
  Calls prog 27 #[.string ⟨s.toArray⟩,.bool head] w (fK (aP s head) w):=by
 have q8:¬9223372036854775807<s.length:=by omega
 have T:RdW w ((w.alloc (.cells #[.int .i64 0,.slice none 0 0,.string ⟨#[]⟩] 51)).alloc (.cells #[.int .i64 0,.slice none 0 0,.string ⟨#[]⟩] 51)) :=
  ⟨(Gr.alloc _ _).alloc1 _,by simp,by simp[go_sem],by simp[go_sem],by simp[go_sem],by simp[go_sem],by simp[go_sem],by simp[go_sem],λo=>by simp[go_sem]⟩
 go_enter func27,ntmps27;go_wp2;generalize ((w.alloc (.cells #[.int .i64 0,.slice none 0 0,.string ⟨#[]⟩] 51)).alloc (.cells #[.int .i64 0,.slice none 0 0,.string ⟨#[]⟩] 51))=w1 at T ⊢;have h3:=qq T;clear T;go_loopw [9,10] (λen i W=>∃k:Nat,k≤s.length∧en=.int .i64 (-1)∧i=.int .i64 k∧(∀j,j<k→Lib.occAt s ar j=false)∧RdW w W) (λ_ i _=>s.length - (intOf i).toNat)
 case atStart=>exact⟨0,qx _,rfl,rfl,λj h=>absurd h (Nat.not_lt_zero _),h3.out⟩
 case round =>
  obtain⟨k,hk,rfl,rfl,l2,T⟩:=hrel;have c5:=qq l2;have q:=qq T;clear l2 T h3;have q7:k≤800000:=by omega
  by_cases o1:k+4≤s.length
  ·have k9:(k:Int)+4≤s.length:=(by omega);have n4:(⟨s.toArray⟩:ByteArray).extract k (k+4)=⟨((s.take (k+4)).drop k).toArray⟩:=av _ _ _;have hcut:=@GC s k;obtain⟨x,hx⟩:∃x,(s.take (k+4)).drop k=x:=⟨_,rfl⟩;rw[hx]at n4 hcut;clear hx;by_cases c7:Lib.occAt s ar k=true
   ·rw[c7,beq_iff_eq]at hcut;subst hcut;have n8:=qq (tn c7 o1 c5.out);have m6:=qq (CH (head:=head) n8.out);clear c7 c5;have q6:¬(k:Int)<0:=(by omega);go_wp2;obtain⟨t,ht⟩:∃t,s.take k=t:=⟨_,rfl⟩;have o4:t.length=k:=(by rw[←ht,List.length_take];omega);have l8:∀j,j<k→t[j]?=s[j]?:=λj hj=>(by rw[←ht,List.getElem?_take,if_pos hj]);have i4:=qq l8;have j3:=qq ht;obtain⟨B2,j6⟩:∃b,wr.heap.size=b:=⟨_,rfl⟩;have h1:=qq (show w.heap.size+1<B2 by rw[←j6];exact q.out.2.1);have j7:=qq (show Ds w B2 t (.slice none 0 0) (.int .i64 0) (.int .i64 0) wr from⟨[],0,0,none,0,rfl,rfl,rfl,SplI.start t,qx _,qv _,OwnV.nil _ _ _,by omega,q.out⟩);clear l8 ht j6 q;go_loopw [11,12,13] (λv a i W=>Ds w B2 t v a i W) (λ_ _ i _=>k - (intOf i).toNat)
    case atStart=>exact j7.out
    case round =>
     obtain⟨L,a,i,p,cap,rfl,rfl,rfl,hS,n7,m5,ho,k1,T⟩:=hrel;have e7:=qq hS;have c6:=qq ho;have q:=qq T;have b8:=qq k1;have m9:=hS.2.1;clear hS ho T j7 k1;have n5:i≤800000:=(by omega);have m7:a≤800000:=(by omega);by_cases n6:i+1<k
     ·have h7:(i:Int)+1<k:=(by omega);have k6:i<s.length:=(by omega);have k7:i+1<s.length:=(by omega);obtain⟨c,hc⟩:∃c,(⟨s.toArray⟩:ByteArray)[i]'(by rw[aj];exact k6)=c:=⟨_,rfl⟩;obtain⟨d,hd⟩:∃d,(⟨s.toArray⟩:ByteArray)[i+1]'(by rw[aj];exact k7)=d:=⟨_,rfl⟩;have k3:t[i]?=some c:=(by rw[i4.out i (by omega),List.getElem?_eq_getElem k6];exact congrArg some hc);have k4:t[i+1]?=some d:=(by rw[i4.out (i+1) (by omega),List.getElem?_eq_getElem k7];exact congrArg some hd);have e9:=qq k3;have h5:=qq k4;clear k3 k4;by_cases b5:c=13
      ·have j5:((c.toNat:Int)==13)=true:=(by rw[b5];rfl);by_cases d7:d=10
       ·have j4:((d.toNat:Int)==10)=true:=(by rw[d7];rfl);have p5:a≤i:=e7.out.le (by rw[e9.out,b5]);have d3:(⟨s.toArray⟩:ByteArray).extract a i=⟨((t.take i).drop a).toArray⟩:=by
         rw[av,←j3.out,List.take_take,show min i k=i by omega]
        have d4:=qq (e7.out.found (by rw[e9.out,b5]) (by rw[h5.out,d7]));obtain⟨x,hx⟩:∃x,(t.take i).drop a=x:=⟨_,rfl⟩;rw[hx]at d3 d4;have g3:(L.map sV).length+1=L.length+1:=(by simp);have g2:L.length+1≤1000000:=(by omega);clear hx b5 d7;go_wp2_with (at_builtin;(refine xH (by rfl) _ _ 86 9 _ (.string ⟨#[]⟩) (.string ⟨x.toArray⟩) 16 underlying86 EM rfl rfl B2 _ (L.map sV) rfl c6.out rfl rfl (L.length+1) g3 g2 (by decide) b8.out ?_);intro p3 b4 w3 D b0);have a8:=qq (show Ds w B2 t (.slice p3 (L.length+1) b4) (.int .i64 ((i:Int)+2)) (.int .i64 ((i:Int)+1)) w3 from
         ⟨L++[x],i+2,i+1,p3,b4,by simp,rfl,rfl,d4.out,by omega,by simp;omega,by rw[qw,List.map_append];exact D,qy b8.out (Below.size b0),q.out.below b0 h1.out⟩)
        clear D b0;go_wp2;go_roundw
        case rel=>exact a8.out
        case measure=>simp[intOf];omega
       ·have j4:((d.toNat:Int)==10)=false:=by
         rw[qk];intro e;exact d7 (UInt8.toNat_inj.1 (by have h9:(d.toNat:Int)=10:=e;show d.toNat=10;omega))
        have a8:=qq (show Ds w B2 t (.slice p L.length cap) (.int .i64 a) (.int .i64 ((i:Int)+1)) wr from
         ⟨L,a,i+1,p,cap,rfl,rfl,rfl,e7.out.other (λh=>d7 (by rw[h5.out]at h;exact Option.some.inj h.2)),by omega,by omega,c6.out,b8.out,q.out⟩)
        clear b5 d7;go_wp2;go_roundw
        case rel=>exact a8.out
        case measure=>simp[intOf];omega
      ·have j5:((c.toNat:Int)==13)=false:=by
        rw[qk];intro e;exact b5 (UInt8.toNat_inj.1 (by have h9:(c.toNat:Int)=13:=e;show c.toNat=13;omega))
       have a8:=qq (show Ds w B2 t (.slice p L.length cap) (.int .i64 a) (.int .i64 ((i:Int)+1)) wr from
        ⟨L,a,i+1,p,cap,rfl,rfl,rfl,e7.out.other (λh=>b5 (by rw[e9.out]at h;exact Option.some.inj h.1)),by omega,by omega,c6.out,b8.out,q.out⟩)
       clear b5;go_wp2;go_roundw
       case rel=>exact a8.out
       case measure=>simp[intOf];omega
     ·have h7:¬(i:Int)+1<k:=(by omega);have j1:=e7.out.done (by omega);have m8:a≤k:=(by omega);have d3:(⟨s.toArray⟩:ByteArray).extract a k=⟨(t.drop a).toArray⟩:=(by rw[av,j3.out]);obtain⟨x,hx⟩:∃x,t.drop a=x:=⟨_,rfl⟩;rw[hx]at d3 j1;have g3:(L.map sV).length+1=L.length+1:=(by simp);have g2:L.length+1≤1000000:=(by omega);have h8:=qq j1;clear hx j1;go_upto_region 21 with(at_builtin;(refine xH (by rfl) _ _ 86 9 _ (.string ⟨#[]⟩) (.string ⟨x.toArray⟩) 16 underlying86 EM rfl rfl B2 _ (L.map sV) rfl c6.out rfl rfl (L.length+1) g3 g2 (by decide) b8.out ?_);intro p3 b4 w3 D b0);have h4:=qq (q.out.below b0 h1.out);clear q;obtain⟨l0,tl,H⟩:∃a b,L++[x]=a :: b:=by
       cases L with
       | nil=>exact⟨x,[],rfl⟩
       | cons y z=>exact⟨y,z++[x],rfl⟩
      have i5:L.length=tl.length:=by
       have:=congrArg List.length H;rw[qw,List.length_cons]at this;simpa using this
      have E:OwnV 9 B2 w3 (.slice p3 (L.length+1) b4) ((l0 :: tl).map sV):=by
       rw[←H,List.map_append];exact D
      rw[i5]at E;rw[i5];obtain⟨g,o8,e4,q0,k5,e8,_⟩:=E.row (by simp);injection e4 with e4 e5 e6;subst e4;clear e5 e6;have j0:=qq (show ∀i,(hi:i<(l0 :: tl).length)→w3.cell? ⟨g,i,none⟩=some (.string ⟨((l0 :: tl)[i]).toArray⟩)from λi hi=>e8 i _ (by rw[List.getElem?_map,List.getElem?_eq_getElem hi];rfl));have i1:=qq (show au t=l0 :: tl by rw[h8.out,H]);have n3:w3.cell? ⟨g,0,none⟩=some (.string ⟨l0.toArray⟩):=j0.out 0 (by simp);have r3:tl.length≤800000:=(by omega);have l7:=qq (λl (hl:l∈l0 :: tl)=>(show l.length≤800000 from by
       have:=(gQ _ t (qv _)).2 l (by rw[i1.out];exact hl);omega))
      have e2:=m6.out;rw[j3.out,i1.out]at e2;have b7:=qq e2;have m3:(0:Int)<(tl.length:Int)+1:=(by omega);have k8:=λW=>ix0 g tl.length b4 W m3;clear D b0 H i5 E e8 h8 d3 e2;have e0:=qq (λW=>sK l0 W (by have:=l7.out l0 (by simp);omega));clear g3 g2 n5 m7 n6 h7 m9 n7 m5 m8 o4;go_wp2_with fail;refine(e0.out _).mono ?_;rintro e w4⟨rfl,g4⟩;have M:=qq (h4.out.gr g4);have k2:=qq (λi hi=>g4.cell (j0.out i hi));have q4:g<w4.heap.size:=qj k5 (Below.size g4);clear g4 h4 j0 n3 e0 k5 k8;obtain⟨⟨c,r0,o5⟩,j2⟩:∃y,dh l0=y:=⟨_,rfl⟩;rw[j2];unfold stV;dsimp only;have i3:=qq j2;clear j2;cases o5 with
      | false =>
       have Z:=qq (show aP s head=.bad 8 by rw[b7.out,zB (by rw[i3.out])]);have q:=M;have f:=qq (q.out.bad 8 8 rfl Z.out);obtain⟨_,_,c0,c1,c2,n0,J,n2,f0⟩:=q.out;go_wp2;refine bodyPost_ret (v:=.tuple #[.agg #[.int .i64 0,.slice none 0 0,.string ⟨#[]⟩],.bool false,.int .i64 0,.int .i64 8]) ?_ rfl f.out;simp[results,results27,go_sem,c0,c1,c2]
      | true =>
       have l5:=qq (zC (tl:=tl) i3.out);have g8:=qq (show ek c nB tl=none→aP s head=.bad 8 from λh=>by rw[b7.out,l5.out,h]);have i6:=qq (show PW w4 c [] (w4.alloc (.cells #[.int .i64 c,.slice none 0 0,.string ⟨#[]⟩] 51))from
        ⟨.slice none 0 0,by simp[go_sem],by simp[go_sem],by simp[go_sem],World.ownsRow_nil _ _ _ _,λo=>by simp[go_sem],by simp,Gr.alloc _ _⟩)
       go_wp2;generalize (w4.alloc (.cells #[.int .i64 c,.slice none 0 0,.string ⟨#[]⟩] 51))=w5 at i6 ⊢;go_loopw [18,19,20,21] (λle cs n i W=>QRel w4 c tl le cs n i W) (λ_ _ _ i _=>tl.length+1 - (intOf i).toNat)
       case atStart=>exact⟨0,nB,qx _,rfl,rfl,rfl,rfl,rfl,by decide,i6.out⟩
       case round =>
        obtain⟨j,⟨fs,cls,lens,n⟩,q5,e0,rfl,rfl,rfl,rfl,f6,d8⟩:=hrel;obtain⟨_,_,f3,g5,g6,g9⟩:=iA _ e0;rw[List.length_take]at f3 g5 g6;unfold nB at f3 g5 g6 g9;dsimp only at d8 f6 f3 g5 g6 g9 ⊢;have p0:fs.length≤800000:=(by simp at f3;omega);have o9:cls≤800000:=(by omega);have p1:lens≤800000:=(by omega);have l3:=qq g9;have d2:=qq d8;have a9:=qq e0;clear f3 g5 g6 g9 e0 i6;by_cases hj:j<tl.length
        ·have d1:=d8.w.cell (k2.out (j+1) (by simp;omega));have l6:=l7.out ((l0 :: tl)[j+1]'(by simp;omega)) (List.getElem_mem _);have b3:=qq (show di c ⟨fs,cls,lens,n⟩ tl[j]=none→aP s head=.bad 8 from λh=>g8.out (xf hj a9.out h));obtain⟨l,hl⟩:∃x,tl[j]=x:=⟨_,rfl⟩;have l1:(l0 :: tl)[j+1]'(by simp;omega)=l:=hl;rw[l1]at d1 l6;have n9:(j:Int)+1<(tl.length:Int)+1:=(by omega);have l4:=qq (λW=>vU l W (by omega));obtain⟨⟨J,v1,o6⟩,hP⟩:∃x,ax l=x:=⟨_,rfl⟩;rw[hP]at l4;have p2:J.length≤l.length:=(by have:=ni l;rw[hP]at this;exact this);have p4:v1.length≤l.length:=(by have:=nj l;rw[hP]at this;exact this);have Y:=xg c fs cls lens n l J v1 o6 _ _ _ _ hP rfl rfl rfl rfl;have q1:=qq (λW=>jQ J Fg W (by omega) (by decide));have q2:=qq (λW=>jQ J Ff W (by omega) (by decide));have q3:=qq (λW=>jQ J CJ W (by omega) (by decide));have qz:=qq (λW=>tZ v1 (by omega) W);obtain⟨x1,x2,x3⟩:=Eg J;rw[x1]at q2;rw[x2]at q1;rw[x3]at q3;obtain⟨a1,j8⟩:∃a,an J ky=a:=⟨_,rfl⟩;obtain⟨a2,j9⟩:∃a,an J dq=a:=⟨_,rfl⟩;obtain⟨a3,k0⟩:∃a,an J cx=a:=⟨_,rfl⟩;obtain⟨z,l9⟩:∃a,qc (dN v1)=a:=⟨_,rfl⟩;rw[j8]at q1 Y;rw[j9]at q2 Y;rw[k0]at q3 Y;rw[l9]at qz Y;rw[←hl]at Y;clear j8 j9 k0 l9 hP hl l1 d8 x1 x2 x3;go_wp2_with fail;refine(l4.out _).mono ?_;rintro e w3⟨rfl,b0⟩;have h2:=qq (d2.out.gr b0);clear b0 d1 d2;unfold eK;dsimp only;go_upto_region 30 with(fail);have P:(w3.alloc (.cells #[.string ⟨J.toArray⟩,.string ⟨v1.toArray⟩] 80)).cell? ⟨w3.heap.size,0,none⟩=some (.string ⟨J.toArray⟩):=aa w3 [.string ⟨J.toArray⟩,.string ⟨v1.toArray⟩] _ 0 _ rfl;have R:(w3.alloc (.cells #[.string ⟨J.toArray⟩,.string ⟨v1.toArray⟩] 80)).cell? ⟨w3.heap.size,1,none⟩=some (.string ⟨v1.toArray⟩):=aa w3 [.string ⟨J.toArray⟩,.string ⟨v1.toArray⟩] _ 1 _ rfl;have C:=qq (h2.out.gr (Gr.alloc w3 (.cells #[.string ⟨J.toArray⟩,.string ⟨v1.toArray⟩] 80)));generalize w3.alloc (.cells #[.string ⟨J.toArray⟩,.string ⟨v1.toArray⟩] 80)=w6 at P R C ⊢;clear h2;rcases Y with⟨rfl,B⟩ | ⟨rfl,rfl,B⟩ | ⟨rfl,rfl,rfl,rfl,B⟩ | ⟨rfl,rfl,rfl,m,rfl,q9,g7,B⟩ | ⟨rfl,rfl,rfl,i9,rfl,rfl,B⟩ | ⟨rfl,rfl,rfl,i9,rfl,r4,B⟩ | ⟨rfl,rfl,rfl,i9,B⟩ | ⟨rfl,rfl,rfl,i9,rfl,B⟩
         ·have Z:=qq (b3.out B);have q:=qq (M.out.gr C.out.w);clear B;have f:=qq (q.out.bad 8 8 rfl Z.out);obtain⟨_,_,c0,c1,c2,n0,J,n2,f0⟩:=q.out;go_wp2;refine bodyPost_ret (v:=.tuple #[.agg #[.int .i64 0,.slice none 0 0,.string ⟨#[]⟩],.bool false,.int .i64 0,.int .i64 8]) ?_ rfl f.out;simp[results,results27,go_sem,c0,c1,c2]
         ·have B:=qq B;go_wp2_with fail;refine(q1.out _).mono ?_;rintro e w7⟨rfl,r⟩;have A:=qq (C.out.gr r);replace P:=r.cell P;replace R:=r.cell R;clear r C;have Z:=qq (b3.out B.out);have q:=qq (M.out.gr A.out.w);have f:=qq (q.out.bad 8 8 rfl Z.out);obtain⟨_,_,c0,c1,c2,n0,J,n2,f0⟩:=q.out;go_wp2;refine bodyPost_ret (v:=.tuple #[.agg #[.int .i64 0,.slice none 0 0,.string ⟨#[]⟩],.bool false,.int .i64 0,.int .i64 8]) ?_ rfl f.out;simp[results,results27,go_sem,c0,c1,c2]
         ·have B:=qq B;go_wp2_with fail;refine(q1.out _).mono ?_;rintro e w7⟨rfl,r⟩;have A:=qq (C.out.gr r);replace P:=r.cell P;replace R:=r.cell R;clear r C;go_wp2_with fail;refine(q2.out _).mono ?_;rintro e w8⟨rfl,r⟩;have F:=qq (A.out.gr r);replace P:=r.cell P;replace R:=r.cell R;clear r A;go_wp2_with fail;refine(qz.out _).mono ?_;rintro e w9⟨rfl,rfl⟩;have Z:=qq (b3.out B.out);have q:=qq (M.out.gr F.out.w);have f:=qq (q.out.bad 8 8 rfl Z.out);obtain⟨_,_,c0,c1,c2,n0,J,n2,f0⟩:=q.out;go_wp2;refine bodyPost_ret (v:=.tuple #[.agg #[.int .i64 0,.slice none 0 0,.string ⟨#[]⟩],.bool false,.int .i64 0,.int .i64 8]) ?_ rfl f.out;simp[results,results27,go_sem,c0,c1,c2]
         ·have S:=qq (λW (hW:PW w4 c (⟨fs,cls,lens+1,m⟩:RSt).fs W)=>QRel.next hj a9.out B (by first | exact f6 | exact g7) hW (show(j:Int)+1+1=(j:Int)+2 by omega) (le:=_) (cs:=_) (n:=_) rfl rfl rfl);clear B;go_wp2_with fail;refine(q1.out _).mono ?_;rintro e w7⟨rfl,r⟩;have A:=qq (C.out.gr r);replace P:=r.cell P;replace R:=r.cell R;clear r C;go_wp2_with fail;refine(q2.out _).mono ?_;rintro e w8⟨rfl,r⟩;have F:=qq (A.out.gr r);replace P:=r.cell P;replace R:=r.cell R;clear r A;go_wp2_with fail;refine(qz.out _).mono ?_;rintro e w9⟨rfl,rfl⟩;go_wp2;go_roundw
          case rel=>exact S.out _ F.out
          case measure=>simp[intOf];omega
         ·have S:=qq (λW (hW:PW w4 c (⟨fs,cls+1,lens,n⟩:RSt).fs W)=>QRel.next hj a9.out B (by first | exact f6 | exact g7) hW (show(j:Int)+1+1=(j:Int)+2 by omega) (le:=_) (cs:=_) (n:=_) rfl rfl rfl);clear B;unfold el at *;go_wp2_with fail;refine(q1.out _).mono ?_;rintro e w7⟨rfl,r⟩;have A:=qq (C.out.gr r);replace P:=r.cell P;replace R:=r.cell R;clear r C;go_wp2_with fail;refine(q2.out _).mono ?_;rintro e w8⟨rfl,r⟩;have F:=qq (A.out.gr r);replace P:=r.cell P;replace R:=r.cell R;clear r A;go_wp2_with fail;refine(q3.out _).mono ?_;rintro e w9⟨rfl,r⟩;have b6:=qq (F.out.gr r);replace P:=r.cell P;replace R:=r.cell R;clear r F;go_wp2;go_roundw
          case rel=>exact S.out _ b6.out
          case measure=>simp[intOf];omega
         ·have B:=qq B;go_wp2_with fail;refine(q1.out _).mono ?_;rintro e w7⟨rfl,r⟩;have A:=qq (C.out.gr r);replace P:=r.cell P;replace R:=r.cell R;clear r C;go_wp2_with fail;refine(q2.out _).mono ?_;rintro e w8⟨rfl,r⟩;have F:=qq (A.out.gr r);replace P:=r.cell P;replace R:=r.cell R;clear r A;go_wp2_with fail;refine(q3.out _).mono ?_;rintro e w9⟨rfl,r⟩;have b6:=qq (F.out.gr r);replace P:=r.cell P;replace R:=r.cell R;clear r F;have Z:=qq (b3.out B.out);have q:=qq (M.out.gr b6.out.w);have f:=qq (q.out.bad 8 8 rfl Z.out);obtain⟨_,_,c0,c1,c2,n0,J,n2,f0⟩:=q.out;go_wp2;refine bodyPost_ret (v:=.tuple #[.agg #[.int .i64 0,.slice none 0 0,.string ⟨#[]⟩],.bool false,.int .i64 0,.int .i64 8]) ?_ rfl f.out;simp[results,results27,go_sem,c0,c1,c2]
         ·have S:=qq (λW (hW:PW w4 c (⟨fs++[(J,v1)],cls,lens,n⟩:RSt).fs W)=>QRel.next hj a9.out B (by first | exact f6 | exact g7) hW (show(j:Int)+1+1=(j:Int)+2 by omega) (le:=_) (cs:=_) (n:=_) rfl rfl rfl);clear B;go_wp2_with fail;refine(q1.out _).mono ?_;rintro e w7⟨rfl,r⟩;have A:=qq (C.out.gr r);replace P:=r.cell P;replace R:=r.cell R;clear r C;go_wp2_with fail;refine(q2.out _).mono ?_;rintro e w8⟨rfl,r⟩;have F:=qq (A.out.gr r);replace P:=r.cell P;replace R:=r.cell R;clear r A;obtain⟨v,m0,m1,m2,ho,a5,hz,b1⟩:=F.out;obtain⟨pv,u,rfl,_⟩:=ho.at;have c6:=qq ho;have hA:∀O,(w8.alloc O).ownsRow (w4.heap.size+1) 80 2 (.slice pv fs.length u) fs.length (fY fs):=λO=>World.ownsRow.alloc ho O;obtain⟨i0,hi,f9,g0,g1⟩:=info_parts lq;clear ho;go_wp2_with (at_builtin;refine wpList_append_own _ rfl _ _ 49 rfl (w4.heap.size+1) 80 i0 (.agg #[.string ⟨#[]⟩,.string ⟨#[]⟩]) 2 32 underlying49 hi f9 g0 g1 rfl (by decide) _ _ _ rfl (hA _) ⟨w8.heap.size,0,none⟩ 1 1 [.string ⟨J.toArray⟩,.string ⟨v1.toArray⟩] rfl rfl ?qc2 ?qc3 ?qc4 ?qc5 ?qc6 ?_)
          case qc2=>exact lr _ _ _ _
          case qc3=>simp[Value.oneCell']
          case qc4=>unfold maxLen;omega
          case qc5=>omega
          case qc6=>simp;omega
          intro v' w9 D a6 _;have E:OwnF (w4.heap.size+1) w9 v' (fs++[(J,v1)]):=by
           unfold OwnF;rw[jD,qw];exact D
          obtain⟨c8,r1,r2⟩:=PW.push m0 m1 m2 c6.out a5 hz b1 E a6;obtain⟨p9,c9,rfl,_⟩:=E.at;have a7:(fs++[(J,v1)]).length=fs.length+1:=(by simp);rw[a7]at c8 ⊢;have e1:=qq c8;clear a7 D a6 hA hi f9 g0 g1 m0 m1 m2 a5 b1 E c8;go_wp2;go_roundw
          case rel=>exact S.out _ e1.out
          case measure=>simp[intOf];omega
         ·have S:=qq (λW (hW:PW w4 c (⟨fs++[(J,v1)],cls,lens,n⟩:RSt).fs W)=>QRel.next hj a9.out B (by first | exact f6 | exact g7) hW (show(j:Int)+1+1=(j:Int)+2 by omega) (le:=_) (cs:=_) (n:=_) rfl rfl rfl);clear B;go_wp2_with fail;refine(q1.out _).mono ?_;rintro e w7⟨rfl,r⟩;have A:=qq (C.out.gr r);replace P:=r.cell P;replace R:=r.cell R;clear r C;go_wp2_with fail;refine(q2.out _).mono ?_;rintro e w8⟨rfl,r⟩;have F:=qq (A.out.gr r);replace P:=r.cell P;replace R:=r.cell R;clear r A;go_wp2_with fail;refine(q3.out _).mono ?_;rintro e w9⟨rfl,r⟩;have b6:=qq (F.out.gr r);replace P:=r.cell P;replace R:=r.cell R;clear r F;obtain⟨v,m0,m1,m2,ho,a5,hz,b1⟩:=b6.out;obtain⟨pv,u,rfl,_⟩:=ho.at;have c6:=qq ho;have hA:∀O,(w9.alloc O).ownsRow (w4.heap.size+1) 80 2 (.slice pv fs.length u) fs.length (fY fs):=λO=>World.ownsRow.alloc ho O;obtain⟨i0,hi,f9,g0,g1⟩:=info_parts lq;clear ho;go_wp2_with (at_builtin;refine wpList_append_own _ rfl _ _ 49 rfl (w4.heap.size+1) 80 i0 (.agg #[.string ⟨#[]⟩,.string ⟨#[]⟩]) 2 32 underlying49 hi f9 g0 g1 rfl (by decide) _ _ _ rfl (hA _) ⟨w9.heap.size,0,none⟩ 1 1 [.string ⟨J.toArray⟩,.string ⟨v1.toArray⟩] rfl rfl ?qc2 ?qc3 ?qc4 ?qc5 ?qc6 ?_)
          case qc2=>exact lr _ _ _ _
          case qc3=>simp[Value.oneCell']
          case qc4=>unfold maxLen;omega
          case qc5=>omega
          case qc6=>simp;omega
          intro v' o7 D a6 _;have E:OwnF (w4.heap.size+1) o7 v' (fs++[(J,v1)]):=by
           unfold OwnF;rw[jD,qw];exact D
          obtain⟨c8,r1,r2⟩:=PW.push m0 m1 m2 c6.out a5 hz b1 E a6;obtain⟨p9,c9,rfl,_⟩:=E.at;have a7:(fs++[(J,v1)]).length=fs.length+1:=(by simp);rw[a7]at c8 ⊢;have e1:=qq c8;clear a7 D a6 hA hi f9 g0 g1 m0 m1 m2 a5 b1 E c8;go_wp2;go_roundw
          case rel=>exact S.out _ e1.out
          case measure=>simp[intOf];omega
        ·have o0:j=tl.length:=(by omega);subst o0;rw[List.take_length]at a9;have n9:¬(tl.length:Int)+1<(tl.length:Int)+1:=(by omega);have U:=qq (λW=>tY c W);have d5:=qq (show fH (l0 :: tl)=if (decide (cls≤1)&&decide (lens≤1))&&(bF c==(lens==0)) then some (c,fs,cls==1,if lens=0 then none else some n) else none from by rw[l5.out,a9.out];rfl);have N:=qq (M.out.gr d8.w);clear d8;by_cases p6:(1:Int)<lens
         ·have Z:=qq (show aP s head=.bad 8 by rw[b7.out,d5.out,decide_eq_false (show ¬lens≤1 by omega)];simp);have q:=N;have f:=qq (q.out.bad 8 8 rfl Z.out);obtain⟨_,_,c0,c1,c2,n0,J,n2,f0⟩:=q.out;go_wp2;refine bodyPost_ret (v:=.tuple #[.agg #[.int .i64 0,.slice none 0 0,.string ⟨#[]⟩],.bool false,.int .i64 0,.int .i64 8]) ?_ rfl f.out;simp[results,results27,go_sem,c0,c1,c2]
         ·by_cases p7:(1:Int)<cls
          ·have Z:=qq (show aP s head=.bad 8 by rw[b7.out,d5.out,decide_eq_false (show ¬cls≤1 by omega)];simp);have q:=N;have f:=qq (q.out.bad 8 8 rfl Z.out);obtain⟨_,_,c0,c1,c2,n0,J,n2,f0⟩:=q.out;go_wp2;refine bodyPost_ret (v:=.tuple #[.agg #[.int .i64 0,.slice none 0 0,.string ⟨#[]⟩],.bool false,.int .i64 0,.int .i64 8]) ?_ rfl f.out;simp[results,results27,go_sem,c0,c1,c2]
          ·have o2:lens=0∨lens=1:=(by omega);have f2:(decide (cls≤1)&&decide (lens≤1))=true:=(by rw[decide_eq_true (show cls≤1 by omega),decide_eq_true (show lens≤1 by omega)];rfl);have i2:=qq (show fH (l0 :: tl)=if (bF c==(lens==0)) then some (c,fs,cls==1,if lens=0 then none else some n) else none from by rw[d5.out,f2,Bool.true_and]);clear f2 d5;obtain⟨bb,i7⟩:∃b,bF c=b:=⟨_,rfl⟩;rw[i7]at U;have f7:=i2.out;rw[i7]at f7;have d6:=qq f7;clear f7 i2 i7;rcases o2 with rfl | rfl
           ·cases bb
            ·have Z:=qq (show aP s head=.bad 8 by rw[b7.out,d6.out];rfl);have q:=N;have f:=qq (q.out.bad 8 8 rfl Z.out);obtain⟨_,_,c0,c1,c2,n0,J,n2,f0⟩:=q.out;go_wp2_with fail;refine(U.out _).mono ?_;rintro e w9⟨rfl,rfl⟩;go_wp2;refine bodyPost_ret (v:=.tuple #[.agg #[.int .i64 0,.slice none 0 0,.string ⟨#[]⟩],.bool false,.int .i64 0,.int .i64 8]) ?_ rfl f.out;simp[results,results27,go_sem,c0,c1,c2]
            ·have e3:aP s head=if s.length<k+4+(if head then 0 else n) then .bad 7 else .good ⟨c,fs,(s.drop (k+4)).take (if head then 0 else n)⟩ (cls==1) (k+4+(if head then 0 else n)):=by
              rw[b7.out,d6.out];have h0:=l3.out rfl;simp[h0]
             have a0:=qq e3;clear e3;have a4:((cls:Int)==1)=(cls==1):=by
              have:cls=0∨cls=1:=(by omega);rcases this with rfl | rfl <;> rfl
             obtain⟨v,m0,m1,m2,ho,a5,hz,b1⟩:=d2.out;obtain⟨pv,u,rfl,_⟩:=ho.at;have c4:∀p:Addr,pv=some p→p.block≠w4.heap.size:=λp e=>by
              subst e;have:=(World.ownsRow.lt ho p.block rfl).1;omega
             have I:∀p:Addr,pv=some p→p.block≠w.heap.size:=λp e=>by
              subst e;have:=(World.ownsRow.lt ho p.block rfl).1;have:=M.out.2.1;omega
             have b2:w.heap.size≠w4.heap.size:=(by have:=M.out.2.1;omega);have b9:=qq ho.at;have f5:=qq N.out.1;have f8:=qq (show w.heap.size≤w4.heap.size by have:=M.out.2.1;omega);clear ho b1;cases head
             ·by_cases H:s.length<k+4+n
              ·have c3:(s.length:Int)<(k:Int)+4+n:=(by omega);have Z:=qq (show aP s false=.bad 7 by rw[a0.out];exact if_pos H);have q:=N;clear H a4;have f:=qq (q.out.bad 7 7 rfl Z.out);obtain⟨_,_,c0,c1,c2,n0,J,n2,f0⟩:=q.out;go_wp2_with fail;refine(U.out _).mono ?_;rintro e w9⟨rfl,rfl⟩;go_wp2;refine bodyPost_ret (v:=.tuple #[.agg #[.int .i64 0,.slice none 0 0,.string ⟨#[]⟩],.bool false,.int .i64 0,.int .i64 7]) ?_ rfl f.out;simp[results,results27,go_sem,c0,c1,c2]
              ·have c3:¬(s.length:Int)<(k:Int)+4+n:=(by omega);have X:aP s false=.good ⟨c,fs,(s.drop (k+4)).take n⟩ (cls==1) (k+4+n):=(by rw[a0.out];exact if_neg H);obtain⟨K,hK⟩:∃K,n=K:=⟨_,rfl⟩;subst hK;have f1:(⟨s.toArray⟩:ByteArray).extract (k+4) (k+4+n)=⟨((s.drop (k+4)).take n).toArray⟩:=(by rw[av,List.drop_take,show k+4+n - (k+4)=n by omega]);obtain⟨bd,i8⟩:∃b,(s.drop (k+4)).take n=b:=⟨_,rfl⟩;rw[i8]at f1 X;have f:=qq (show fK (aP s false) w (.returned (.tuple #[.agg #[.int .i64 c,.slice pv fs.length u,.string ⟨bd.toArray⟩],.bool ((cls:Int)==1),.int .i64 ((k:Int)+4+n),.int .i64 0])) ((((wr.setCell ⟨w4.heap.size,2,none⟩ (.string ⟨bd.toArray⟩)).setCell ⟨w.heap.size,0,none⟩ (.int .i64 c)).setCell ⟨w.heap.size,1,none⟩ (.slice pv fs.length u)).setCell ⟨w.heap.size,2,none⟩ (.string ⟨bd.toArray⟩))from by
                rw[X,a4];exact⟨.slice pv fs.length u,by simp only[rdV,rdR,rdC,rdN,rdE,Rp.V,Int.natCast_add,Int.natCast_zero,Int.add_zero];rfl,(((b9.out.put' c4 2 _).put' I 0 _).put' I 1 _).put' I 2 _,((((f5.out.setCell f8.out _).setCell (qv _) _).setCell (qv _) _).setCell (qv _) _)⟩)
               obtain⟨_,_,c0,c1,c2,n0,J,n2,f0⟩:=N.out;have f4:=a5 2;clear X a4 H;go_wp2_with fail;refine(U.out _).mono ?_;rintro e w9⟨rfl,rfl⟩;go_wp2;refine bodyPost_ret (v:=.tuple #[.agg #[.int .i64 c,.slice pv fs.length u,.string ⟨bd.toArray⟩],.bool ((cls:Int)==1),.int .i64 ((k:Int)+4+n),.int .i64 0]) ?_ rfl f.out;simp[results,results27,go_sem,c0,c1,c2,m0,m1,m2,b2,Ne.symm b2]
             ·have H:¬s.length<k+4+0:=(by omega);have c3:¬(s.length:Int)<(k:Int)+4:=(by omega);have X:aP s true=.good ⟨c,fs,[]⟩ (cls==1) (k+4+0):=(by rw[a0.out];exact if_neg H);have f:=qq (show fK (aP s true) w (.returned (.tuple #[.agg #[.int .i64 c,.slice pv fs.length u,.string ByteArray.empty],.bool ((cls:Int)==1),.int .i64 ((k:Int)+4),.int .i64 0])) ((((wr.setCell ⟨w4.heap.size,2,none⟩ (.string ByteArray.empty)).setCell ⟨w.heap.size,0,none⟩ (.int .i64 c)).setCell ⟨w.heap.size,1,none⟩ (.slice pv fs.length u)).setCell ⟨w.heap.size,2,none⟩ (.string ByteArray.empty))from by
               rw[X,a4];exact⟨.slice pv fs.length u,by simp only[rdV,rdR,rdC,rdN,rdE,Rp.V,Int.natCast_add,Int.natCast_zero,Int.add_zero];rfl,(((b9.out.put' c4 2 _).put' I 0 _).put' I 1 _).put' I 2 _,((((f5.out.setCell f8.out _).setCell (qv _) _).setCell (qv _) _).setCell (qv _) _)⟩)
              obtain⟨_,_,c0,c1,c2,n0,J,n2,f0⟩:=N.out;have f4:=a5 2;clear X a4 H;go_wp2_with fail;refine(U.out _).mono ?_;rintro e w9⟨rfl,rfl⟩;go_wp2;refine bodyPost_ret (v:=.tuple #[.agg #[.int .i64 c,.slice pv fs.length u,.string ByteArray.empty],.bool ((cls:Int)==1),.int .i64 ((k:Int)+4),.int .i64 0]) ?_ rfl f.out;simp[results,results27,go_sem,c0,c1,c2,m0,m1,m2,b2,Ne.symm b2]
           ·cases bb
            ·have e3:aP s head=if s.length<k+4+(if head then 0 else n) then .bad 7 else .good ⟨c,fs,(s.drop (k+4)).take (if head then 0 else n)⟩ (cls==1) (k+4+(if head then 0 else n)):=by
              rw[b7.out,d6.out];simp
             have a0:=qq e3;clear e3;have a4:((cls:Int)==1)=(cls==1):=by
              have:cls=0∨cls=1:=(by omega);rcases this with rfl | rfl <;> rfl
             obtain⟨v,m0,m1,m2,ho,a5,hz,b1⟩:=d2.out;obtain⟨pv,u,rfl,_⟩:=ho.at;have c4:∀p:Addr,pv=some p→p.block≠w4.heap.size:=λp e=>by
              subst e;have:=(World.ownsRow.lt ho p.block rfl).1;omega
             have I:∀p:Addr,pv=some p→p.block≠w.heap.size:=λp e=>by
              subst e;have:=(World.ownsRow.lt ho p.block rfl).1;have:=M.out.2.1;omega
             have b2:w.heap.size≠w4.heap.size:=(by have:=M.out.2.1;omega);have b9:=qq ho.at;have f5:=qq N.out.1;have f8:=qq (show w.heap.size≤w4.heap.size by have:=M.out.2.1;omega);clear ho b1;cases head
             ·by_cases H:s.length<k+4+n
              ·have c3:(s.length:Int)<(k:Int)+4+n:=(by omega);have Z:=qq (show aP s false=.bad 7 by rw[a0.out];exact if_pos H);have q:=N;clear H a4;have f:=qq (q.out.bad 7 7 rfl Z.out);obtain⟨_,_,c0,c1,c2,n0,J,n2,f0⟩:=q.out;go_wp2_with fail;refine(U.out _).mono ?_;rintro e w9⟨rfl,rfl⟩;go_wp2;refine bodyPost_ret (v:=.tuple #[.agg #[.int .i64 0,.slice none 0 0,.string ⟨#[]⟩],.bool false,.int .i64 0,.int .i64 7]) ?_ rfl f.out;simp[results,results27,go_sem,c0,c1,c2]
              ·have c3:¬(s.length:Int)<(k:Int)+4+n:=(by omega);have X:aP s false=.good ⟨c,fs,(s.drop (k+4)).take n⟩ (cls==1) (k+4+n):=(by rw[a0.out];exact if_neg H);obtain⟨K,hK⟩:∃K,n=K:=⟨_,rfl⟩;subst hK;have f1:(⟨s.toArray⟩:ByteArray).extract (k+4) (k+4+n)=⟨((s.drop (k+4)).take n).toArray⟩:=(by rw[av,List.drop_take,show k+4+n - (k+4)=n by omega]);obtain⟨bd,i8⟩:∃b,(s.drop (k+4)).take n=b:=⟨_,rfl⟩;rw[i8]at f1 X;have f:=qq (show fK (aP s false) w (.returned (.tuple #[.agg #[.int .i64 c,.slice pv fs.length u,.string ⟨bd.toArray⟩],.bool ((cls:Int)==1),.int .i64 ((k:Int)+4+n),.int .i64 0])) ((((wr.setCell ⟨w4.heap.size,2,none⟩ (.string ⟨bd.toArray⟩)).setCell ⟨w.heap.size,0,none⟩ (.int .i64 c)).setCell ⟨w.heap.size,1,none⟩ (.slice pv fs.length u)).setCell ⟨w.heap.size,2,none⟩ (.string ⟨bd.toArray⟩))from by
                rw[X,a4];exact⟨.slice pv fs.length u,by simp only[rdV,rdR,rdC,rdN,rdE,Rp.V,Int.natCast_add,Int.natCast_zero,Int.add_zero];rfl,(((b9.out.put' c4 2 _).put' I 0 _).put' I 1 _).put' I 2 _,((((f5.out.setCell f8.out _).setCell (qv _) _).setCell (qv _) _).setCell (qv _) _)⟩)
               obtain⟨_,_,c0,c1,c2,n0,J,n2,f0⟩:=N.out;have f4:=a5 2;clear X a4 H;go_wp2_with fail;refine(U.out _).mono ?_;rintro e w9⟨rfl,rfl⟩;go_wp2;refine bodyPost_ret (v:=.tuple #[.agg #[.int .i64 c,.slice pv fs.length u,.string ⟨bd.toArray⟩],.bool ((cls:Int)==1),.int .i64 ((k:Int)+4+n),.int .i64 0]) ?_ rfl f.out;simp[results,results27,go_sem,c0,c1,c2,m0,m1,m2,b2,Ne.symm b2]
             ·have H:¬s.length<k+4+0:=(by omega);have c3:¬(s.length:Int)<(k:Int)+4:=(by omega);have X:aP s true=.good ⟨c,fs,[]⟩ (cls==1) (k+4+0):=(by rw[a0.out];exact if_neg H);have f:=qq (show fK (aP s true) w (.returned (.tuple #[.agg #[.int .i64 c,.slice pv fs.length u,.string ByteArray.empty],.bool ((cls:Int)==1),.int .i64 ((k:Int)+4),.int .i64 0])) ((((wr.setCell ⟨w4.heap.size,2,none⟩ (.string ByteArray.empty)).setCell ⟨w.heap.size,0,none⟩ (.int .i64 c)).setCell ⟨w.heap.size,1,none⟩ (.slice pv fs.length u)).setCell ⟨w.heap.size,2,none⟩ (.string ByteArray.empty))from by
               rw[X,a4];exact⟨.slice pv fs.length u,by simp only[rdV,rdR,rdC,rdN,rdE,Rp.V,Int.natCast_add,Int.natCast_zero,Int.add_zero];rfl,(((b9.out.put' c4 2 _).put' I 0 _).put' I 1 _).put' I 2 _,((((f5.out.setCell f8.out _).setCell (qv _) _).setCell (qv _) _).setCell (qv _) _)⟩)
              obtain⟨_,_,c0,c1,c2,n0,J,n2,f0⟩:=N.out;have f4:=a5 2;clear X a4 H;go_wp2_with fail;refine(U.out _).mono ?_;rintro e w9⟨rfl,rfl⟩;go_wp2;refine bodyPost_ret (v:=.tuple #[.agg #[.int .i64 c,.slice pv fs.length u,.string ByteArray.empty],.bool ((cls:Int)==1),.int .i64 ((k:Int)+4),.int .i64 0]) ?_ rfl f.out;simp[results,results27,go_sem,c0,c1,c2,m0,m1,m2,b2,Ne.symm b2]
            ·have Z:=qq (show aP s head=.bad 8 by rw[b7.out,d6.out];rfl);have q:=N;have f:=qq (q.out.bad 8 8 rfl Z.out);obtain⟨_,_,c0,c1,c2,n0,J,n2,f0⟩:=q.out;go_wp2_with fail;refine(U.out _).mono ?_;rintro e w9⟨rfl,rfl⟩;go_wp2;refine bodyPost_ret (v:=.tuple #[.agg #[.int .i64 0,.slice none 0 0,.string ⟨#[]⟩],.bool false,.int .i64 0,.int .i64 8]) ?_ rfl f.out;simp[results,results27,go_sem,c0,c1,c2]
   ·have d0:Lib.occAt s ar k=false:=(by simpa using c7);rw[d0]at hcut;have o3:=qq (D8 c5.out d0);clear c7 d0;go_wp2;go_roundw
    case rel=>exact⟨k+1,by omega,rfl,by go_num,o3.out,q.out⟩
    case measure=>simp[intOf];omega
  ·have k9:¬(k:Int)+4≤s.length:=(by omega);have d9:=vS (head:=head) (zI (by omega) c5.out);clear c5;by_cases h6:s.length<65536
   ·rw[if_pos h6]at d9;have Z:=qq d9;have m4:(s.length:Int)<65536:=(by omega);clear d9 h6;have f:=qq (q.out.bad 7 7 rfl Z.out);obtain⟨_,_,c0,c1,c2,n0,J,n2,f0⟩:=q.out;go_wp2;refine bodyPost_ret (v:=.tuple #[.agg #[.int .i64 0,.slice none 0 0,.string ⟨#[]⟩],.bool false,.int .i64 0,.int .i64 7]) ?_ rfl f.out;simp[results,results27,go_sem,c0,c1,c2]
   ·rw[if_neg h6]at d9;have Z:=qq d9;have m4:decide ((s.length:Int)<65536)=false:=decide_eq_false (by omega);clear d9 h6;have f:=qq (q.out.bad 8 8 rfl Z.out);obtain⟨_,_,c0,c1,c2,n0,J,n2,f0⟩:=q.out;go_wp2;refine bodyPost_ret (v:=.tuple #[.agg #[.int .i64 0,.slice none 0 0,.string ⟨#[]⟩],.bool false,.int .i64 0,.int .i64 8]) ?_ rfl f.out;simp[results,results27,go_sem,c0,c1,c2]
