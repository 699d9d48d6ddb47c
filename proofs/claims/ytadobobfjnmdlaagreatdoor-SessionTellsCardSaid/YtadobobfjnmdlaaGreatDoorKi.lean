/-
  Walks over package chunk: a byte of a line, whatever it is.
-/
import Derived.Test.YtadobobfjnmdlaaGreatDoorKh2
import Derived.Deep.AppendLies
import Derived.Deep.RegionLaw
import Derived.Deep.RegionHeld3
set_option linter.unnecessarySimpa false
set_option linter.unusedVariables false
set_option linter.unusedSimpArgs false
set_option maxHeartbeats 16000000
set_option maxRecDepth 100000
open Go.Proofs.Tryz
namespace Go.Proofs.YtadobobfjnmdlaaGreatDoor
open Go.RowKit
theorem sJ (b:Nat)(c:Ck)(d:UInt8)(lv dv:Value)(W:World)(g:G W)(i:5<b)(h:Rd b W c lv dv)(a:CkOk c)(hs:c.st=0∨c.st=3) :
  Calls prog 137 #[.pointer (some ⟨b,0,none⟩),.int .u8 d.toNat] W λe l=>e=.returned (.tuple #[])∧RdPost b lv dv W (aw c d) l:=by
 by_cases hl:c.line=[]
 ·rcases hs with hs | hs
  ·cases f:d==10
   ·exact uZ b c d lv dv W g i h a hl hs f
   ·exact uW b c d lv dv W g i h a hl hs f
  ·by_cases hm:2048<c.tail+1
   ·exact vd b c d lv dv W g i h a hl hs hm
   ·cases f:d==10
    ·exact uX b c d lv dv W g i h a hl hs f hm
    ·exact va b c d lv dv W g i h a hl hs f hm
 ·obtain⟨L,x,hl⟩:∃L x,c.line=L++[x]:=⟨c.line.dropLast,c.line.getLast hl,(List.dropLast_concat_getLast hl).symm⟩;rcases hs with hs | hs
  ·cases j:crB c.line
   ·cases f:d==10
    ·by_cases k:c.line.length=2048
     ·exact u9 b c d lv dv W g i h a L x hl hs j f k
     ·exact ve b c d lv dv W g i h a L x hl hs j f k
    ·exact sG b c d lv dv W g i h a L x hl hs j f
   ·cases f:d==10
    ·exact sE b c d lv dv W g i h a L x hl hs j f
    ·exact uY b c d lv dv W g i h a L x hl hs j f
  ·by_cases hm:2048<c.tail+1
   ·cases j:crB c.line
    ·exact sF b c d lv dv W g i h a L x hl hs j hm
    ·exact sD b c d lv dv W g i h a L x hl hs j hm
   ·cases j:crB c.line
    ·cases f:d==10
     ·exact vb b c d lv dv W g i h a L x hl hs j f hm
     ·exact sI b c d lv dv W g i h a L x hl hs j f hm
    ·cases f:d==10
     ·exact sH b c d lv dv W g i h a L x hl hs j f hm
     ·exact vf b c d lv dv W g i h a L x hl hs j f hm
attribute [local go_sem] Oper.semAt_some
theorem fB {P:Program}{w:World}{ops:Array Oper}{o:Oper}{a:Act}{K:Act→World→Prop}{Q:Exit→Act→World→Prop}{E:Prop}(p:o.guard=none)(s x:Operand)(t u:TypeId)
  (z:o.op=.call { callee:=.builtin .append,args:=#[s,x],argTypes:=#[t,u] })
  (base:Nat) (e:TypeId) (i:TypeInfo) (B:P.underlying t=some (.slice e)) (C:P.underlying u=some .string) (hi:P.info? e=some i) (I:i.zero=some (.int .u8 0)) (f:i.size=1) (m:i.bytes=1)
  (v:Value) (n:Nat) (xs:List Value) (hs:a.eval s=v) (j:w.ownsRow base e 1 v n xs) (b:ByteArray) (H:a.eval x=.string b) (h0:0<b.size)
  (l:n+b.size≤maxLen) (c:n+b.size≤140737488355328) (d:base≤w.heap.size) (N:Nat) (y:n+b.size=N)
  (h:∀g cap w',w'.ownsRow base e 1 (.slice (some ⟨g,0,none⟩) N cap) N (xs++Lib.strCells b)→w.grownBy w' v.ownBlock→(v.ownBlock=some g∨g=w.heap.size)→K (a.put o.dst (.slice (some ⟨g,0,none⟩) N cap)) w') :
  if Region.wanted o (yielded ops a.tmps)=true then Oper.wp P o a w K Q else E:=by
 have F:Region.wanted o (yielded ops a.tmps)=true:=by simp[Region.wanted,p]
 rw[if_pos F];obtain⟨J,w',A,k,q,r⟩:=lc (P:=P) w base t u o.type e i B C hi I f m v n xs j b l c d;rw[y]at k;obtain⟨g,cap,D,_,_⟩:=World.ownsRow.form k (by omega);subst D;unfold Oper.wp execOp;simp only[z,resolve,invoke,builtin,Sem.run_bind,Sem.run_pure,Result.andThen_ok,List.map_toArray,List.map_cons,List.map_nil,hs,H,A];exact h g cap w' k q (r.imp (λe=>e.symm) (λe=>Option.some.inj e))
def FeedRel (b:Nat)(lv dv:Value)(W:World)(c:Ck)(s:List UInt8)(k:Nat)(wr:World):Prop :=
 ∃r lv' dv',Rd b wr r lv' dv'∧Ch (Fp b lv dv) W wr∧(∀j,Fp b lv' dv' j→Fp b lv dv j∨W.heap.size≤j)∧CkOk r∧feedC c s=(k+(feedC r (s.drop k)).1,(feedC r (s.drop k)).2)
theorem FeedRel.next {b:Nat}{lv dv d a:Value}{W wr i:World}{c r e:Ck}{s:List UInt8}{k m:Nat}(p:Ch (Fp b lv dv) W wr)(q:∀j,Fp b d a j→Fp b lv dv j∨W.heap.size≤j)
  (u:RdPost b d a wr e i) (g:CkOk e) (t:feedC c s=(k+(feedC r (s.drop k)).1,(feedC r (s.drop k)).2)) (hs:feedC r (s.drop k)=(m+(feedC e (s.drop (k+m))).1,(feedC e (s.drop (k+m))).2)):FeedRel b lv dv W c s (k+m) i:=by
 obtain⟨h,f,l,n,o⟩:=RdPost.after p q u;refine⟨e,h,f,l,n,o,g,?_⟩;rw[t,hs];simp;omega
theorem BX {r:Ck}{s:List UInt8}{k:Nat}{d:UInt8}(c:k<s.length)(b:s[k]=d)(a:r.st≠4):feedC r (s.drop k)=(1+(feedC (eY r d) (s.drop (k+1))).1,(feedC (eY r d) (s.drop (k+1))).2):=by
 rw[List.drop_eq_getElem_cons c,b,gD a,Nat.add_comm]
theorem y7 {r:Ck}{s:List UInt8}{k m:Nat}(b:r.st=1)(h0:1≤m)(hl:m≤r.left)(c:k+m≤s.length) :
  feedC r (s.drop k)=(m+(feedC { r with data:=r.data++(s.drop k).take m,left:=r.left - m,st:=if r.left=m then 2 else 1 } (s.drop (k+m))).1,(feedC { r with data:=r.data++(s.drop k).take m,left:=r.left - m,st:=if r.left=m then 2 else 1 } (s.drop (k+m))).2):=by
 have a:((s.drop k).take m).length=m:=by rw[List.length_take,List.length_drop];omega
 have:=kB ((s.drop k).take m) ((s.drop k).drop m) r;rw[List.take_append_drop]at this;rw[this,lC _ b (by omega) (by omega),a,List.drop_drop]
theorem DU {r:Ck}{a:List UInt8}(h:CkOk r)(b:r.st=1)(h0:1≤a.length)(hl:a.length≤r.left):CkOk { r with data:=r.data++a,left:=r.left - a.length,st:=if r.left=a.length then 2 else 1 }:=by
 have:=mr a h;rw[lC a b h0 hl]at this;exact this
theorem Rd.grown {b:Nat}{W k:World}{c:Ck}{lv dv m:Value}{a:List UInt8}(g:Rd b W c lv dv)(h0:0<a.length){N:Nat}(t:c.data.length+a.length=N)(q:k.ownsRow (b+1) 5 1 m N (am c.data++Lib.strCells ⟨a.toArray⟩))(o:W.grownBy k dv.ownBlock)(r:m.ownBlock=dv.ownBlock∨m.ownBlock=some W.heap.size) :
  (Rd b (k.setCell ⟨b,3,none⟩ m) { c with data:=c.data++a } lv m∧Ch (Fp b lv dv) W (k.setCell ⟨b,3,none⟩ m)∧∀j,Fp b lv m j→Fp b lv dv j∨W.heap.size≤j) ∧
  k.cell? ⟨b,3,none⟩=some dv∧k.frozen? ⟨b,3,none⟩=false∧k.cell? ⟨b,2,none⟩=some (.int .i64 c.left)∧k.frozen? ⟨b,2,none⟩=false∧k.cell? ⟨b,0,none⟩=some (.int .i64 c.st)∧k.frozen? ⟨b,0,none⟩=false:=by
 have l:OwnB (b+1) k m (c.data++a):=by
  unfold OwnB;rw[qw,gK,←lT a,t];exact q
 obtain⟨v,s,u,_⟩:=OwnB.row l (by simp;omega);have f:Ch (λj=>dv.ownBlock=some j) W k:=dx o;have n:m.ownBlock=dv.ownBlock∨∀j,m.ownBlock=some j→W.heap.size≤j:=by
  rcases r with e | e
  ·exact .inl e
  ·refine .inr λj h=>?_;rw[e]at h;injection h with h;omega
 have i:¬(dv.ownBlock=some b):=λe=>by have:=g.d.lt b e;omega
 refine⟨⟨g.redata f l n,(f.mono (λj h=>.inr (.inr h))).trans (bK _ _ _),λj h=>?_⟩,
  (f.cell (p:=⟨b,3,none⟩) g.lt i).trans g.c3,(f.frozen (p:=⟨b,3,none⟩) g.lt i).trans (g.fz 3),(f.cell (p:=⟨b,2,none⟩) g.lt i).trans g.c2,
  (f.frozen (p:=⟨b,2,none⟩) g.lt i).trans (g.fz 2),(f.cell (p:=⟨b,0,none⟩) g.lt i).trans g.c0,(f.frozen (p:=⟨b,0,none⟩) g.lt i).trans (g.fz 0)⟩
 rcases h with h | h | h
 ·exact .inl (.inl h)
 ·exact .inl (.inr (.inl h))
 ·rcases n with e | e
  ·exact .inl (.inr (.inr (e▸h)))
  ·exact .inr (e j h)
theorem y8 (b:Nat)(c:Ck)(s:List UInt8)(lv dv:Value)(W:World)(hG:G W)(hb:5<b)(h:Rd b W c lv dv)(f:CkOk c)(hl:s.length≤1000000) :
  Calls prog 108 #[.pointer (some ⟨b,0,none⟩),.string ⟨s.toArray⟩] W λe W'=>e=.returned (.int .i64 (feedC c s).1)∧RdPost b lv dv W (feedC c s).2 W':=by
 obtain⟨i0,hi,b7,b8,b9⟩:=info_parts bL;have h':=qq h;have c1:=qq hG;have b1:=qq hb;have d1:=qq (show FeedRel b lv dv W c s 0 W from⟨c,lv,dv,h,Ch.refl _ _,λ_ hj=>.inl hj,f,by simp⟩);have c5:=qq (λj=>h.fp_lt j);have e4:=qq (ae hG.max.choose_spec);clear h hG hb f;go_enter func108,ntmps108;go_wp2;go_loopw [5] (λi wr=>∃k:Nat,k≤s.length∧i=.int .i64 k∧FeedRel b lv dv W c s k wr) (λi _=>s.length - (intOf i).toNat)
 case atStart=>exact⟨0,qx _,rfl,d1.out⟩
 case round =>
  obtain⟨k,hk,rfl,r,p,o,z,hC,hS,f,Y⟩:=hrel;have c4:=qq (c1.out.ch hC (λg hg e=>by
   have H:=b1.out;have h2:=c5.out _ e;omega))
  have b0:=qq z;have I:=qq hC;have J:=qq hS;have e0:=qq f;have T:=qq Y;have q0:=z.c0;by_cases b4:k<s.length
  ·by_cases U:r.st=4
   ·rw[U]at q0;have q:=qq (show feedC c s=(k,r) by rw[Y,iU U];rfl);clear z hC hS f Y U;go_wp2;refine bodyPost_ret (v:=.int .i64 k) (by simp[results,results108,go_sem]) rfl ⟨by rw[q.out],?_⟩;rw[q.out];exact⟨p,o,b0.out,I.out,J.out⟩
   ·obtain⟨d,hd⟩:∃d,(⟨s.toArray⟩:ByteArray)[k]'(by rw[aj];exact b4)=d:=⟨_,rfl⟩;have O:=qq (BX b4 (show s[k]=d from hd) U);have t:=qq (xK d f U);by_cases H:r.st=1
    ·rw[H]at q0;obtain⟨o1,o2,o3⟩:=f.one H;obtain⟨m,hm⟩:∃m,min r.left (s.length - k)=m:=⟨_,rfl⟩;have c8:1≤m:=(by omega);have d0:m≤r.left:=(by omega);have c9:k+m≤s.length:=(by omega);have d9:min (r.left:Int) ((s.length:Int) - k)=m:=(by omega);obtain⟨a,ha⟩:∃a,(s.drop k).take m=a:=⟨_,rfl⟩;have a4:a.length=m:=(by rw[←ha,List.length_take,List.length_drop];omega);have hx:(⟨s.toArray⟩:ByteArray).extract k (k+m)=⟨a.toArray⟩:=(by rw[av,←ha];simp[List.drop_take]);have E:=y7 H c8 d0 c9;rw[ha]at E;have F:=DU (a:=a) f H (by omega) (by omega);rw[a4]at F;have q2:=z.c2;have q3:=z.c3;obtain⟨pd,cd,a5⟩:=aJ z.d;obtain⟨L,a6⟩:∃L,k+m=L:=⟨_,rfl⟩;obtain⟨w,a7⟩:∃w,r.left - m=w:=⟨_,rfl⟩;have d5:(k:Int)+m=L:=(by omega);have d7:(r.left:Int) - m=w:=(by omega);have d2:(L:Int)≤s.length:=(by omega);have d3:(k:Int)≤L:=(by omega);have d4:(L:Int)≤1000000:=(by omega);have c6:k≤L:=(by omega);have e5:IntKind.i64.wrap (L:Int)=L:=(by unfold IntKind.wrap;simp[IntKind.bits,IntKind.signed];omega);have e2:(r.left:Int)≤4096:=(by omega);have d6:(w:Int)≤4096:=(by omega);rw[a6]at hx;rw[a7]at E F;have a0:=qq E;have a1:=qq F;have d8:1≤(m:Int):=(by omega);have e3:(m:Int)≤4096:=(by omega);have C:=qq a6;have Z:L≤s.length:=(by omega);have S:=qq (show r.data.length≤4096 from f.data);have A:=qq a4;obtain⟨n9,b6⟩:∃n9,r.data.length+a.length=n9:=⟨_,rfl⟩;have D:=qq b6;have R:=qq (z.ch (Ch.drew (λ_=>False) wr) (λ_ h=>h.elim));have b2:=z.lt;have V:=qq b2;rw[a5]at q3;have X:=qq a5;have a9:=qq H;have e1:(k:Int)<s.length:=(by omega);have B:=qq (show 0<a.length by omega);clear z hC hS f Y U hm ha E F a5 a6 o2 o3 O t a4 b6;by_cases hz:w=0
     ·have c7:((w:Int)==0)=true:=(by rw[beq_iff_eq];omega);have a3:=qq (show({ r with data:=r.data++a,left:=w,st:=if r.left=m then 2 else 1 }:Ck)={ { { r with data:=r.data++a }with left:=w }with st:=2 }from by rw[if_pos (by omega)]);clear hz a7 H;go_wp2_with fail;go_region_law (refine fB (by rfl) (.tmp 44) (.tmp 50) 100 9 (by rfl) (b+1) 5 i0 underlying100 underlying9 hi b7 b8 b9 o r.data.length (am r.data) (by exact X.out.symm) R.out.d ⟨a.toArray⟩ (by rfl) (by rw[aj];exact B.out) (by rw[aj,A.out];have:=S.out;unfold maxLen;omega) (by rw[aj,A.out];have:=S.out;omega) V.out n9 (by rw[aj];exact D.out) ?_;intro g9 M w9 u l N;obtain⟨P,u3,y3,u2,y2,u0,y0⟩:=R.out.grown B.out D.out u l (N.imp (λe=>e.symm) (λe=>congrArg some e));rw[a9.out]at u0;have a8:=qq P;clear P u l N);go_wp2;go_round
      case rel =>
       refine⟨L,Z,rfl,?_⟩;obtain⟨x1,x2,x3⟩:=a8.out;have x:RdPost b p o wr { r with data:=r.data++a,left:=w,st:=if r.left=m then 2 else 1 } (((w9.setCell ⟨b,3,none⟩ (.slice (some ⟨g9,0,none⟩) n9 M)).setCell ⟨b,2,none⟩ (.int .i64 w)).setCell ⟨b,0,none⟩ (.int .i64 2)):=by
        rw[a3.out];exact RdPost.after (Ch.drew (Fp b p o) wr) bA ⟨p,_,(x1.set2 w).set0 2,x2.trans ((bK _ _ _).trans (bK _ _ _)),x3⟩
       have:=FeedRel.next I.out J.out x a1.out T.out (by rw[a0.out,C.out])
       rwa [C.out]at this
      case measure=>simp[intOf];omega
     ·have c7:((w:Int)==0)=false:=qk.2 (by omega);have a3:=qq (show({ r with data:=r.data++a,left:=w,st:=if r.left=m then 2 else 1 }:Ck)={ { r with data:=r.data++a }with left:=w }from by rw[if_neg (by omega),H]);clear hz a7 H;go_wp2_with fail;go_region_law (refine fB (by rfl) (.tmp 44) (.tmp 50) 100 9 (by rfl) (b+1) 5 i0 underlying100 underlying9 hi b7 b8 b9 o r.data.length (am r.data) (by exact X.out.symm) R.out.d ⟨a.toArray⟩ (by rfl) (by rw[aj];exact B.out) (by rw[aj,A.out];have:=S.out;unfold maxLen;omega) (by rw[aj,A.out];have:=S.out;omega) V.out n9 (by rw[aj];exact D.out) ?_;intro g9 M w9 u l N;obtain⟨P,u3,y3,u2,y2,u0,y0⟩:=R.out.grown B.out D.out u l (N.imp (λe=>e.symm) (λe=>congrArg some e));rw[a9.out]at u0;have a8:=qq P;clear P u l N);go_wp2;go_round
      case rel =>
       refine⟨L,Z,rfl,?_⟩;obtain⟨x1,x2,x3⟩:=a8.out;have x:RdPost b p o wr { r with data:=r.data++a,left:=w,st:=if r.left=m then 2 else 1 } ((w9.setCell ⟨b,3,none⟩ (.slice (some ⟨g9,0,none⟩) n9 M)).setCell ⟨b,2,none⟩ (.int .i64 w)):=by
        rw[a3.out];exact RdPost.after (Ch.drew (Fp b p o) wr) bA ⟨p,_,x1.set2 w,x2.trans (bK _ _ _),x3⟩
       have:=FeedRel.next I.out J.out x a1.out T.out (by rw[a0.out,C.out])
       rwa [C.out]at this
      case measure=>simp[intOf];omega
    ·by_cases h2:r.st=2
     ·rw[h2]at q0;have n:eY r d=nI r d:=(by unfold eY;rw[if_neg H,if_pos h2]);rw[n]at O t;have b3:=qq (DS b r d p o wr z (f.two h2));clear z hC hS f Y U H h2 n;go_wp2_with fail;refine(b3.out).mono ?_;rintro e w2⟨rfl,P⟩;have y:=qq (FeedRel.next I.out J.out P t.out T.out O.out);clear P;go_wp2;go_round
      case rel=>exact⟨k+1,by omega,by go_num,y.out⟩
      case measure=>simp[intOf];omega
     ·have n:eY r d=aw r d:=(by unfold eY;rw[if_neg H,if_neg h2]);have a2:r.st=0∨r.st=3:=(by have:=f.st;omega);rw[n]at O t;have b5:=qq (sJ b r d p o wr c4.out b1.out z f a2);clear z hC hS f Y U H h2 n;rcases a2 with h0 | h0;all_goals
       rw[h0]at q0;clear h0;go_wp2_with fail;refine(b5.out).mono ?_;rintro e w2⟨rfl,P⟩;have y:=qq (FeedRel.next I.out J.out P t.out T.out O.out);clear P;go_wp2;go_round
       case rel=>exact⟨k+1,by omega,by go_num,y.out⟩
       case measure=>simp[intOf];omega
  ·obtain rfl:k=s.length:=(by omega);have q:=qq (show feedC c s=(s.length,r) by rw[Y,List.drop_length];rfl);clear z hC hS f Y;go_wp2;refine bodyPost_ret (v:=.int .i64 s.length) (by simp[results,results108,go_sem]) rfl ⟨by rw[q.out],?_⟩;rw[q.out];exact⟨p,o,b0.out,I.out,J.out⟩
theorem BY (b:Nat)(c c':Ck)(s:List UInt8)(n:Nat)(i:feedC c s=(n,c'))(lv dv:Value)(W:World)(f:G W)(g:5<b)(h:Rd b W c lv dv)(a:CkOk c)(hl:s.length≤1000000) :
  Calls prog 108 #[.pointer (some ⟨b,0,none⟩),.string ⟨s.toArray⟩] W λe d=>e=.returned (.int .i64 n)∧RdPost b lv dv W c' d:=by
 have:=y8 b c s lv dv W f g h a hl;rw[i]at this;exact this
theorem DV (b:Nat)(c:Ck)(f:Bool)(hf:decide (c.st=4∧c.bad=0)=f)(lv dv:Value)(W:World)(h:Rd b W c lv dv) :
  Calls prog 111 #[.pointer (some ⟨b,0,none⟩)] W λe a=>e=.returned (.bool f)∧W=a:=hf▸BW b c lv dv W h
def ChAt (T:Nat→Prop)(W:World)(o:Option Ck)(cv:Value):Prop:=match o with
 | none=>cv=.pointer none
 | some c=>∃b lv dv,cv=.pointer (some ⟨b,0,none⟩)∧Rd b W c lv dv∧CkOk c∧5<b∧∀k,Fp b lv dv k→T k
def vg (T:Nat→Prop)(v:Value):Prop:=∀a n c,v=.slice (some a) n c→¬T a.block
structure PsAt (B:Nat)(T:Nat→Prop)(W:World)(p:Ps)(fv cv:Value):Prop where
 c0:W.cell? ⟨B,0,none⟩=some (.string ⟨p.inp.toArray⟩)
 c1:W.cell? ⟨B,1,none⟩=some (.string ⟨p.und.toArray⟩)
 c2:W.cell? ⟨B,2,none⟩=some (.bool p.head)
 c3:W.cell? ⟨B,3,none⟩=some (.string ⟨p.r.m.toArray⟩)
 c4:W.cell? ⟨B,4,none⟩=some (.string ⟨p.r.p.toArray⟩)
 c5:W.cell? ⟨B,5,none⟩=some (.string ⟨p.r.q.toArray⟩)
 c6:W.cell? ⟨B,6,none⟩=some (.int .i64 p.r.v)
 c7:W.cell? ⟨B,7,none⟩=some fv
 c8:W.cell? ⟨B,8,none⟩=some (.string ⟨p.r.b.toArray⟩)
 c9:W.cell? ⟨B,9,none⟩=some (.bool p.r.c)
 c10:W.cell? ⟨B,10,none⟩=some (.int .i64 p.len)
 c11:W.cell? ⟨B,11,none⟩=some cv
 c12:W.cell? ⟨B,12,none⟩=some (.int .i64 p.bad)
 fz:∀o,W.frozen? ⟨B,o,none⟩=false
 f:FieldsAt W fv p.r.fs
 fo:vg T fv
 ch:ChAt (λk=>T k∧k≠B) W p.ch cv
 tb:T B
 tl:∀k,T k→B≤k∧k<W.heap.size
 gb:5<B
 fb:∀a n c,fv=.slice (some a) n c→a.block<W.heap.size
theorem FieldsAt.ch {T:Nat→Prop}{W c:World}{v:Value}{fs:List Fl}(h:FieldsAt W v fs)(j:Ch T W c)(l:vg T v):FieldsAt c v fs:=by
 obtain⟨p,cap,e,a⟩:=h;refine⟨p,cap,e,λi hi=>?_⟩;obtain⟨b,off,k,d,f⟩:=a i hi;have g:¬T b:=l ⟨b,off,none⟩ _ _ (by rw[e,k]);exact⟨b,off,k,(j.cell (p:=⟨b,off+i*2,none⟩) (ae d) g).trans d,(j.cell (p:=⟨b,off+i*2+1,none⟩) (ae f) g).trans f⟩
theorem ChAt.gr {T:Nat→Prop}{W a:World}{o:Option Ck}{cv:Value}(h:ChAt T W o cv)(g:Gr W a):ChAt T a o cv:=by
 cases o with
 | none=>exact h
 | some c =>
  obtain⟨b,lv,dv,d,e,f⟩:=h;exact⟨b,lv,dv,d,e.gr g,f⟩
theorem ChAt.ch {T S:Nat→Prop}{W a:World}{o:Option Ck}{cv:Value}(h:ChAt T W o cv)(j:Ch S W a)(l:∀k,S k→¬T k):ChAt T a o cv:=by
 cases o with
 | none=>exact h
 | some c =>
  obtain⟨b,lv,dv,e,f,g,i,d⟩:=h;exact⟨b,lv,dv,e,f.ch j (λk m hf=>l k m (d k hf)),g,i,d⟩
theorem PsAt.lt {B:Nat}{T:Nat→Prop}{W:World}{p:Ps}{a cv:Value}(h:PsAt B T W p a cv):B<W.heap.size:=ae h.c0
theorem PsAt.gr {B:Nat}{T:Nat→Prop}{W d:World}{p:Ps}{g cv:Value}(h:PsAt B T W p g cv)(b:Gr W d):PsAt B T d p g cv :=
 ⟨b.cell h.c0,b.cell h.c1,b.cell h.c2,b.cell h.c3,b.cell h.c4,b.cell h.c5,b.cell h.c6,b.cell h.c7,b.cell h.c8,b.cell h.c9,b.cell h.c10,b.cell h.c11,b.cell h.c12,
  λo=>(Below.frozen b (show(⟨B,o,none⟩:Addr).block<W.heap.size from h.lt)).trans (h.fz o),h.f.gr b,h.fo,h.ch.gr b,h.tb,λk i=>⟨(h.tl k i).1,qj (h.tl k i).2 (Below.size b)⟩,h.gb,λa n c e=>qj (h.fb a n c e) (Below.size b)⟩
theorem PsAt.ch_out {B:Nat}{T S:Nat→Prop}{W g:World}{p:Ps}{i cv:Value}(h:PsAt B T W p i cv)(b:Ch S W g)(l:∀k,S k→¬T k)(hf:vg S i):PsAt B T g p i cv:=by
 have j:¬S B:=λe=>l B e h.tb;have cell:∀ {o v},W.cell? ⟨B,o,none⟩=some v→g.cell? ⟨B,o,none⟩=some v:=fun {o v} m=>(b.cell (p:=⟨B,o,none⟩) h.lt j).trans m;exact⟨cell h.c0,cell h.c1,cell h.c2,cell h.c3,cell h.c4,cell h.c5,cell h.c6,cell h.c7,cell h.c8,cell h.c9,cell h.c10,cell h.c11,cell h.c12,
  λo=>(b.frozen (p:=⟨B,o,none⟩) h.lt j).trans (h.fz o),h.f.ch b hf,h.fo,h.ch.ch b (λk d q=>l k d q.1),h.tb,λk d=>⟨(h.tl k d).1,qj (h.tl k d).2 b.size⟩,h.gb,λa n c e=>qj (h.fb a n c e) b.size⟩
def PsPost (B:Nat)(T:Nat→Prop)(W:World)(p':Ps)(W':World):Prop :=
 ∃T' fv cv,PsAt B T' W' p' fv cv∧Ch T W W'∧(∀k,T' k→T k∨W.heap.size≤k)∧∀a n c,fv=.slice (some a) n c→(∃n0 c0,W.cell? ⟨B,7,none⟩=some (.slice (some a) n0 c0))∨W.heap.size≤a.block
theorem PsPost.trans {B:Nat}{T:Nat→Prop}{W f W2:World}{r s:Ps}(h:PsPost B T W r f)(k:∀d u cv,PsAt B d f r u cv→PsPost B d f s W2):PsPost B T W s W2:=by
 obtain⟨d,l,g,p,b,q,v⟩:=h;obtain⟨t,m,i,k1,k2,k3,k4⟩:=k d l g p;have hs:=b.size;refine⟨t,m,i,k1,?_,λj o=>?_,λa n c e=>(k4 a n c e).elim (λ⟨w,c0,e2⟩=>v a w c0 (Option.some.inj (p.c7.symm.trans e2))) (λe=>.inr (by omega))⟩
 ·refine⟨k2.os.trans b.os,k2.tape.trans b.tape,k2.output.trans b.output,qy b.size k2.size,λj o hn=>?_⟩;have:¬d j:=λe=>(q j e).elim hn (by omega);exact(k2.block j (by omega) this).trans (b.block j o hn)
 ·rcases k3 j o with e | e
  ·exact q j e
  ·exact .inr (by omega)
theorem PsPost.G {B:Nat}{T:Nat→Prop}{W a:World}{p i:Ps}{c cv:Value}(h:PsPost B T W i a)(b:PsAt B T W p c cv)(e:G W):G a:=by
 obtain⟨_,_,_,_,d,_,_⟩:=h;exact e.ch d (λg j f=>by have:=(b.tl g f).1;have:=b.gb;omega)
theorem PsPost.of_gr {B:Nat}{T:Nat→Prop}{W a:World}{p:Ps}{b cv:Value}(f:PsAt B T W p b cv)(d:Gr W a):PsPost B T W p a :=
 ⟨T,b,cv,f.gr d,d.to_ch T,λ_ g=>.inl g,λh n c e=>.inl ⟨n,c,e▸f.c7⟩⟩
theorem PsPost.ahead {B:Nat}{T:Nat→Prop}{W d W2:World}{f:Ps}(q:B<W.heap.size)(b:Gr W d)(h:PsPost B T d f W2):PsPost B T W f W2:=by
 obtain⟨g,i,cv,j,l,m,o⟩:=h;have hs:=Below.size b;exact⟨g,i,cv,j,(b.to_ch T).trans l,λk r=>(m k r).imp id (λe=>by omega),λa n c e=>(o a n c e).elim (λ⟨s,c0,e2⟩=>.inl ⟨s,c0,(Below.cell b (p:=⟨B,7,none⟩) q).symm.trans e2⟩) (λe=>.inr (by omega))⟩
theorem PsPost.behind {B:Nat}{T:Nat→Prop}{W a W2:World}{c:Ps}(h:PsPost B T W c a)(b:Gr a W2):PsPost B T W c W2:=by
 obtain⟨d,e,cv,f,g,i,j⟩:=h;exact⟨d,e,cv,f.gr b,g.trans (b.to_ch T),i,j⟩
theorem Ch.putB {B o:Nat}(W:World)(v:Value):Ch (λk=>k=B) W (W.setCell ⟨B,o,none⟩ v):=Ch.setCell (T:=λk=>k=B) W (a:=⟨B,o,none⟩) rfl v
theorem ChAt.put {T:Nat→Prop}{B:Nat}{W:World}{o:Option Ck}{cv:Value}(h:ChAt (λk=>T k∧k≠B) W o cv)(j:Nat)(v:Value):ChAt (λk=>T k∧k≠B) (W.setCell ⟨B,j,none⟩ v) o cv :=
 h.ch (Ch.putB W v) (λ_ a b=>b.2 a)
theorem FieldsAt.putB {T:Nat→Prop}{B:Nat}{W:World}{b:Value}{fs:List Fl}(h:FieldsAt W b fs)(g:vg T b)(d:T B)(j:Nat)(v:Value):FieldsAt (W.setCell ⟨B,j,none⟩ v) b fs :=
 h.ch (Ch.putB W v) (λa n c e f=>g a n c e (by rw[show a.block=B from f];exact d))
theorem PsAt.two {B:Nat}{T:Nat→Prop}{W:World}{p:Ps}{b cv:Value}(h:PsAt B T W p b cv)(i u:List UInt8) :
  PsAt B T ((W.setCell ⟨B,1,none⟩ (.string ⟨u.toArray⟩)).setCell ⟨B,0,none⟩ (.string ⟨i.toArray⟩)) { p with inp:=i,und:=u } b cv:=by
 refine⟨?_,?_,?_,?_,?_,?_,?_,?_,?_,?_,?_,?_,?_,λo=>by simp[go_sem,h.fz],(h.f.putB h.fo h.tb 1 _).putB h.fo h.tb 0 _,h.fo,(h.ch.put 1 _).put 0 _,h.tb,λk d=>⟨(h.tl k d).1,by simpa using(h.tl k d).2⟩,h.gb,λa n c e=>by simpa using h.fb a n c e⟩;all_goals simp[go_sem,h.c0,h.c1,h.c2,h.c3,h.c4,h.c5,h.c6,h.c7,h.c8,h.c9,h.c10,h.c11,h.c12]
theorem PsAt.inp {B:Nat}{T:Nat→Prop}{W:World}{p:Ps}{b cv:Value}(h:PsAt B T W p b cv)(i:List UInt8) :
  PsAt B T (W.setCell ⟨B,0,none⟩ (.string ⟨i.toArray⟩)) { p with inp:=i } b cv:=by
 refine⟨?_,?_,?_,?_,?_,?_,?_,?_,?_,?_,?_,?_,?_,λo=>by simp[go_sem,h.fz],h.f.putB h.fo h.tb 0 _,h.fo,h.ch.put 0 _,h.tb,λk d=>⟨(h.tl k d).1,by simpa using(h.tl k d).2⟩,h.gb,λa n c e=>by simpa using h.fb a n c e⟩;all_goals simp[go_sem,h.c0,h.c1,h.c2,h.c3,h.c4,h.c5,h.c6,h.c7,h.c8,h.c9,h.c10,h.c11,h.c12]
theorem PsAt.sbad {B:Nat}{T:Nat→Prop}{W:World}{p:Ps}{b cv:Value}(h:PsAt B T W p b cv)(n:Nat) :
  PsAt B T (W.setCell ⟨B,12,none⟩ (.int .i64 n)) { p with bad:=n } b cv:=by
 refine⟨?_,?_,?_,?_,?_,?_,?_,?_,?_,?_,?_,?_,?_,λo=>by simp[go_sem,h.fz],h.f.putB h.fo h.tb 12 _,h.fo,h.ch.put 12 _,h.tb,λk d=>⟨(h.tl k d).1,by simpa using(h.tl k d).2⟩,h.gb,λa n c e=>by simpa using h.fb a n c e⟩;all_goals simp[go_sem,h.c0,h.c1,h.c2,h.c3,h.c4,h.c5,h.c6,h.c7,h.c8,h.c9,h.c10,h.c11,h.c12]
theorem PsAt.shead {B:Nat}{T:Nat→Prop}{W:World}{p:Ps}{d cv:Value}(h:PsAt B T W p d cv)(b:Bool) :
  PsAt B T (W.setCell ⟨B,2,none⟩ (.bool b)) { p with head:=b } d cv:=by
 refine⟨?_,?_,?_,?_,?_,?_,?_,?_,?_,?_,?_,?_,?_,λo=>by simp[go_sem,h.fz],h.f.putB h.fo h.tb 2 _,h.fo,h.ch.put 2 _,h.tb,λk g=>⟨(h.tl k g).1,by simpa using(h.tl k g).2⟩,h.gb,λa n c e=>by simpa using h.fb a n c e⟩;all_goals simp[go_sem,h.c0,h.c1,h.c2,h.c3,h.c4,h.c5,h.c6,h.c7,h.c8,h.c9,h.c10,h.c11,h.c12]
theorem PsAt.chT {B o:Nat}{T:Nat→Prop}{W:World}{p:Ps}{b cv:Value}(h:PsAt B T W p b cv)(v:Value):Ch T W (W.setCell ⟨B,o,none⟩ v):=Ch.setCell W (a:=⟨B,o,none⟩) h.tb v
theorem PsPost.put1 {B o:Nat}{T:Nat→Prop}{W:World}{p b:Ps}{a cv:Value}(h:PsAt B T W p a cv)(v:Value)(d:PsAt B T (W.setCell ⟨B,o,none⟩ v) b a cv):PsPost B T W b (W.setCell ⟨B,o,none⟩ v) :=
 ⟨T,a,cv,d,h.chT v,λ_ f=>.inl f,λg n c e=>.inl ⟨n,c,e▸h.c7⟩⟩
theorem y9 (B:Nat)(T:Nat→Prop)(p:Ps)(g cv:Value)(s:List UInt8)(W:World)(h:PsAt B T W p g cv)(hl:p.inp.length+s.length≤4611686018427387904) :
  Calls prog 39 #[.pointer (some ⟨B,0,none⟩),.string ⟨s.toArray⟩] W λe f=>e=.returned (.tuple #[])∧PsPost B T W (fJ p s) f:=by
 have b:=qq h;have c0:=h.c0;have c12:=h.c12;have fz:=h.fz;by_cases a:p.bad=0
 ·have c:=qq (show fJ p s={ p with inp:=p.inp++s } by unfold fJ;rw[if_pos a]);rw[a]at c12;have d:(⟨p.inp.toArray⟩:ByteArray)++⟨s.toArray⟩=⟨(p.inp++s).toArray⟩:=aL p.inp s;have j:¬9223372036854775807<p.inp.length+s.length:=by omega
  clear a h;go_enter func39,ntmps39;go_wp2;go_end0;exact⟨rfl,by rw[c.out];exact PsPost.put1 b.out _ (b.out.inp _)⟩
 ·have c:=qq (show fJ p s=p by unfold fJ;rw[if_neg a]);have i:((p.bad:Int)==0)=false:=qk.2 (by omega);clear a h;go_enter func39,ntmps39;go_wp2;go_end0;exact⟨rfl,by rw[c.out];exact PsPost.of_gr b.out (Gr.refl _)⟩
theorem po (B:Nat)(T:Nat→Prop)(p:Ps)(o cv:Value)(n:Nat)(W:World)(h:PsAt B T W p o cv)(hn:n≤p.inp.length)(hl:p.inp.length+p.und.length≤4611686018427387904) :
  Calls prog 107 #[.pointer (some ⟨B,0,none⟩),.int .i64 n] W λe t=>e=.returned (.tuple #[])∧PsPost B T W (cz p n) t:=by
 have q:=qq h;have z:(n:Int)≤p.inp.length:=by omega
 have k:(⟨p.inp.toArray⟩:ByteArray).extract 0 n=⟨(p.inp.take n).toArray⟩:=by rw[av];simp
 have l:(⟨p.inp.toArray⟩:ByteArray).extract n p.inp.length=⟨(p.inp.drop n).toArray⟩:=by rw[av,List.take_of_length_le (qv _)]
 have m:(p.inp.take n).length≤p.inp.length:=by rw[List.length_take];omega
 obtain⟨i,f⟩:∃x,p.inp.take n=x:=⟨_,rfl⟩;obtain⟨s,g⟩:∃x,p.inp.drop n=x:=⟨_,rfl⟩;have A:=qq (show cz p n={ p with inp:=s,und:=p.und++i } by unfold cz;rw[f,g]);rw[f]at k m;rw[g]at l;have r:(⟨p.und.toArray⟩:ByteArray)++⟨i.toArray⟩=⟨(p.und++i).toArray⟩:=aL p.und i;have u:¬9223372036854775807<p.und.length+i.length:=by omega
 haveI:Nonempty (Later (Gr W)):=⟨⟨W,Gr.refl W⟩⟩;have D:∀x:Later (Gr W),x.w.cell? ⟨B,0,none⟩=some (.string ⟨p.inp.toArray⟩):=λx=>x.ok.cell h.c0;have E:∀x:Later (Gr W),x.w.cell? ⟨B,1,none⟩=some (.string ⟨p.und.toArray⟩):=λx=>x.ok.cell h.c1;clear h f g m hn;go_enter func107,ntmps107;go_upto_region 0 with(fail);refine ak (C:=Gr W) 13 (by kernel_rfl) (by kernel_rfl) (Gr.drew' _) ?_;simp only[List.take_succ_cons,List.take_zero,List.drop_succ_cons,List.drop_zero];repeat (go_big_quiet_step (fail))
 refine wpQuiet_nil ?_;intro F d;have j:=q.out.gr d;have b:=qq j;have c0:=j.c0;have c1:=j.c1;have fz:=j.fz;have v:=qq d;clear D E j d;go_wp2;go_end0;exact⟨rfl,by
  rw[A.out];exact PsPost.ahead q.out.lt v.out ⟨T,o,cv,b.out.two s (p.und++i),(b.out.chT _).trans (Ch.setCell _ (a:=⟨B,0,none⟩) b.out.tb _),λ_ y=>.inl y,λa n c e=>.inl ⟨n,c,e▸b.out.c7⟩⟩⟩
theorem BZ (B:Nat)(T:Nat→Prop)(p:Ps)(b cv:Value)(W:World)(h:PsAt B T W p b cv) :
  Calls prog 69 #[.pointer (some ⟨B,0,none⟩)] W λe a=>e=.returned (.int .i64 p.bad)∧W=a:=by
 have c12:=h.c12;clear h;go_enter func69,ntmps69;go_wp2;go_ret;exact⟨rfl,rfl⟩
def eR (p:Ps)(ls:List (List UInt8)):Ps:=match headQ ls with
 | .bad _=>p
 | .good r n ch=>{ p with r:=r,len:=n,ch:=if ch then some ck0 else p.ch }
def fX (ls:List (List UInt8)):Nat:=match headQ ls with
 | .bad c=>c
 | .good _ _ _=>0
theorem pq (p:Ps)(s:List UInt8):eU p s={ eR p (au s)with bad:=fX (au s) }:=by
 unfold eU eR fX;cases headQ (au s) <;> rfl
theorem PsAt.sreq {B:Nat}{T:Nat→Prop}{W:World}{p:Ps}{j cv:Value}(h:PsAt B T W p j cv)(r:Rq)(n:Nat)(d:Value)(hf:FieldsAt W d r.fs)(f:vg T d)(g:∀a n c,d=.slice (some a) n c→a.block<W.heap.size) :
  PsAt B T ((((((((W.setCell ⟨B,3,none⟩ (.string ⟨r.m.toArray⟩)).setCell ⟨B,4,none⟩ (.string ⟨r.p.toArray⟩)).setCell ⟨B,5,none⟩ (.string ⟨r.q.toArray⟩)).setCell ⟨B,6,none⟩ (.int .i64 r.v)).setCell ⟨B,7,none⟩ d).setCell ⟨B,8,none⟩ (.string ⟨r.b.toArray⟩)).setCell ⟨B,9,none⟩ (.bool r.c)).setCell ⟨B,10,none⟩ (.int .i64 n))
   { p with r:=r,len:=n } d cv:=by
 refine⟨?_,?_,?_,?_,?_,?_,?_,?_,?_,?_,?_,?_,?_,λo=>by simp[go_sem,h.fz],?_,f,?_,h.tb,λk i=>⟨(h.tl k i).1,by simpa using(h.tl k i).2⟩,h.gb,λa n c e=>by simpa using g a n c e⟩
 ·simp[go_sem,h.c0]
 ·simp[go_sem,h.c1]
 ·simp[go_sem,h.c2]
 ·simp[go_sem,h.c3]
 ·simp[go_sem,h.c4]
 ·simp[go_sem,h.c5]
 ·simp[go_sem,h.c6]
 ·simp[go_sem,h.c7]
 ·simp[go_sem,h.c8]
 ·simp[go_sem,h.c9]
 ·simp[go_sem,h.c10]
 ·simp[go_sem,h.c11]
 ·simp[go_sem,h.c12]
 ·exact(((((((hf.putB f h.tb 3 _).putB f h.tb 4 _).putB f h.tb 5 _).putB f h.tb 6 _).putB f h.tb 7 _).putB f h.tb 8 _).putB f h.tb 9 _).putB f h.tb 10 _
 ·exact((((((((h.ch.put 3 _).put 4 _).put 5 _).put 6 _).put 7 _).put 8 _).put 9 _).put 10 _)
theorem PsAt.schunk {B b:Nat}{T:Nat→Prop}{W:World}{p:Ps}{i cv:Value}(h:PsAt B T W p i cv)(j:Rd b W ck0 (.slice none 0 0) (.slice none 0 0))(m:∀k,T k→k<b)(hf:∀a n c,i=.slice (some a) n c→a.block<b) :
  PsAt B (λk=>T k∨k=b) (W.setCell ⟨B,11,none⟩ (.pointer (some ⟨b,0,none⟩))) { p with ch:=some ck0 } i (.pointer (some ⟨b,0,none⟩)):=by
 have l:=m B h.tb;have g:∀k,Fp b (.slice none 0 0) (.slice none 0 0) k→k=b:=λk d=>by
  rcases d with d | d | d
  ·exact d
  ·simp[Value.ownBlock]at d
  ·simp[Value.ownBlock]at d
 refine⟨?_,?_,?_,?_,?_,?_,?_,?_,?_,?_,?_,?_,?_,λo=>by simp[go_sem,h.fz],h.f.putB h.fo h.tb 11 _,λa n c e d=>?_,?_,.inl h.tb,λk d=>?_,h.gb,λa n c e=>by simpa using h.fb a n c e⟩
 ·simp[go_sem,h.c0]
 ·simp[go_sem,h.c1]
 ·simp[go_sem,h.c2]
 ·simp[go_sem,h.c3]
 ·simp[go_sem,h.c4]
 ·simp[go_sem,h.c5]
 ·simp[go_sem,h.c6]
 ·simp[go_sem,h.c7]
 ·simp[go_sem,h.c8]
 ·simp[go_sem,h.c9]
 ·simp[go_sem,h.c10]
 ·simp[go_sem,h.c11]
 ·simp[go_sem,h.c12]
 ·rcases d with d | d
  ·exact h.fo a n c e d
  ·have:=hf a n c e;omega
 ·refine⟨b,_,_,rfl,j.ch (Ch.putB W _) (λk d hf=>by have:=g k hf;omega),Cz,by have:=h.gb;omega,λk d=>?_⟩;have:=g k d;exact⟨.inr this,by omega⟩
 ·rcases d with d | rfl
  ·exact⟨(h.tl k d).1,by simpa using(h.tl k d).2⟩
  ·exact⟨by omega,by simpa using j.lt⟩
