/-
  Requests: the walks over New, Rest, and a parser that is not there.
-/
import Derived.Test.YtadobobfjnmdlaaGreatDoorP42
import Derived.IntWalk
import Derived.Lib.ItoaLen
set_option linter.unnecessarySimpa false
set_option linter.unusedVariables false
set_option linter.unusedSimpArgs false
set_option maxHeartbeats 16000000
set_option maxRecDepth 100000
open Go.Proofs.Tryz
namespace Go.Proofs.YtadobobfjnmdlaaGreatDoor
open Go.RowKit
attribute [local go_sem] Oper.semAt_some
theorem Dw (w:World)(d:G w) :
  Calls prog 38 #[] w λe w'=>e=.returned (.pointer (some ⟨w.heap.size,0,none⟩))∧PsAt w.heap.size (λk=>k=w.heap.size) w' ps0 (.slice none 0 0) (.pointer none)∧Gr w w':=by
 have b:=d.lt;go_enter func38,ntmps38;go_wp2;refine bodyPost_ret (v:=.pointer (some ⟨w.heap.size,0,none⟩)) (by simp[results,results38,go_sem]) rfl ⟨rfl,?_,Gr.alloc _ _⟩;exact⟨aa _ _ _ 0 _ rfl,aa _ _ _ 1 _ rfl,aa _ _ _ 2 _ rfl,aa _ _ _ 3 _ rfl,aa _ _ _ 4 _ rfl,aa _ _ _ 5 _ rfl,aa _ _ _ 6 _ rfl,aa _ _ _ 7 _ rfl,aa _ _ _ 8 _ rfl,aa _ _ _ 9 _ rfl,aa _ _ _ 10 _ rfl,aa _ _ _ 11 _ rfl,aa _ _ _ 12 _ rfl,
  λo=>World.frozen?_alloc_at _ _ _ _ rfl,⟨none,0,rfl,λi hi=>absurd hi (Nat.not_lt_zero _)⟩,λa n c e=>(by cases e),rfl,rfl,λk f=>(by subst f;exact⟨qv _,by simp⟩),b,λa n c e=>(by cases e)⟩
theorem AQ (B:Nat)(T:Nat→Prop)(p:Ps)(s cv:Value)(w:World)(h:PsAt B T w p s cv)(hl:p.inp.length+p.und.length≤90000) :
  Calls prog 113 #[.pointer (some ⟨B,0,none⟩)] w λe w'=>e=.returned (.string ⟨(eN p).2.toArray⟩)∧PsPost B T w (eN p).1 w':=by
 have k:=qq h;have c12:=h.c12;by_cases f:p.bad=0
 ·rw[f]at c12;obtain⟨x,m⟩:∃x,p.und++p.inp=x:=⟨_,rfl⟩;have j:=qq (show eN p=(ps0,x) by unfold eN;rw[if_neg (by simpa using f),m]);have g:(⟨p.und.toArray⟩:ByteArray)++⟨p.inp.toArray⟩=⟨x.toArray⟩:=by rw[aL,m]
  have l:¬9223372036854775807<p.und.length+p.inp.length:=by omega
  haveI:Nonempty (Later (Gr w)):=⟨⟨w,Gr.refl w⟩⟩;have y:∀x:Later (Gr w),x.w.cell? ⟨B,0,none⟩=some (.string ⟨p.inp.toArray⟩):=λx=>x.ok.cell h.c0;have z:∀x:Later (Gr w),x.w.cell? ⟨B,1,none⟩=some (.string ⟨p.und.toArray⟩):=λx=>x.ok.cell h.c1;clear f m h;go_enter func113,ntmps113;go_upto_region 3 with(fail);refine ah (C:=Gr w) (by kernel_rfl) (by kernel_rfl) (Gr.drew' _) ?_;repeat (go_big_quiet_step (fail))
  refine wpQuiet_nil ?_;intro N d;have M:=qq d;have b:=k.out.gr d;have t:=qq b;have A:=b.c0;have d1:=b.c1;have d2:=b.c2;have d3:=b.c3;have D:=b.c4;have E:=b.c5;have F:=b.c6;have H:=b.c7;have I:=b.c8;have J:=b.c9;have o:=b.c10;have q:=b.c11;have r:=b.c12;have L:=b.fz;have i:=qq (show PsPost B T w ps0 _ from PsPost.ahead k.out.lt d ⟨T,_,_,b.reset [],Cx b.tb _ _ _ _ _ _ _ _ _ _ _ _ _ _,λ_ v=>.inl v,λa n c e=>(by cases e)⟩);clear y z d b g l;go_wp2;go_ret;exact⟨by rw[j.out];rfl,by rw[j.out];exact i.out⟩
 ·have u:((p.bad:Int) != 0)=true:=by rw[bne_iff_ne];omega
  have j:=qq (show eN p=(p,[]) by unfold eN;rw[if_pos f]);clear f h;go_enter func113,ntmps113;go_wp2;go_ret;exact⟨by rw[j.out];rfl,by rw[j.out];exact PsPost.of_gr k.out (Gr.refl _)⟩
def Dx (B:Nat)(w:World)(a:Addr):Prop:=(∃n0 c0,w.cell? ⟨B,7,none⟩=some (.slice (some a) n0 c0))∨w.heap.size≤a.block
def NextPostW (B:Nat)(T:Nat→Prop)(w:World)(x:Ps×Option Rq)(e:Ending)(w':World):Prop :=
 ∃rv T' fv cv,e=.returned (.tuple #[(rqO x.2).V rv,.bool x.2.isSome])∧FieldsAt w' rv (rqO x.2).fs∧vg T' rv∧(∀a n c,rv=.slice (some a) n c→a.block<w'.heap.size)∧PsAt B T' w' x.1 fv cv∧Ch T w w'∧(∀k,T' k→T k∨w.heap.size≤k) ∧
  (∀a n c,rv=.slice (some a) n c→Dx B w a)∧∀a n c,fv=.slice (some a) n c→Dx B w a
theorem PsPost.apart2 {B R:Nat}{T:Nat→Prop}{w l W:World}{p q:Ps}{f d:Value}(h:PsAt B T w p f d)(y:R=w.heap.size)(i:Gr w l)(j:R<l.heap.size)(o:PsPost B T l q W) :
  ∃T' b cv,PsAt B T' W q b cv∧Ch T w W∧(∀k,T' k→T k∨w.heap.size≤k)∧¬T' R∧(∀a n c,b=.slice (some a) n c→a.block≠R)∧∀a n c,b=.slice (some a) n c→Dx B w a:=by
 obtain⟨T',b,cv,m,t,u,v,x⟩:=PsPost.apart h y i j o;refine⟨T',b,cv,m,t,u,v,x,λa n c e=>?_⟩;obtain⟨A,g,r,k1,_,_,k4⟩:=o;have s:g=b:=Option.some.inj (k1.c7.symm.trans m.c7);rcases k4 a n c (s.trans e)with⟨z,c0,e2⟩ | e2
 ·exact .inl ⟨z,c0,(Below.cell i (p:=⟨B,7,none⟩) h.lt).symm.trans e2⟩
 ·exact .inr (qy (Below.size i) e2)
theorem NextPostW.no {B R:Nat}{T:Nat→Prop}{w u W:World}{p v:Ps}{g f:Value}(h:PsAt B T w p g f)(E:R=w.heap.size)(F:Gr w u)(j:R<u.heap.size)(H:PsPost B T u v W)(l m o q r s t:Value) :
  NextPostW B T w (v,none) (.returned (.tuple #[.agg #[.string ⟨#[]⟩,.string ⟨#[]⟩,.string ⟨#[]⟩,.int .i64 0,.slice none 0 0,.string ⟨#[]⟩,.bool false],.bool false]))
   (((((((W.setCell ⟨R,0,none⟩ l).setCell ⟨R,1,none⟩ m).setCell ⟨R,2,none⟩ o).setCell ⟨R,3,none⟩ q).setCell ⟨R,4,none⟩ r).setCell ⟨R,5,none⟩ s).setCell ⟨R,6,none⟩ t):=by
 obtain⟨T',x,cv,y,b,z,A,C,D⟩:=PsPost.apart2 h E F j H;have c2:=F1 (T:=λk=>k=R) (R:=R) rfl W l m o q r s t;generalize (((((((W.setCell ⟨R,0,none⟩ l).setCell ⟨R,1,none⟩ m).setCell ⟨R,2,none⟩ o).setCell ⟨R,3,none⟩ q).setCell ⟨R,4,none⟩ r).setCell ⟨R,5,none⟩ s).setCell ⟨R,6,none⟩ t)=W3 at c2 ⊢;refine⟨.slice none 0 0,T',x,cv,rfl,⟨none,0,rfl,λi hi=>absurd hi (Nat.not_lt_zero _)⟩,λa n c e=>(by cases e),λa n c e=>(by cases e),y.ch_out c2 (λk d I=>A (by rw[←d];exact I)) (λa n c e d=>C a n c e d),?_,z,λa n c e=>(by cases e),D⟩;exact⟨c2.os.trans b.os,c2.tape.trans b.tape,c2.output.trans b.output,qy b.size c2.size,λk d hn=>(c2.block k (qj d b.size) (λe=>by omega)).trans (b.block k d hn)⟩
theorem NextPostW.yes {B R:Nat}{T:Nat→Prop}{w t W W2:World}{p q:Ps}{m l s:Value}{r:Rq}{i:List UInt8}(h:PsAt B T w p m l)(N:R=w.heap.size)(P:Gr w t)(o:R<t.heap.size)(S:PsPost B T t q W)
  (U:q.r=r) (F:q.inp=i) (L:W.cell? ⟨B,7,none⟩=some s) (b:Gr W W2) (x y z A C D E:Value) :
  NextPostW B T w ({ ps0 with inp:=i },some r) (.returned (.tuple #[r.V s,.bool true]))
   ((((((((((((((((((((W2.setCell ⟨B,0,none⟩ (.string ⟨i.toArray⟩)).setCell ⟨B,1,none⟩ (.string ⟨#[]⟩)).setCell ⟨B,2,none⟩ (.bool false)).setCell ⟨B,3,none⟩ (.string ⟨#[]⟩)).setCell ⟨B,4,none⟩ (.string ⟨#[]⟩)).setCell ⟨B,5,none⟩ (.string ⟨#[]⟩)).setCell ⟨B,6,none⟩ (.int .i64 0)).setCell ⟨B,7,none⟩ (.slice none 0 0)).setCell ⟨B,8,none⟩ (.string ⟨#[]⟩)).setCell ⟨B,9,none⟩ (.bool false)).setCell ⟨B,10,none⟩ (.int .i64 0)).setCell ⟨B,11,none⟩ (.pointer none)).setCell ⟨B,12,none⟩ (.int .i64 0)).setCell ⟨R,0,none⟩ x).setCell ⟨R,1,none⟩ y).setCell ⟨R,2,none⟩ z).setCell ⟨R,3,none⟩ A).setCell ⟨R,4,none⟩ C).setCell ⟨R,5,none⟩ D).setCell ⟨R,6,none⟩ E):=by
 obtain⟨T',u,cv,d,g,v,I,J,M⟩:=PsPost.apart2 h N P o S;have H:u=s:=Option.some.inj (d.c7.symm.trans L);subst H U;have k1:=d.gr b;have k2:=k1.reset i;have c1:=Cx (T:=T') d.tb W2 (.string ⟨i.toArray⟩) (.string ⟨#[]⟩) (.bool false) (.string ⟨#[]⟩) (.string ⟨#[]⟩) (.string ⟨#[]⟩) (.int .i64 0) (.slice none 0 0) (.string ⟨#[]⟩) (.bool false) (.int .i64 0) (.pointer none) (.int .i64 0);generalize O:(((((((((((((W2.setCell ⟨B,0,none⟩ (.string ⟨i.toArray⟩)).setCell ⟨B,1,none⟩ (.string ⟨#[]⟩)).setCell ⟨B,2,none⟩ (.bool false)).setCell ⟨B,3,none⟩ (.string ⟨#[]⟩)).setCell ⟨B,4,none⟩ (.string ⟨#[]⟩)).setCell ⟨B,5,none⟩ (.string ⟨#[]⟩)).setCell ⟨B,6,none⟩ (.int .i64 0)).setCell ⟨B,7,none⟩ (.slice none 0 0)).setCell ⟨B,8,none⟩ (.string ⟨#[]⟩)).setCell ⟨B,9,none⟩ (.bool false)).setCell ⟨B,10,none⟩ (.int .i64 0)).setCell ⟨B,11,none⟩ (.pointer none)).setCell ⟨B,12,none⟩ (.int .i64 0))=W3 at k2 c1 ⊢;have c2:=F1 (T:=λk=>k=R) (R:=R) rfl W3 x y z A C D E;have Z:=Below.size b;have Y:=c1.size;have a0:=c2.size;have X:=g.size;refine⟨u,T',.slice none 0 0,.pointer none,rfl,((k1.f.ch c1 k1.fo).ch c2 (λa n c e j=>J a n c e j)),d.fo,λa n c e=>?_,k2.ch_out c2 (λk j ht=>I (by rw[←j];exact ht)) (λa n c e=>by cases e),?_,v,M,λa n c e=>(by cases e)⟩
 ·have:=d.fb a n c e;omega
 ·refine⟨c2.os.trans (c1.os.trans (b.os.trans g.os)),c2.tape.trans (c1.tape.trans (b.tape.trans g.tape)),c2.output.trans (c1.output.trans (b.output.trans g.output)),by omega,λk j hn=>?_⟩;have n1:¬T' k:=λe=>(v k e).elim hn (by omega);exact(c2.block k (by omega) (λe=>by omega)).trans ((c1.block k (by omega) n1).trans ((b.block k (by omega)).trans (g.block k j hn)))
theorem AR (B:Nat)(T:Nat→Prop)(p:Ps)(fv cv:Value)(w:World)(hG:G w)(h:PsAt B T w p fv cv)(hl:p.inp.length+p.und.length≤90000) :
  Calls prog 67 #[.pointer (some ⟨B,0,none⟩)] w (NextPostW B T w (bu p)):=by
 have e0:=qq hG;have h':=qq h;have hR:∀(o:Nat) (u:Value),([.string ⟨#[]⟩,.string ⟨#[]⟩,.string ⟨#[]⟩,.int .i64 0,.slice none 0 0,.string ⟨#[]⟩,.bool false]:List Value)[o]?=some u→_:=λ(o:Nat) (u:Value) (h:([.string ⟨#[]⟩,.string ⟨#[]⟩,.string ⟨#[]⟩,.int .i64 0,.slice none 0 0,.string ⟨#[]⟩,.bool false]:List Value)[o]?=some u)=>aa w [.string ⟨#[]⟩,.string ⟨#[]⟩,.string ⟨#[]⟩,.int .i64 0,.slice none 0 0,.string ⟨#[]⟩,.bool false] 78 o u h;have r0:=hR 0 _ rfl;have r1:=hR 1 _ rfl;have r2:=hR 2 _ rfl;have r3:=hR 3 _ rfl;have r4:=hR 4 _ rfl;have r5:=hR 5 _ rfl;have r6:=hR 6 _ rfl;have rf:∀o,(w.alloc (.cells #[.string ⟨#[]⟩,.string ⟨#[]⟩,.string ⟨#[]⟩,.int .i64 0,.slice none 0 0,.string ⟨#[]⟩,.bool false] 78)).frozen? ⟨w.heap.size,o,none⟩=false:=λo=>by simp[go_sem]
 have s:w.heap.size<(w.alloc (.cells #[.string ⟨#[]⟩,.string ⟨#[]⟩,.string ⟨#[]⟩,.int .i64 0,.slice none 0 0,.string ⟨#[]⟩,.bool false] 78)).heap.size:=by simp
 have g1:=Gr.alloc w (.cells #[.string ⟨#[]⟩,.string ⟨#[]⟩,.string ⟨#[]⟩,.int .i64 0,.slice none 0 0,.string ⟨#[]⟩,.bool false] 78);clear hR;go_enter func67,ntmps67;go_upto_region 1 with(fail);obtain⟨R,b2⟩:∃x,w.heap.size=x:=⟨_,rfl⟩;rw[b2]at r0 r1 r2 r3 r4 r5 r6 rf s ⊢;generalize (w.alloc (.cells #[.string ⟨#[]⟩,.string ⟨#[]⟩,.string ⟨#[]⟩,.int .i64 0,.slice none 0 0,.string ⟨#[]⟩,.bool false] 78))=w1 at r0 r1 r2 r3 r4 r5 r6 rf s g1 ⊢;have q:=qq b2;have C:=qq g1;have c:¬T R:=λe=>by have:=(h.tl R e).2;omega
 have h1:=h.gr g1;have a1:=qq h1;have c12:=h1.c12;have c2:=h1.c2;clear h b2 g1;by_cases hb:p.bad=0
 ·rw[hb]at c12;have a3:=qq (show bu p=if !(if p.head then p else aE p).head then((if p.head then p else aE p),none) else if (aB (if p.head then p else aE p)).2 then({ ps0 with inp:=(aB (if p.head then p else aE p)).1.inp },some (aB (if p.head then p else aE p)).1.r) else((aB (if p.head then p else aE p)).1,none) by
   unfold bu;rw[if_neg (by simpa using hb)])
  clear hb;have I:=vH p;cases hh:p.head
  case' false =>
   rw[hh]at c2;have z:bu p=if !(aE p).head then(aE p,none) else if (aB (aE p)).2 then({ ps0 with inp:=(aB (aE p)).1.inp },some (aB (aE p)).1.r) else((aB (aE p)).1,none):=by
    rw[a3.out,hh];rfl
   obtain⟨E,y⟩:∃x,aE p=x:=⟨_,rfl⟩;have b4:=qq (zD B T p fv cv w1 (e0.out.gr C.out) a1.out (by omega) (by omega));rw[y]at z b4 I;have hq:=qq z;clear z y hh a3 h1;go_wp2_with fail;refine b4.out.mono ?_;rintro e w2⟨rfl,L⟩;have hp:=qq L;clear L b4 c12 c2
  case' true =>
   rw[hh]at c2;have z:bu p=if !p.head then(p,none) else if (aB p).2 then({ ps0 with inp:=(aB p).1.inp },some (aB p).1.r) else((aB p).1,none):=by
    rw[a3.out,if_pos hh]
   have L:PsPost B T w1 p w1:=PsPost.of_gr a1.out (Gr.refl _);replace I:p.inp.length+p.und.length=p.inp.length+p.und.length:=rfl;clear hh a3 h1;go_upto_region 5 with(fail);obtain⟨w2,e5,b5⟩:∃w2,w1=w2∧PsPost B T w1 p w2:=⟨_,rfl,L⟩;rw[e5];obtain⟨E,y⟩:∃x,p=x:=⟨_,rfl⟩;rw[y]at b5 z;have J:E.inp.length+E.und.length=p.inp.length+p.und.length:=(by rw[y]);replace I:=J;have hp:=qq b5;have hq:=qq (show bu p=if !E.head then(E,none) else if (aB E).2 then({ ps0 with inp:=(aB E).1.inp },some (aB E).1.r) else((aB E).1,none) by rw[y];exact z);clear J b5 L e5 z y c12 c2
  all_goals
   have m:=hp.out;obtain⟨T2,e7,e6,a2,b8,e3,b9⟩:=hp.out;have a7:=qq a2;have a5:=qq b8;have a8:=qq e3;have a6:=qq b9;have c2:=a2.c2;have A:=m.keep r0 c;have O:=m.keep r1 c;have P:=m.keep r2 c;have S:=m.keep r3 c;have U:=m.keep r4 c;have V:=m.keep r5 c;have W:=m.keep r6 c;have sf:=m.keepf s c rf;have e8:=qq (m.G a1.out (e0.out.gr C.out));have H:=qq (Cw B T2 E e7 e6 w2 e8.out a2 (by omega) (by omega));clear a2 b8 e3 b9 m;cases D:E.head
   ·rw[D]at c2;have a4:=qq (show bu p=(E,none) by rw[hq.out,D];rfl);clear D hq r0 r1 r2 r3 r4 r5 r6 rf H;go_wp2;refine bodyPost_ret (v:=.tuple #[.agg #[.string ⟨#[]⟩,.string ⟨#[]⟩,.string ⟨#[]⟩,.int .i64 0,.slice none 0 0,.string ⟨#[]⟩,.bool false],.bool false]) (by simp[results,results67,go_sem,A,O,P,S,U,V,W]) rfl ?_;rw[a4.out];exact NextPostW.no h'.out q.out.symm C.out s hp.out _ _ _ _ _ _ _
   ·rw[D]at c2;obtain⟨⟨p3,bb⟩,hx⟩:∃x,aB E=x:=⟨_,rfl⟩;have a4:=qq (show bu p=if bb then({ ps0 with inp:=p3.inp },some p3.r) else(p3,none) by rw[hq.out,D,hx];rfl);rw[hx]at H;dsimp only at H;clear D hq hx A O P S U V W sf;go_wp2_with fail;refine H.out.mono ?_;rintro e w3⟨rfl,e4⟩;have j:=qq (PsPost.next a7.out a5.out ⟨a8.out,a6.out⟩ e4);have A:=j.out.keep r0 c;have O:=j.out.keep r1 c;have P:=j.out.keep r2 c;have S:=j.out.keep r3 c;have U:=j.out.keep r4 c;have V:=j.out.keep r5 c;have W:=j.out.keep r6 c;have sf:=j.out.keepf s c rf;clear H e4 a7 a5 a8 a6 r0 r1 r2 r3 r4 r5 r6 rf c2;cases bb with
    | false =>
     go_wp2;refine bodyPost_ret (v:=.tuple #[.agg #[.string ⟨#[]⟩,.string ⟨#[]⟩,.string ⟨#[]⟩,.int .i64 0,.slice none 0 0,.string ⟨#[]⟩,.bool false],.bool false]) (by simp[results,results67,go_sem,A,O,P,S,U,V,W]) rfl ?_;rw[a4.out];exact NextPostW.no h'.out q.out.symm C.out s j.out _ _ _ _ _ _ _
    | true =>
     obtain⟨T3,f8,f7,b,_,e9,_⟩:=j.out;obtain⟨b1,f6,f0,⟨m3,l,N,X,i,F,g⟩,f5,ch3,f4⟩:=p3;have d0:=b.c0;have d1:=b.c1;have d2:=b.c2;have d3:=b.c3;have d4:=b.c4;have d5:=b.c5;have d6:=b.c6;have d7:=b.c7;have d8:=b.c8;have d9:=b.c9;have Y:=b.c10;have Z:=b.c11;have a0:=b.c12;have dz:=b.fz;dsimp only at d0 d1 d2 d3 d4 d5 d6 d7 d8 d9 Y Z a0;obtain⟨M,a,f1,_⟩:=b.f;subst f1;have b0:=b.lt;have e1:=ae A;have b6:=d7;clear b e9;go_upto_region 8 with(fail);have d:=Gr.alloc w3 (.cells #[.string ⟨m3.toArray⟩,.string ⟨l.toArray⟩,.string ⟨N.toArray⟩,.int .i64 X,.slice M i.length a,.string ⟨F.toArray⟩,.bool g] 78);have y0:=aa w3 [.string ⟨m3.toArray⟩,.string ⟨l.toArray⟩,.string ⟨N.toArray⟩,.int .i64 X,.slice M i.length a,.string ⟨F.toArray⟩,.bool g] 78 0 _ rfl;have y1:=aa w3 [.string ⟨m3.toArray⟩,.string ⟨l.toArray⟩,.string ⟨N.toArray⟩,.int .i64 X,.slice M i.length a,.string ⟨F.toArray⟩,.bool g] 78 1 _ rfl;have y2:=aa w3 [.string ⟨m3.toArray⟩,.string ⟨l.toArray⟩,.string ⟨N.toArray⟩,.int .i64 X,.slice M i.length a,.string ⟨F.toArray⟩,.bool g] 78 2 _ rfl;have y3:=aa w3 [.string ⟨m3.toArray⟩,.string ⟨l.toArray⟩,.string ⟨N.toArray⟩,.int .i64 X,.slice M i.length a,.string ⟨F.toArray⟩,.bool g] 78 3 _ rfl;have y4:=aa w3 [.string ⟨m3.toArray⟩,.string ⟨l.toArray⟩,.string ⟨N.toArray⟩,.int .i64 X,.slice M i.length a,.string ⟨F.toArray⟩,.bool g] 78 4 _ rfl;have y5:=aa w3 [.string ⟨m3.toArray⟩,.string ⟨l.toArray⟩,.string ⟨N.toArray⟩,.int .i64 X,.slice M i.length a,.string ⟨F.toArray⟩,.bool g] 78 5 _ rfl;have y6:=aa w3 [.string ⟨m3.toArray⟩,.string ⟨l.toArray⟩,.string ⟨N.toArray⟩,.int .i64 X,.slice M i.length a,.string ⟨F.toArray⟩,.bool g] 78 6 _ rfl;replace d0:=d.cell d0;replace d1:=d.cell d1;replace d2:=d.cell d2;replace d3:=d.cell d3;replace d4:=d.cell d4;replace d5:=d.cell d5;replace d6:=d.cell d6;replace d7:=d.cell d7;replace d8:=d.cell d8;replace d9:=d.cell d9;replace Y:=d.cell Y;replace Z:=d.cell Z;replace a0:=d.cell a0;replace A:=d.cell A;replace O:=d.cell O;replace P:=d.cell P;replace S:=d.cell S;replace U:=d.cell U;replace V:=d.cell V;replace W:=d.cell W;have b7:B<w3.heap.size:=b0;replace dz:=λo=>(Below.frozen d (show(⟨B,o,none⟩:Addr).block<w3.heap.size from b7)).trans (dz o);replace sf:=λo=>(Below.frozen d (show(⟨R,o,none⟩:Addr).block<w3.heap.size from e1)).trans (sf o);have t:w3.heap.size≠B:=(by omega);have n:R≠B:=(by have:=h'.out.lt;have:=q.out;omega);have a9:=qq (λv0 v1 v2 f3 v4 v5 v6=>NextPostW.yes (W2:=(w3.alloc (.cells #[.string ⟨m3.toArray⟩,.string ⟨l.toArray⟩,.string ⟨N.toArray⟩,.int .i64 X,.slice M i.length a,.string ⟨F.toArray⟩,.bool g] 78))) h'.out q.out.symm C.out s j.out rfl rfl b6 d v0 v1 v2 f3 v4 v5 v6);clear b7 e1 b0 d b6;generalize (w3.alloc (.cells #[.string ⟨m3.toArray⟩,.string ⟨l.toArray⟩,.string ⟨N.toArray⟩,.int .i64 X,.slice M i.length a,.string ⟨F.toArray⟩,.bool g] 78))=w4 at *;go_upto_region 9 with(fail);have c13:=Cx (T:=λk=>k=B) rfl w4 (.string ⟨b1.toArray⟩) (.string ⟨#[]⟩) (.bool false) (.string ⟨#[]⟩) (.string ⟨#[]⟩) (.string ⟨#[]⟩) (.int .i64 0) (.slice none 0 0) (.string ⟨#[]⟩) (.bool false) (.int .i64 0) (.pointer none) (.int .i64 0);have f2:=A;have e2:R<w4.heap.size:=ae A;replace y0:=(c13.cell (ae y0) t).trans y0;replace y1:=(c13.cell (ae y1) t).trans y1;replace y2:=(c13.cell (ae y2) t).trans y2;replace y3:=(c13.cell (ae y3) t).trans y3;replace y4:=(c13.cell (ae y4) t).trans y4;replace y5:=(c13.cell (ae y5) t).trans y5;replace y6:=(c13.cell (ae y6) t).trans y6;replace A:=(c13.cell (ae A) n).trans A;replace O:=(c13.cell (ae O) n).trans O;replace P:=(c13.cell (ae P) n).trans P;replace S:=(c13.cell (ae S) n).trans S;replace U:=(c13.cell (ae U) n).trans U;replace V:=(c13.cell (ae V) n).trans V;replace W:=(c13.cell (ae W) n).trans W;replace sf:=λo=>(c13.frozen (p:=⟨R,o,none⟩) e2 n).trans (sf o);clear c13 d0 d1 d2 d3 d4 d5 d6 d7 d8 d9 Y Z a0 dz;generalize (((((((((((((w4.setCell ⟨B,0,none⟩ (.string ⟨b1.toArray⟩)).setCell ⟨B,1,none⟩ (.string ⟨#[]⟩)).setCell ⟨B,2,none⟩ (.bool false)).setCell ⟨B,3,none⟩ (.string ⟨#[]⟩)).setCell ⟨B,4,none⟩ (.string ⟨#[]⟩)).setCell ⟨B,5,none⟩ (.string ⟨#[]⟩)).setCell ⟨B,6,none⟩ (.int .i64 0)).setCell ⟨B,7,none⟩ (.slice none 0 0)).setCell ⟨B,8,none⟩ (.string ⟨#[]⟩)).setCell ⟨B,9,none⟩ (.bool false)).setCell ⟨B,10,none⟩ (.int .i64 0)).setCell ⟨B,11,none⟩ (.pointer none)).setCell ⟨B,12,none⟩ (.int .i64 0))=w5 at a9 y0 y1 y2 y3 y4 y5 y6 A O P S U V W sf ⊢;clear f2 e2;go_wp2;refine bodyPost_ret (v:=.tuple #[.agg #[.string ⟨m3.toArray⟩,.string ⟨l.toArray⟩,.string ⟨N.toArray⟩,.int .i64 X,.slice M i.length a,.string ⟨F.toArray⟩,.bool g],.bool true]) (by simp[results,results67,go_sem,A,O,P,S,U,V,W]) rfl ?_;rw[a4.out];exact a9.out _ _ _ _ _ _ _
 ·have f9:((p.bad:Int) != 0)=true:=by rw[bne_iff_ne];omega
  have hq:=qq (show bu p=(p,none) by unfold bu;rw[if_pos hb]);clear hb h1;go_wp2;refine bodyPost_ret (v:=.tuple #[.agg #[.string ⟨#[]⟩,.string ⟨#[]⟩,.string ⟨#[]⟩,.int .i64 0,.slice none 0 0,.string ⟨#[]⟩,.bool false],.bool false]) (by simp[results,results67,go_sem,r0,r1,r2,r3,r4,r5,r6]) rfl ?_;rw[hq.out];exact NextPostW.no h'.out q.out.symm C.out s (PsPost.of_gr a1.out (Gr.refl _)) _ _ _ _ _ _ _
end Go.Proofs.YtadobobfjnmdlaaGreatDoor
namespace Go
open Go.RowKit
def New (W W':World)(k:Nat):Prop:=W.heap.size≤k∧k<W'.heap.size
def Add (T:Nat→Prop)(W W':World)(k:Nat):Prop:=T k∨New W W' k
def Pst {α:Type}(At:(Nat→Prop)→World→α→Prop)(T:Nat→Prop)(W:World)(x:α)(W':World):Prop:=At (Add T W W') W' x∧Ch T W W'
structure Kin {α:Type}(At:(Nat→Prop)→World→α→Prop):Prop where
 mono:∀ {T T':Nat→Prop} {W:World} {x:α},At T W x→(∀k,T k→T' k)→(∀k,T' k→k<W.heap.size)→At T' W x
 frame:∀ {T S:Nat→Prop} {W W':World} {x:α},At T W x→Ch S W W'→(∀k,T k→¬S k)→At T W' x
 lt:∀ {T:Nat→Prop} {W:World} {x:α},At T W x→∀k,T k→k<W.heap.size
theorem Ch.trans_new {T:Nat→Prop}{W a W2:World}(h:Ch T W a)(k:Ch (Add T W a) a W2):Ch T W W2 :=
 ⟨k.os.trans h.os,k.tape.trans h.tape,k.output.trans h.output,qy h.size k.size,λj b hn =>
  (k.block j (qj b h.size) (λe=>e.elim hn (λe=>absurd b (Nat.not_lt.2 e.1)))).trans (h.block j b hn)⟩
theorem Ch.drop_new {T:Nat→Prop}{W b W2:World}{S:Nat→Prop}(h:Ch T W b)(k:Ch S b W2)(hs:∀j,S j→T j∨W.heap.size≤j):Ch T W W2 :=
 ⟨k.os.trans h.os,k.tape.trans h.tape,k.output.trans h.output,qy h.size k.size,λj a hn =>
  (k.block j (qj a h.size) (λe=>(hs j e).elim hn (λe=>absurd a (Nat.not_lt.2 e)))).trans (h.block j a hn)⟩
theorem Kin.gr {α:Type}{a:(Nat→Prop)→World→α→Prop}(F:Kin a){T:Nat→Prop}{W b:World}{x:α}(h:a T W x)(g:Gr W b):a T b x :=
 F.frame h (g.to_ch (λ_=>False)) (λ_ _ e=>e)
theorem Kin.wide {α:Type}{a:(Nat→Prop)→World→α→Prop}(F:Kin a){T:Nat→Prop}{W W0:World}{x:α}(h:a T W x)(hs:W0.heap.size≤W.heap.size):a (Add T W0 W) W x :=
 F.mono h (λ_ e=>.inl e) (λk e=>e.elim (F.lt h k) (λe=>e.2))
theorem Kin.pst {α:Type}{a:(Nat→Prop)→World→α→Prop}(F:Kin a){T:Nat→Prop}{W b:World}{x:α}(h:a T b x)(c:Ch T W b):Pst a T W x b:=⟨F.wide h c.size,c⟩
theorem Kin.of_gr {α:Type}{a:(Nat→Prop)→World→α→Prop}(F:Kin a){T:Nat→Prop}{W b:World}{x:α}(h:a T W x)(g:Gr W b):Pst a T W x b:=F.pst (F.gr h g) (g.to_ch T)
theorem Kin.trans {α:Type}{a:(Nat→Prop)→World→α→Prop}(F:Kin a){T:Nat→Prop}{W b W2:World}{x y:α}(h:Pst a T W x b)(k:Pst a (Add T W b) b y W2):Pst a T W y W2:=by
 have d:=h.2.size;have c:=k.2.size;refine⟨F.mono k.1 (λj e=>?_) (λj e=>?_),h.2.trans_new k.2⟩
 ·rcases e with(e | e) | e
  ·exact .inl e
  ·exact .inr ⟨e.1,qj e.2 c⟩
  ·exact .inr ⟨qy d e.1,e.2⟩
 ·rcases e with e | e
  ·exact qj (F.lt h.1 j (.inl e)) c
  ·exact e.2
theorem Kin.behind {α:Type}{a:(Nat→Prop)→World→α→Prop}(F:Kin a){T:Nat→Prop}{W b W2:World}{x:α}(h:Pst a T W x b)(g:Gr b W2):Pst a T W x W2:=F.trans h (F.of_gr h.1 g)
theorem Kin.ahead {α:Type}{a:(Nat→Prop)→World→α→Prop}(F:Kin a){T:Nat→Prop}{W b W2:World}{x:α}(g:Gr W b)(h:Pst a T b x W2):Pst a T W x W2:=by
 have c:=Below.size g;have d:=h.2.size;refine⟨F.mono h.1 (λj e=>?_) (λj e=>?_),(g.to_ch T).trans h.2⟩
 ·rcases e with e | e
  ·exact .inl e
  ·exact .inr ⟨qy c e.1,e.2⟩
 ·rcases e with e | e
  ·exact F.lt h.1 j (.inl e)
  ·exact e.2
def bc (c:Nat→Nat)(W W':World)(j:Nat)(k:Nat):Nat:=if W.heap.size≤k∧k<W'.heap.size then j else c k
theorem bI {c:Nat→Nat}{W a:World}{j k:Nat}(h:k<W.heap.size):bc c W a j k=c k:=by unfold bc;rw[if_neg (by omega)]
theorem iX {c:Nat→Nat}{W a:World}{j k:Nat}(h:W.heap.size≤k)(b:k<a.heap.size):bc c W a j k=j:=by unfold bc;rw[if_pos ⟨h,b⟩]
theorem cq (c:Nat→Nat)(W a:World)(j k:Nat):(New W a k∧bc c W a j k=j)∨(¬New W a k∧bc c W a j k=c k):=by
 by_cases h:W.heap.size≤k∧k<a.heap.size
 ·exact .inl ⟨h,by unfold bc;rw[if_pos h]⟩
 ·exact .inr ⟨h,by unfold bc;rw[if_neg h]⟩
theorem Kin.own {α:Type}{b:(Nat→Prop)→World→α→Prop}(F:Kin b){c:Nat→Nat}{W a:World}{j:Nat}{x:α}(h:Pst b (λk=>c k=j) W x a)(f:∀k,c k≠0→k<W.heap.size)(g:j≠0):b (λk=>bc c W a j k=j) a x:=by
 refine F.mono h.1 (λk e=>?_) (λk e=>?_)
 ·rcases e with e | e
  ·have d:c k=j:=e;have:k<W.heap.size:=f k (by rw[d];exact g);show bc c W a j k=j;rw[bI this];exact e
  ·exact iX e.1 e.2
 ·rcases cq c W a j k with⟨i,_⟩ | ⟨_,l⟩
  ·exact i.2
  ·have d:c k=j:=l▸e;exact qj (f k (by rw[d];exact g)) h.2.size
theorem Kin.rest {α:Type}{d:(Nat→Prop)→World→α→Prop}(F:Kin d){c:Nat→Nat}{W a:World}{i j:Nat}{x:α}{S:Nat→Prop}(h:d (λk=>c k=i) W x)(l:Ch S W a)(hs:∀k,S k→c k=j)(b:i≠j)(hi:i≠0)(hl:∀k,c k≠0→k<W.heap.size):d (λk=>bc c W a j k=i) a x:=by
 refine F.mono (F.frame h l (λk e m=>?_)) (λk e=>?_) (λk e=>?_)
 ·exact b ((show c k=i from e).symm.trans (hs k m))
 ·have f:c k=i:=e;show bc c W a j k=i;rw[bI (hl k (by rw[f];exact hi))];exact e
 ·rcases cq c W a j k with⟨_,g⟩ | ⟨_,g⟩
  ·exact absurd ((show bc c W a j k=i from e).symm.trans g) b
  ·have f:c k=i:=g▸e;exact qj (hl k (by rw[f];exact hi)) l.size
theorem gF {c:Nat→Nat}{W a:World}{j:Nat}(hl:∀k,c k≠0→k<W.heap.size)(hs:W.heap.size≤a.heap.size):∀k,bc c W a j k≠0→k<a.heap.size:=by
 intro k e;rcases cq c W a j k with⟨b,_⟩ | ⟨_,d⟩
 ·exact b.2
 ·exact qj (hl k (by rw[d]at e;exact e)) hs
end Go
namespace Go.Proofs.YtadobobfjnmdlaaGreatDoor
open Go.RowKit
attribute [local go_sem] Oper.semAt_some
theorem tX (c:Int):c=101∨c=200∨c=400∨c=403∨c=404∨c=405∨c=413∨c=426∨c=431∨(((c==101)=false)∧((c==200)=false)∧((c==400)=false)∧((c==403)=false)∧((c==404)=false)∧((c==405)=false)∧((c==413)=false)∧((c==426)=false)∧((c==431)=false)):=by
 by_cases h:c=101∨c=200∨c=400∨c=403∨c=404∨c=405∨c=413∨c=426∨c=431
 ·omega
 ·right;right;right;right;right;right;right;right;right;simp only[qk,ne_eq];omega
theorem oy (c:Int)(w:World):Calls prog 71 #[.int .i64 c] w λe w'=>e=.returned (.string ⟨(aU c).toArray⟩)∧w=w':=by
 rcases tX c with rfl | rfl | rfl | rfl | rfl | rfl | rfl | rfl | rfl | ⟨h0,a,b,d,f,g,h,i,j⟩
 ·go_enter func71,ntmps71;go_wp2;go_ret;exact⟨rfl,rfl⟩
 ·go_enter func71,ntmps71;go_wp2;go_ret;exact⟨rfl,rfl⟩
 ·go_enter func71,ntmps71;go_wp2;go_ret;exact⟨rfl,rfl⟩
 ·go_enter func71,ntmps71;go_wp2;go_ret;exact⟨rfl,rfl⟩
 ·go_enter func71,ntmps71;go_wp2;go_ret;exact⟨rfl,rfl⟩
 ·go_enter func71,ntmps71;go_wp2;go_ret;exact⟨rfl,rfl⟩
 ·go_enter func71,ntmps71;go_wp2;go_ret;exact⟨rfl,rfl⟩
 ·go_enter func71,ntmps71;go_wp2;go_ret;exact⟨rfl,rfl⟩
 ·go_enter func71,ntmps71;go_wp2;go_ret;exact⟨rfl,rfl⟩
 ·have k:=qq (show aU c=[83,116,97,116,117,115] by
   simp only[qk,ne_eq]at h0 a b d f g h i j;unfold aU;rw[if_neg h0,if_neg a,if_neg b,if_neg d,if_neg f,if_neg g,if_neg h,if_neg i,if_neg j])
  go_enter func71,ntmps71;go_wp2;go_ret;exact⟨by rw[k.out];rfl,rfl⟩
theorem qb (c:Int):(c<200∧bF c=true)∨(¬c<200∧c=204∧bF c=true)∨(¬c<200∧(c==204)=false∧c=304∧bF c=true)∨(¬c<200∧(c==204)=false∧(c==304)=false∧bF c=false):=by
 unfold bF;by_cases a:c<200
 ·left;simp[a]
 ·by_cases b:c=204
  ·right;left;simp[b]
  ·by_cases d:c=304
   ·right;right;left;simp[d]
   ·right;right;right;simp[a,b,d]
theorem fm (c:Int)(w:World):Calls prog 117 #[.int .i64 c] w λe w'=>e=.returned (.bool (bF c))∧w=w':=by
 rcases qb c with⟨b,a⟩ | ⟨b,rfl,a⟩ | ⟨b,d,rfl,a⟩ | ⟨b,d,f,a⟩;all_goals
  rw[a];clear a;go_enter func117,ntmps117;go_wp2;go_ret;exact⟨rfl,rfl⟩
theorem tY (c:Int)(w:World):Calls prog 56 #[.int .i64 c] w λe w'=>e=.returned (.bool (bF c))∧w=w':=by
 rcases qb c with⟨b,a⟩ | ⟨b,rfl,a⟩ | ⟨b,d,rfl,a⟩ | ⟨b,d,f,a⟩;all_goals
  rw[a];clear a;go_enter func56,ntmps56;go_wp2;go_ret;exact⟨rfl,rfl⟩
theorem xX {c:UInt8}(h:dQ c=true):Lib.digitVal c=some (c.toNat - 48):=by
 rw[dc,decide_eq_true_eq]at h;unfold Lib.digitVal;rw[if_pos (by omega)]
theorem xY:∀(l:List UInt8) (a:Nat),l.all dQ=true→∃n,Lib.decFrom a l=some n∧n<(a+1)*10 ^ l.length
 | [],a,_=>⟨a,rfl,by simp⟩
 | c :: t,a,h=>by
  rw[List.all_cons,Bool.and_eq_true]at h;have f:=xX h.1;have b:=h.1;rw[dc,decide_eq_true_eq]at b;obtain⟨n,d,e⟩:=xY t (a*10+(c.toNat - 48)) h.2;refine⟨n,by rw[Lib.decFrom,f];exact d,qj e ?_⟩;rw[List.length_cons,Nat.pow_succ,Nat.mul_comm (10 ^ t.length) 10,←Nat.mul_assoc];exact Nat.mul_le_mul_right _ (by omega)
theorem EI {s:List UInt8}(h0:s≠[])(d:s.length≤6)(a:s.all dQ=true):∃n,dN s=some n∧Lib.atoi s=some (n:Int)∧n<1000000:=by
 obtain⟨n,g,h⟩:=xY s 0 a;have f:s.isEmpty=false:=by simpa using h0
 have hn:Lib.decNat s=some n:=by unfold Lib.decNat;rw[f];exact g
 refine⟨n,?_,?_,?_⟩
 ·unfold dN;rw[f,a,decide_eq_true d];exact hn
 ·cases s with
  | nil=>exact absurd rfl h0
  | cons c t =>
   have b:dQ c=true:=(by rw[List.all_cons,Bool.and_eq_true]at a;exact a.1);rw[dc,decide_eq_true_eq]at b;have e1:(c==45)=false:=qk.2 λe=>(by subst e;simp at b);have e2:(c==43)=false:=qk.2 λe=>(by subst e;simp at b);simp only[Lib.atoi,e1,e2,Bool.false_eq_true,if_false,hn];rfl
 ·have:10 ^ s.length≤10 ^ 6:=Nat.pow_le_pow_right (by decide) d;omega
theorem kM {s:List UInt8}(h:s=[]∨6<s.length∨s.all dQ=false):dN s=none:=by
 unfold dN;rw[if_neg];rcases h with rfl | h | h
 ·simp
 ·simp;intro _ a;omega
 ·rw[h];simp
def qc (o:Option Nat):Int:=match o with
 | some n=>n
 | none=>-1
theorem tZ (s:List UInt8)(hs:s.length≤1000000)(w:World):Calls prog 55 #[.string ⟨s.toArray⟩] w λe w'=>e=.returned (.int .i64 (qc (dN s)))∧w=w':=by
 by_cases x:s=[]∨6<s.length
 ·have p:=qq (show qc (dN s) = -1 by
   rw[kM]
   ·rfl
   ·rcases x with h | h
    ·exact .inl h
    ·exact .inr (.inl h))
  rcases x with rfl | h
  ·go_enter func55,ntmps55;go_wp2;go_ret;exact⟨by rw[p.out];rfl,rfl⟩
  ·have J:(6:Int)<s.length:=(by omega);have A:((s.length:Int)==0)=false:=qk.2 (by omega);go_enter func55,ntmps55;go_wp2;go_ret;exact⟨by rw[p.out];rfl,rfl⟩
 ·have h0:s≠[]:=λe=>x (.inl e);have I:s.length≤6:=by omega
  have M:0<s.length:=List.length_pos_iff.2 h0;have J:¬(6:Int)<s.length:=by omega
  have A:((s.length:Int)==0)=false:=qk.2 (by omega);have z:=qq h0;clear x h0;go_enter func55,ntmps55;go_wp2;go_loopw [3,4] (λn i W=>∃k a:Nat,k≤s.length∧n=.int .i64 a∧i=.int .i64 k∧(s.take k).all dQ=true∧Lib.decFrom 0 (s.take k)=some a∧a<10 ^ k∧W=w) (λ_ i _=>s.length - (intOf i).toNat)
  case atStart=>exact⟨0,0,qx _,rfl,rfl,rfl,rfl,by decide,rfl⟩
  case round =>
   obtain⟨k,a,O,rfl,rfl,j,l,g,rfl⟩:=hrel;have b:=qq j;have d:=qq l;clear j l;have F:10 ^ k≤10 ^ 6:=Nat.pow_le_pow_right (by decide) (by omega);have D:a<1000000:=(by omega);by_cases f:k<s.length
   ·obtain⟨c,B⟩:∃c,(⟨s.toArray⟩:ByteArray)[k]'(by rw[aj];exact f)=c:=⟨_,rfl⟩;have m:=qq (show s[k]=c from B);have L:(k:Int)<s.length:=(by omega);cases o:dQ c
    ·have p:=qq (show qc (dN s) = -1 by
      rw[kM (.inr (.inr (gu f (by rw[m.out];exact o))))];rfl)
     rw[dc,decide_eq_false_iff_not]at o;have N:(c.toNat:Int)<48∨(¬(c.toNat:Int)<48∧57<(c.toNat:Int)):=(by omega);clear o F g;rcases N with q | ⟨q,v⟩;all_goals
      go_wp2;go_ret;exact⟨by rw[p.out];rfl,rfl⟩
    ·have t:=xX o;have C:=qq (cP b.out f (by rw[m.out];exact o));have r:=qq (Lib.decFrom_take s k 0 a c (c.toNat - 48) d.out (by rw[List.getElem?_eq_getElem f,m.out]) t);rw[dc,decide_eq_true_eq]at o;have q:¬(c.toNat:Int)<48:=(by omega);have v:¬57<(c.toNat:Int):=(by omega);have k1:IntKind.i64.wrap (10*(a:Int))=10*(a:Int):=IntWalk.i64_in _ (by omega);have k2:IntKind.i64.wrap (10*(a:Int)+c.toNat)=10*(a:Int)+c.toNat:=IntWalk.i64_in _ (by omega);have k3:IntKind.i64.wrap (10*(a:Int)+c.toNat - 48)=((a*10+(c.toNat - 48):Nat):Int):=(by rw[IntWalk.i64_in _ (by omega)];omega);have u:=qq (show a*10+(c.toNat - 48)<10 ^ (k+1) by rw[Nat.pow_succ];omega);obtain⟨y,H⟩:∃y,a*10+(c.toNat - 48)=y:=⟨_,rfl⟩;rw[H]at k3 u r;clear o F g H t;go_wp2;go_roundw
     case rel=>exact⟨k+1,y,by omega,rfl,by go_num,C.out,r.out,u.out,by first | trivial | rfl⟩
     case measure=>simp[intOf];omega
   ·obtain rfl:k=s.length:=(by omega);have p:=qq (show qc (dN s)=a by
     have q:=b.out;have v:=d.out;rw[List.take_length]at q v;have E:s.isEmpty=false:=(by simpa using z.out);have:dN s=some a:=by
      unfold dN;rw[E,q,decide_eq_true I];show Lib.decNat s=some a;unfold Lib.decNat;rw[E];exact v
     rw[this];rfl)
    go_wp2;go_ret;exact⟨by rw[p.out];rfl,rfl⟩
