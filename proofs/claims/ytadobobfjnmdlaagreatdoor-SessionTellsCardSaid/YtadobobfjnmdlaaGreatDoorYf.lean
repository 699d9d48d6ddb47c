/-
  Requests: the walk over reads. (Printed by mk_yf.py.)
-/
import Derived.Test.YtadobobfjnmdlaaGreatDoorKi
set_option linter.unnecessarySimpa false
set_option linter.unusedVariables false
set_option linter.unusedSimpArgs false
set_option maxHeartbeats 16000000
set_option maxRecDepth 100000
open Go.Proofs.Tryz
namespace Go.Proofs.YtadobobfjnmdlaaGreatDoor
open Go.RowKit
attribute [local go_sem] Oper.semAt_some
theorem jl:∀ {a:List (List UInt8)} {fs:List Fl} {n:Nat},br a=some fs→(∀l∈a,l.length≤n)→∀f∈fs,f.1.length≤n∧f.2.length≤n
 | [],fs,n,h,_,f,hf=>by cases h;cases hf
 | l :: t,fs,n,h,hl,f,hf=>by
  unfold br at h;split at h
  ·cases e:br t with
   | none=>rw[e]at h;cases h
   | some c =>
    rw[e]at h;cases h;rcases List.mem_cons.1 hf with rfl | hf
    ·have:=hl l (by simp);exact⟨qy (ni l) this,qy (nj l) this⟩
    ·exact jl e (λx b=>hl x (by simp[b])) f hf
  ·cases h
theorem Du {fs:List Fl}{name:List UInt8}{n:Nat}(h:∀f∈fs,f.2.length≤n):(bl fs name).1.length≤n:=by
 unfold bl;cases c:(fs.filter λf=>an f.1 name)with
 | nil=>simp
 | cons a b =>
  have hm:a∈fs:=(List.mem_filter.1 (c▸List.mem_cons_self:a∈fs.filter λf=>an f.1 name)).1;simpa using h a hm
theorem xh {a:List (List UInt8)}(h:33<a.length):headQ a=.bad 431:=by unfold headQ;rw[if_pos h]
theorem Dv {l0:List UInt8}{tl:List (List UInt8)}(h:¬33<(l0 :: tl).length):headQ (l0 :: tl)=match br tl with
  | none=>.bad 400
  | some fs=>if !(dT l0).2||(((dT l0).1.v==11&&(bl fs tp).2 != 1)||decide (bS fs<0)) then .bad 400
   else if decide (0<(bl fs jM).2)&&((dT l0).1.v==10||(decide (0<(bl fs eu).2)||(decide (1<(bl fs jM).2)||!an (bl fs jM).1 nO))) then .bad 400
   else if 4096<bS fs then .bad 413
   else .good { (dT l0).1 with fs:=fs,c:=(dT l0).1.v==10||fs.any aO } (bS fs).toNat (decide (0<(bl fs jM).2)):=by
 have g:∀(a:Nat) (n:Nat),((a:Int)==(n:Int))=(a==n):=λa n=>by rw[Bool.eq_iff_iff,beq_iff_eq,beq_iff_eq];omega
 unfold headQ;rw[if_neg h];simp only[List.tail_cons,List.headD_cons];cases br tl with
 | none=>rfl
 | some fs =>
  have f:=g (bV l0).2.2.1 11;have e:=g (bV l0).2.2.1 10;unfold dT;dsimp only;have d:(((bV l0).2.2.1:Int)==11)=((bV l0).2.2.1==11):=f;have b:(((bV l0).2.2.1:Int)==10)=((bV l0).2.2.1==10):=e;rw[d,b];rfl
structure RW (w:World)(R N:Nat)(rq:Rq)(xv fw:Value)(fs:List Fl)(W:World):Prop where
 c0:W.cell? ⟨R,0,none⟩=some (.string ⟨rq.m.toArray⟩)
 c1:W.cell? ⟨R,1,none⟩=some (.string ⟨rq.p.toArray⟩)
 c2:W.cell? ⟨R,2,none⟩=some (.string ⟨rq.q.toArray⟩)
 c3:W.cell? ⟨R,3,none⟩=some (.int .i64 rq.v)
 c4:W.cell? ⟨R,4,none⟩=some xv
 c5:W.cell? ⟨R,5,none⟩=some (.string ⟨rq.b.toArray⟩)
 c6:W.cell? ⟨R,6,none⟩=some (.bool rq.c)
 fz:∀o,W.frozen? ⟨R,o,none⟩=false
 own:OwnF N W fw fs
 lt:R<W.heap.size
 rn:R<N
 le:w.heap.size≤R
 g:Gr w W
theorem RW.gr {w W b:World}{R N:Nat}{d:Rq}{f c:Value}{fs:List Fl}(h:RW w R N d f c fs W)(a:Gr W b):RW w R N d f c fs b :=
 ⟨a.cell h.c0,a.cell h.c1,a.cell h.c2,a.cell h.c3,a.cell h.c4,a.cell h.c5,a.cell h.c6,λo=>(Below.frozen a (show(⟨R,o,none⟩:Addr).block<W.heap.size from h.lt)).trans (h.fz o),
  h.own.ch (a.to_ch (λ_=>False)) (λ_ e=>e.elim),qj h.lt (Below.size a),h.rn,h.le,h.g.trans a⟩
theorem RW.put6 {w W:World}{R N:Nat}{b:Rq}{d a:Value}{fs:List Fl}(h:RW w R N b d a fs W)(c:Bool):RW w R N { b with c:=c } d a fs (W.setCell ⟨R,6,none⟩ (.bool c)):=by
 refine⟨?_,?_,?_,?_,?_,?_,?_,λo=>by simp[go_sem,h.fz],?_,by simpa using h.lt,h.rn,h.le,h.g.setCell h.le _⟩
 ·simp[go_sem,h.c0]
 ·simp[go_sem,h.c1]
 ·simp[go_sem,h.c2]
 ·simp[go_sem,h.c3]
 ·simp[go_sem,h.c4]
 ·simp[go_sem,h.c5]
 ·simp[go_sem,h.c6]
 ·exact h.own.ch (Ch.putB W _) (λk e=>by have:=h.rn;omega)
theorem RW.put4 {w W:World}{R N:Nat}{b:Rq}{c a:Value}{fs:List Fl}(h:RW w R N b c a fs W):RW w R N b a a fs (W.setCell ⟨R,4,none⟩ a):=by
 refine⟨?_,?_,?_,?_,?_,?_,?_,λo=>by simp[go_sem,h.fz],?_,by simpa using h.lt,h.rn,h.le,h.g.setCell h.le _⟩
 ·simp[go_sem,h.c0]
 ·simp[go_sem,h.c1]
 ·simp[go_sem,h.c2]
 ·simp[go_sem,h.c3]
 ·simp[go_sem,h.c4]
 ·simp[go_sem,h.c5]
 ·simp[go_sem,h.c6]
 ·exact h.own.ch (Ch.putB W _) (λk e=>by have:=h.rn;omega)
theorem RW.fld {w W:World}{R N a:Nat}{j:Rq}{l:Value}{e:Option Addr}{fs:List Fl}(h:RW w R N j l (.slice e fs.length a) fs W)(k:Nat)(i:k<fs.length) :
  ∃b off,e=some ⟨b,off,none⟩∧W.cell? ⟨b,off+k*2,none⟩=some (.string ⟨fs[k].1.toArray⟩)∧W.cell? ⟨b,off+k*2+1,none⟩=some (.string ⟨fs[k].2.toArray⟩):=by
 obtain⟨m,c9,c,d⟩:=h.own.at;injection c with c f g;rw[c];exact d k i
theorem RW.row {w W:World}{R N:Nat}{d:Rq}{f b:Value}{fs:List Fl}(h:RW w R N d f b fs W){a:Addr}{n c:Nat}(e:b=.slice (some a) n c):w.heap.size≤a.block:=by
 have:=(World.ownsRow.lt h.own a.block (by rw[e];rfl)).1;have:=h.rn;have:=h.le;omega
theorem kL {c0:Bool}{fs:List Fl}{k:Nat}{x:Fl}(a:k<fs.length)(b:fs[k]=x):(c0||(fs.take (k+1)).any aO)=((c0||(fs.take k).any aO)||(an x.1 jh&&kC x.2 fZ)):=by
 rw[List.take_succ_eq_append_getElem a,b];simp[aO,Bool.or_assoc]
theorem OwnF.out {N:Nat}{W:World}{v:Value}{fs:List Fl}{T:Nat→Prop}(h:OwnF N W v fs)(f:∀k,T k→k<N):vg T v:=by
 intro a n c e i;obtain⟨j,d⟩:=h;rcases d with⟨rfl,_⟩ | ⟨g,cap,b,rfl,l,_⟩
 ·cases e
 ·injection e with e1 _ _;injection e1 with e1;subst e1;have:=f _ i;dsimp only at this;omega
theorem OwnF.in {N:Nat}{W:World}{v:Value}{fs:List Fl}(h:OwnF N W v fs):∀a n c,v=.slice (some a) n c→a.block<W.heap.size:=by
 intro a n c e;have:=World.ownsRow.lt h a.block (by rw[e];rfl);exact this.2
def ReadsPost (B:Nat)(T:Nat→Prop)(W:World)(p:Ps)(ls:List (List UInt8))(e:Ending)(W':World):Prop:=e=.returned (.int .i64 (fX ls))∧PsPost B T W (eR p ls) W'
theorem ReadsPost.bad {B:Nat}{T:Nat→Prop}{W a:World}{p:Ps}{d cv:Value}{b:List (List UInt8)}(h:PsAt B T W p d cv)(e:Gr W a)(c:Nat)(z:Int)(g:z=c)(f:headQ b=.bad c):ReadsPost B T W p b (.returned (.int .i64 z)) a:=by
 subst g;unfold ReadsPost fX eR;rw[f];exact⟨rfl,PsPost.of_gr h e⟩
theorem mC {B R N:Nat}{T:Nat→Prop}{w wr:World}{p:Ps}{d cv b:Value}{m pa qu:List UInt8}{v:Int}{c:Bool}{fs:List Fl}{n:Int}(h:PsAt B T w p d cv)(a:RW w R N ⟨m,pa,qu,v,[],[],c⟩ b b fs wr)(hn:0≤n) :
  PsAt B T ((((((((wr.setCell ⟨B,3,none⟩ (.string ⟨m.toArray⟩)).setCell ⟨B,4,none⟩ (.string ⟨pa.toArray⟩)).setCell ⟨B,5,none⟩ (.string ⟨qu.toArray⟩)).setCell ⟨B,6,none⟩ (.int .i64 v)).setCell ⟨B,7,none⟩ b).setCell ⟨B,8,none⟩ (.string ⟨#[]⟩)).setCell ⟨B,9,none⟩ (.bool c)).setCell ⟨B,10,none⟩ (.int .i64 n))
   { p with r:=⟨m,pa,qu,v,fs,[],c⟩,len:=n.toNat } b cv:=by
 have:=(h.gr a.g).sreq ⟨m,pa,qu,v,fs,[],c⟩ n.toNat b a.own.at (a.own.out (λk e=>by have:=(h.tl k e).2;have:=a.le;have:=a.rn;omega)) a.own.in;rw[show((n.toNat:Nat):Int)=n by omega]at this;exact this
theorem xW {B:Nat}{T:Nat→Prop}(b:T B)(wr:World)(d e f g h i j c:Value):Ch T wr ((((((((wr.setCell ⟨B,3,none⟩ d).setCell ⟨B,4,none⟩ e).setCell ⟨B,5,none⟩ f).setCell ⟨B,6,none⟩ g).setCell ⟨B,7,none⟩ h).setCell ⟨B,8,none⟩ i).setCell ⟨B,9,none⟩ j).setCell ⟨B,10,none⟩ c) :=
 (((((((Ch.setCell wr (a:=⟨B,3,none⟩) b _).trans (Ch.setCell _ (a:=⟨B,4,none⟩) b _)).trans (Ch.setCell _ (a:=⟨B,5,none⟩) b _)).trans (Ch.setCell _ (a:=⟨B,6,none⟩) b _)).trans (Ch.setCell _ (a:=⟨B,7,none⟩) b _)).trans (Ch.setCell _ (a:=⟨B,8,none⟩) b _)).trans (Ch.setCell _ (a:=⟨B,9,none⟩) b _)).trans (Ch.setCell _ (a:=⟨B,10,none⟩) b _)
theorem ReadsPost.good {B R N:Nat}{T:Nat→Prop}{w wr:World}{p:Ps}{j cv b:Value}{i:List (List UInt8)}{m pa qu:List UInt8}{v:Int}{d:Bool}{fs:List Fl}{n:Int}(h:PsAt B T w p j cv)(f:RW w R N ⟨m,pa,qu,v,[],[],d⟩ b b fs wr)(hn:0≤n)
  (k:headQ i=.good ⟨m,pa,qu,v,fs,[],d⟩ n.toNat false) :
  ReadsPost B T w p i (.returned (.int .i64 0)) ((((((((wr.setCell ⟨B,3,none⟩ (.string ⟨m.toArray⟩)).setCell ⟨B,4,none⟩ (.string ⟨pa.toArray⟩)).setCell ⟨B,5,none⟩ (.string ⟨qu.toArray⟩)).setCell ⟨B,6,none⟩ (.int .i64 v)).setCell ⟨B,7,none⟩ b).setCell ⟨B,8,none⟩ (.string ⟨#[]⟩)).setCell ⟨B,9,none⟩ (.bool d)).setCell ⟨B,10,none⟩ (.int .i64 n)):=by
 unfold ReadsPost fX eR;rw[k];exact⟨rfl,⟨T,b,cv,mC h f hn,(f.g.to_ch T).trans (xW h.tb _ _ _ _ _ _ _ _ _),λ_ l=>.inl l,λa n c e=>.inr (f.row e)⟩⟩
theorem ReadsPost.chunk {B R N b:Nat}{T:Nat→Prop}{w wr w3:World}{p:Ps}{r cv d:Value}{q:List (List UInt8)}{m pa qu:List UInt8}{v:Int}{j:Bool}{fs:List Fl}{n:Int}(h:PsAt B T w p r cv)(f:RW w R N ⟨m,pa,qu,v,[],[],j⟩ d d fs wr)(hn:0≤n)
  (u:headQ q=.good ⟨m,pa,qu,v,fs,[],j⟩ n.toNat true)
  (t:((((((((wr.setCell ⟨B,3,none⟩ (.string ⟨m.toArray⟩)).setCell ⟨B,4,none⟩ (.string ⟨pa.toArray⟩)).setCell ⟨B,5,none⟩ (.string ⟨qu.toArray⟩)).setCell ⟨B,6,none⟩ (.int .i64 v)).setCell ⟨B,7,none⟩ d).setCell ⟨B,8,none⟩ (.string ⟨#[]⟩)).setCell ⟨B,9,none⟩ (.bool j)).setCell ⟨B,10,none⟩ (.int .i64 n)).heap.size=b)
  (x:Rd b w3 ck0 (.slice none 0 0) (.slice none 0 0))
  (o:Gr ((((((((wr.setCell ⟨B,3,none⟩ (.string ⟨m.toArray⟩)).setCell ⟨B,4,none⟩ (.string ⟨pa.toArray⟩)).setCell ⟨B,5,none⟩ (.string ⟨qu.toArray⟩)).setCell ⟨B,6,none⟩ (.int .i64 v)).setCell ⟨B,7,none⟩ d).setCell ⟨B,8,none⟩ (.string ⟨#[]⟩)).setCell ⟨B,9,none⟩ (.bool j)).setCell ⟨B,10,none⟩ (.int .i64 n)) w3) :
  ReadsPost B T w p q (.returned (.int .i64 0)) (w3.setCell ⟨B,11,none⟩ (.pointer (some ⟨b,0,none⟩))):=by
 unfold ReadsPost fX eR;rw[u];have y:b=wr.heap.size:=by rw[←t];simp
 have z:=Below.size f.g;have s:=(mC h f hn).gr o;have l:∀k,T k→k<b:=λk i=>by have:=(h.tl k i).2;omega
 refine⟨rfl,⟨_,d,_,s.schunk x l (λa n c e=>by have:=f.own.in a n c e;omega),?_,λk i=>?_,λa n c e=>.inr (f.row e)⟩⟩
 ·exact(((f.g.to_ch T).trans (xW h.tb _ _ _ _ _ _ _ _ _)).trans (o.to_ch T)).trans (Ch.setCell _ (a:=⟨B,11,none⟩) h.tb _)
 ·rcases i with i | rfl
  ·exact .inl i
  ·exact .inr (by omega)
theorem AP (B:Nat)(T:Nat→Prop)(p:Ps)(fv cv:Value)(s:List UInt8)(w:World)(hG:G w)(h:PsAt B T w p fv cv)(hl:s.length≤100000) :
  Calls prog 106 #[.pointer (some ⟨B,0,none⟩),.string ⟨s.toArray⟩] w (ReadsPost B T w p (au s)):=by
 have a5:=qq hG;have h':=qq h;have h5:=qq (zp s w hG (by omega));obtain⟨l0,tl,i7⟩:∃a b,au s=a :: b:=by
  cases e:au s with
  | nil=>exact absurd e (ly _)
  | cons a b=>exact⟨a,b,rfl⟩
 obtain⟨z1,z2⟩:=gQ _ s (qv _);rw[i7]at h5 z1 z2 ⊢;have h7:=qq z2;have j1:tl.length≤100000:=by simp at z1;omega
 have i5:=qq (λW M=>yE l0 W M (by have:=z2 l0 (by simp);omega));clear z1 z2 i7 h hG;go_enter func106,ntmps106;go_wp2_with fail;refine h5.out.mono ?_;rintro e w1⟨⟨tv,rfl,hT⟩,L⟩;have g1:=qq L;obtain⟨pt,h8,rfl,h0,hc⟩:=hT;obtain⟨b,off,rfl,k0⟩:=hc 0 (by simp);have d5:(l0 :: tl).length=tl.length+1:=rfl;rw[d5]at h0 ⊢;have e7:∀i,(hi:i<tl.length)→w1.cell? ⟨b,off+1+i,none⟩=some (.string ⟨tl[i].toArray⟩):=λi hi=>by
  obtain⟨b',k6,e,h⟩:=hc (i+1) (by simp;omega);injection e with e;injection e with e1 e2;subst e1;subst e2;rw[show off+1+i=off+(i+1) by omega];simpa using h
 have i3:=qq e7;have j9:w1.cell? ⟨b,off,none⟩=some (.string ⟨l0.toArray⟩):=by simpa using k0
 clear L hc e7 k0 h5;have k5:((tl.length+1:Nat):Int) - 1=tl.length:=by omega
 by_cases j5:32<tl.length
 ·have a3:=qq (ReadsPost.bad h'.out g1.out 431 431 rfl (xh (by rw[d5];omega)));have i1:(32:Int)<tl.length:=by omega
  clear j5;go_wp2;go_ret;exact a3.out
 ·have i1:¬(32:Int)<tl.length:=by omega
  have hq:=qq (Dv (l0:=l0) (tl:=tl) (by rw[d5];omega));go_wp2_with fail;refine(i5.out _ (a5.out.gr g1.out)).mono ?_;rintro e w2⟨rfl,L⟩;have g2:=qq (g1.out.trans L);have i4:=qq (λi hi=>L.cell (i3.out i hi));obtain⟨⟨rq,j3⟩,g4⟩:∃x,dT l0=x:=⟨_,rfl⟩;have j0:rq.fs=[]∧rq.b=[]∧rq.c=false:=by
   have e1:(dT l0).1.fs=[]∧(dT l0).1.b=[]∧(dT l0).1.c=false:=⟨rfl,rfl,rfl⟩;rw[g4]at e1;exact e1
  rw[g4]at hq ⊢;obtain⟨m,pa,qu,v,k7,rb,rc⟩:=rq;obtain⟨rfl,rfl,rfl⟩:=j0;unfold Rq.V;dsimp only at hq ⊢;have g3:=g2.out.trans (Gr.alloc w2 (.cells #[.string ⟨m.toArray⟩,.string ⟨pa.toArray⟩,.string ⟨qu.toArray⟩,.int .i64 v,.slice none 0 0,.string ⟨#[]⟩,.bool false] 78));have hR:=λ(o:Nat) (u:Value) (h:([.string ⟨m.toArray⟩,.string ⟨pa.toArray⟩,.string ⟨qu.toArray⟩,.int .i64 v,.slice none 0 0,.string ⟨#[]⟩,.bool false]:List Value)[o]?=some u)=>aa w2 [.string ⟨m.toArray⟩,.string ⟨pa.toArray⟩,.string ⟨qu.toArray⟩,.int .i64 v,.slice none 0 0,.string ⟨#[]⟩,.bool false] 78 o u h;clear L i3 i5 g4 j9;have r0:=hR 0 _ rfl;have r1:=hR 1 _ rfl;have r2:=hR 2 _ rfl;have r3:=hR 3 _ rfl;have r4:=hR 4 _ rfl;have r5:=hR 5 _ rfl;have Y:=hR 6 _ rfl;have f6:∀o,(w2.alloc (.cells #[.string ⟨m.toArray⟩,.string ⟨pa.toArray⟩,.string ⟨qu.toArray⟩,.int .i64 v,.slice none 0 0,.string ⟨#[]⟩,.bool false] 78)).frozen? ⟨w2.heap.size,o,none⟩=false:=λo=>by simp[go_sem]
  have f0:w2.heap.size<(w2.alloc (.cells #[.string ⟨m.toArray⟩,.string ⟨pa.toArray⟩,.string ⟨qu.toArray⟩,.int .i64 v,.slice none 0 0,.string ⟨#[]⟩,.bool false] 78)).heap.size:=by simp
  have g6:w.heap.size≤w2.heap.size:=Below.size g2.out;have g8:=λi hi=>(Gr.alloc w2 (.cells #[.string ⟨m.toArray⟩,.string ⟨pa.toArray⟩,.string ⟨qu.toArray⟩,.int .i64 v,.slice none 0 0,.string ⟨#[]⟩,.bool false] 78)).cell (i4.out i hi);clear hR i4;go_upto_region 5 with(fail);obtain⟨R,i2⟩:∃x,w2.heap.size=x:=⟨_,rfl⟩;rw[i2]at r0 r1 r2 r3 r4 r5 Y f0 g6 f6 ⊢;generalize (w2.alloc (.cells #[.string ⟨m.toArray⟩,.string ⟨pa.toArray⟩,.string ⟨qu.toArray⟩,.int .i64 v,.slice none 0 0,.string ⟨#[]⟩,.bool false] 78))=w3 at r0 r1 r2 r3 r4 r5 Y f0 f6 g8 g3 ⊢;have i0:=qq g3;have f9:=qq f6;have i6:=qq (λt (ht:ko w3 t tl)=>sL tl t w3 (a5.out.gr g3) ht j1 (λl hl=>by have:=h7.out l (by simp[hl]);omega));have f4:=qq g8;clear g8 f6 g3 g2 g1 i2;go_wp2_with fail
  case' inl =>
   have j7:tl.length=0:=(by omega);have h6:=qq (show ko w3 (.slice (some ⟨b,off,none⟩) tl.length 0) tl from⟨_,_,rfl,by omega,λi hi=>by omega⟩);clear j7 f4 h0
  case' inr =>
   have h6:=qq (show ko w3 (.slice (some ⟨b,off+1,none⟩) tl.length (h8 - 1)) tl from⟨_,_,rfl,by omega,λi hi=>⟨b,off+1,rfl,f4.out i hi⟩⟩);clear f4 h0
  all_goals
   refine(i6.out _ h6.out).mono ?_;clear h6 i6;rintro e w4⟨fw,j2,rfl,b1,hF⟩;obtain⟨fs,g5,d0,j6,e9⟩:∃fs,OwnF w3.heap.size w4 fw fs∧(∀f∈fs,f.1.length≤900000∧f.2.length≤900000)∧fs.length≤100000∧headQ (l0 :: tl)=(if (!j3||!j2)||((v==11&&(bl fs tp).2 != 1)||decide (bS fs<0)) then .bad 400
     else if decide (0<(bl fs jM).2)&&(v==10||(decide (0<(bl fs eu).2)||(decide (1<(bl fs jM).2)||!an (bl fs jM).1 nO))) then .bad 400
     else if 4096<bS fs then .bad 413
     else .good { m:=m,p:=pa,q:=qu,v:=v,fs:=fs,b:=[],c:=v==10||fs.any aO } (bS fs).toNat (decide (0<(bl fs jM).2))):=by
    rcases hF with⟨e1,rfl,rfl⟩ | ⟨fs,e1,e2,rfl,ho⟩
    ·refine⟨[],World.ownsRow_nil _ _ _ _,(by simp),qx _,?_⟩;rw[hq.out,e1];simp
    ·refine⟨fs,ho,?_,by omega,?_⟩
     ·intro f hf;have h9:∀l∈tl,l.length≤900000:=λl hl=>(by have:=h7.out l (by simp[hl]);omega);exact jl e1 h9 f hf
     ·rw[hq.out,e1];simp
   clear hF hq h7;obtain⟨pv,d,rfl,g9⟩:=g5.at;clear g9;have f2:=qq (show RW w R w3.heap.size ⟨m,pa,qu,v,[],[],false⟩ (.slice none 0 0) (.slice pv fs.length d) fs w4 from
    ⟨b1.cell r0,b1.cell r1,b1.cell r2,b1.cell r3,b1.cell r4,b1.cell r5,b1.cell Y,λo=>(Below.frozen b1 (show(⟨R,o,none⟩:Addr).block<w3.heap.size from f0)).trans (f9.out o),g5,qj f0 (Below.size b1),f0,g6,i0.out.trans b1⟩)
   clear r0 r1 r2 r3 r4 r5 Y f9 f0 g6 i0 b1 g5;generalize w3.heap.size=N at f2;obtain⟨⟨vh,nh⟩,b8⟩:∃x,bl fs tp=x:=⟨_,rfl⟩;obtain⟨⟨vt,nt⟩,e0⟩:∃x,bl fs jM=x:=⟨_,rfl⟩;obtain⟨⟨vl,nl⟩,f1⟩:∃x,bl fs eu=x:=⟨_,rfl⟩;have f8:vt.length≤900000:=(by have:=Du (name:=jM) (λf hf=>(d0 f hf).2);rw[e0]at this;exact this);have k1:=qq (λW M hf=>uE (.slice pv fs.length d) fs tp vh nh b8 W M hf (by omega) (λf hm=>by have:=d0 f hm;omega) (by decide));have k2:=qq (λW M hf=>uE (.slice pv fs.length d) fs jM vt nt e0 W M hf (by omega) (λf hm=>by have:=d0 f hm;omega) (by decide));have k3:=qq (λW M hf=>uE (.slice pv fs.length d) fs eu vl nl f1 W M hf (by omega) (λf hm=>by have:=d0 f hm;omega) (by decide));have k4:=qq (λW M hf=>uG fs (.slice pv fs.length d) W M hf j6 d0);rw[b8,e0,f1]at e9;obtain⟨n,hn⟩:∃x,bS fs=x:=⟨_,rfl⟩;rw[hn]at e9 k4;obtain⟨al,g7⟩:∃x,an vt nO=x:=⟨_,rfl⟩;have qa:=qq (λW M=>ik vt nO al g7 W M (by omega) (by decide));dsimp only at e9;rw[g7]at e9;have hq:=qq e9;clear g7;have e3:=qq d0;clear e9 d0 b8 e0 f1 hn;go_wp2_with fail;refine(k1.out _ (a5.out.gr f2.out.g) f2.out.own.at).mono ?_;rintro e w5⟨rfl,L⟩;have e4:=qq (f2.out.gr L);clear L f2;go_wp2_with fail;refine(k2.out _ (a5.out.gr e4.out.g) e4.out.own.at).mono ?_;rintro e w6⟨rfl,L⟩;have e5:=qq (e4.out.gr L);clear L e4;go_wp2_with fail;refine(k3.out _ (a5.out.gr e5.out.g) e5.out.own.at).mono ?_;rintro e w7⟨rfl,L⟩;have e6:=qq (e5.out.gr L);clear L e5;go_wp2_with fail;refine(k4.out _ (a5.out.gr e6.out.g) e6.out.own.at).mono ?_;rintro e w8⟨rfl,L⟩;have j:=qq (e6.out.gr L);clear L e6 k1 k2 k3 k4;go_upto_region 10 with(fail);have r3:=j.out.c3;cases j3 with
   | false =>
    have C:=qq (ReadsPost.bad (h'.out) j.out.g 400 400 rfl (by rw[hq.out];simp ));have r3:=j.out.c3;clear j;go_wp2;go_ret;exact C.out
   | true =>
    cases j2 with
    | false =>
     have C:=qq (ReadsPost.bad (h'.out) j.out.g 400 400 rfl (by rw[hq.out];simp ));have r3:=j.out.c3;clear j;go_wp2;go_ret;exact C.out
    | true =>
     by_cases a4:v=11
     ·subst a4;by_cases i8:nh=1
      ·subst i8;by_cases P:n<0
       ·have C:=qq (ReadsPost.bad (h'.out) j.out.g 400 400 rfl (by rw[hq.out];simp[P]));have r3:=j.out.c3;clear j;go_wp2;go_ret;exact C.out
       ·go_upto_region 12 with(fail);by_cases f5:nt=0
        ·subst f5;by_cases a0:4096<n
         ·have C:=qq (ReadsPost.bad (h'.out) j.out.g 413 413 rfl (by rw[hq.out];simp[P,a0]));clear j;go_wp2;go_ret;exact C.out
         ·have J:headQ (l0 :: tl)=.good ⟨m,pa,qu,11,fs,[],(11:Int)==10||fs.any aO⟩ n.toNat false:=(by rw[hq.out];simp[P,a0]);have a9:=qq (show headQ (l0 :: tl)=.good ⟨m,pa,qu,11,fs,[],false||fs.any aO⟩ n.toNat false from by rw[J];first | rfl | simp[]);clear J hq;have r3:=j.out.c3;have r4:=j.out.c4;have Y:=j.out.c6;have rf:=j.out.fz;go_upto_region 17 with(fail);have Z:=qq (show RW w R N ⟨m,pa,qu,11,[],[],false⟩ (.slice pv fs.length d) (.slice pv fs.length d) fs ((w8.setCell ⟨R,4,none⟩ (.slice pv fs.length d)).setCell ⟨R,6,none⟩ (.bool false))from(j.out.put4).put6 _);generalize ((w8.setCell ⟨R,4,none⟩ (.slice pv fs.length d)).setCell ⟨R,6,none⟩ (.bool false))=w17 at Z ⊢;clear r3 r4 Y rf j qa f8;go_wp2;go_loopw [107] (λi W=>∃k:Nat,k≤fs.length∧i=.int .i64 k∧RW w R N ⟨m,pa,qu,11,[],[],false||(fs.take k).any aO⟩ (.slice pv fs.length d) (.slice pv fs.length d) fs W) (λi _=>fs.length - (intOf i).toNat)
          case atStart=>exact⟨0,qx _,rfl,by simpa using Z.out⟩
          case round =>
           obtain⟨k,hk,rfl,y⟩:=hrel;have I:=qq y;by_cases O:k<fs.length
           ·obtain⟨b9,o9,rfl,h1,h2⟩:=y.fld k O;have b5:=e3.out _ (List.getElem_mem O);have b4:=qq (λx (hx:fs[k]=x)=>kL (c0:=false) O hx);obtain⟨⟨U,X⟩,hx⟩:∃x,fs[k]=x:=⟨_,rfl⟩;rw[hx]at h1 h2 b5;have E:=qq (b4.out _ hx);obtain⟨ck,b3⟩:∃x,(false||(fs.take k).any aO)=x:=⟨_,rfl⟩;rw[b3]at I E;obtain⟨a1,a6⟩:∃x,an U jh=x:=⟨_,rfl⟩;obtain⟨a2,a7⟩:∃x,kC X fZ=x:=⟨_,rfl⟩;dsimp only at h1 h2 b5 E;have q1:=qq (λW M=>ik U jh a1 a6 W M (by omega) (by decide));have q2:=qq (λW M=>qB X fZ a2 a7 W M (by omega) (by decide));rw[a6,a7]at E;have d3:(k:Int)<fs.length:=(by omega);clear y b4 hx b3 a6 a7;go_upto_region 20 with(fail);have y0:(wr.alloc (.cells #[.string ⟨U.toArray⟩,.string ⟨X.toArray⟩] 80)).cell? ⟨wr.heap.size,0,none⟩=some (.string ⟨U.toArray⟩):=aa wr [.string ⟨U.toArray⟩,.string ⟨X.toArray⟩] _ 0 _ rfl;have y1:(wr.alloc (.cells #[.string ⟨U.toArray⟩,.string ⟨X.toArray⟩] 80)).cell? ⟨wr.heap.size,1,none⟩=some (.string ⟨X.toArray⟩):=aa wr [.string ⟨U.toArray⟩,.string ⟨X.toArray⟩] _ 1 _ rfl;have z:=qq (I.out.gr (Gr.alloc wr (.cells #[.string ⟨U.toArray⟩,.string ⟨X.toArray⟩] 80)));generalize wr.alloc (.cells #[.string ⟨U.toArray⟩,.string ⟨X.toArray⟩] 80)=w18 at y0 y1 z ⊢;clear I h1 h2;cases ck with
            | true =>
             have Y:=z.out.c6;have rf:=z.out.fz;have D:=qq (show RW w R N ⟨m,pa,qu,11,[],[],false||(fs.take (k+1)).any aO⟩ (.slice (some ⟨b9,o9,none⟩) fs.length d) (.slice (some ⟨b9,o9,none⟩) fs.length d) fs (w18.setCell ⟨R,6,none⟩ (.bool true))from by
              rw[E.out];simpa using z.out.put6 true)
             clear z;go_wp2;go_roundw
             case rel=>exact⟨k+1,O,rfl,D.out⟩
             case measure=>simp[intOf];omega
            | false =>
             have Y:=z.out.c6;go_wp2_with fail;refine(q1.out _ (a5.out.gr z.out.g)).mono ?_;rintro e d8⟨rfl,L⟩;have A:=qq (z.out.gr L);replace y1:=L.cell y1;clear L z y0 Y;cases a1 with
             | false =>
              have Y:=A.out.c6;have rf:=A.out.fz;have D:=qq (show RW w R N ⟨m,pa,qu,11,[],[],false||(fs.take (k+1)).any aO⟩ (.slice (some ⟨b9,o9,none⟩) fs.length d) (.slice (some ⟨b9,o9,none⟩) fs.length d) fs (d8.setCell ⟨R,6,none⟩ (.bool false))from by
               rw[E.out];simpa using A.out.put6 false)
              clear A;go_wp2;go_roundw
              case rel=>exact⟨k+1,O,rfl,D.out⟩
              case measure=>simp[intOf];omega
             | true =>
              go_wp2_with fail;refine(q2.out _ (a5.out.gr A.out.g)).mono ?_;rintro e d9⟨rfl,L⟩;have H:=qq (A.out.gr L);clear L A y1;have Y:=H.out.c6;have rf:=H.out.fz;have D:=qq (show RW w R N ⟨m,pa,qu,11,[],[],false||(fs.take (k+1)).any aO⟩ (.slice (some ⟨b9,o9,none⟩) fs.length d) (.slice (some ⟨b9,o9,none⟩) fs.length d) fs (d9.setCell ⟨R,6,none⟩ (.bool a2))from by
               rw[E.out];simpa using H.out.put6 a2)
              clear H;go_wp2;go_roundw
              case rel=>exact⟨k+1,O,rfl,D.out⟩
              case measure=>simp[intOf];omega
           ·have d4:k=fs.length:=(by omega);subst d4;rw[List.take_length]at y;have d3:¬(fs.length:Int)<fs.length:=(by omega);clear I;obtain⟨cc,a8⟩:∃x,(false||fs.any aO)=x:=⟨_,rfl⟩;rw[a8]at y;have S:=qq (show headQ (l0 :: tl)=.good ⟨m,pa,qu,11,fs,[],cc⟩ n.toNat false from by rw[a9.out,←a8]);have b7:0≤n:=(by omega);have b0:=qq y;have r:=h'.out.gr y.g;have r0:=y.c0;have r1:=y.c1;have r2:=y.c2;have r3:=y.c3;have r4:=y.c4;have r5:=y.c5;have Y:=y.c6;have c3:=r.c3;have c4:=r.c4;have c5:=r.c5;have c6:=r.c6;have c7:=r.c7;have c8:=r.c8;have c9:=r.c9;have c10:=r.c10;have c11:=r.c11;have g0:=r.fz;clear a8 y r;have a3:=qq (ReadsPost.good h'.out b0.out b7 S.out);go_wp2;go_ret;exact a3.out
        ·have i9:(0:Int)<nt:=(by omega);have e8:0<nt:=(by omega);by_cases h4:nl=0
         ·subst h4;by_cases h3:nt=1
          ·subst h3;go_wp2_with fail;refine(qa.out _ (a5.out.gr j.out.g)).mono ?_;rintro e w9⟨rfl,L⟩;have F:=qq (j.out.gr L);clear L j;cases al with
           | false =>
            have C:=qq (ReadsPost.bad (h'.out) F.out.g 400 400 rfl (by rw[hq.out];simp));clear F;go_wp2;go_ret;exact C.out
           | true =>
            by_cases a0:4096<n
            ·have C:=qq (ReadsPost.bad (h'.out) F.out.g 413 413 rfl (by rw[hq.out];simp[P,a0]));clear F;go_wp2;go_ret;exact C.out
            ·have J:headQ (l0 :: tl)=.good ⟨m,pa,qu,11,fs,[],(11:Int)==10||fs.any aO⟩ n.toNat true:=(by rw[hq.out];simp[P,a0]);have a9:=qq (show headQ (l0 :: tl)=.good ⟨m,pa,qu,11,fs,[],false||fs.any aO⟩ n.toNat true from by rw[J];first | rfl | simp[]);clear J hq;have r3:=F.out.c3;have r4:=F.out.c4;have Y:=F.out.c6;have rf:=F.out.fz;go_upto_region 17 with(fail);have Z:=qq (show RW w R N ⟨m,pa,qu,11,[],[],false⟩ (.slice pv fs.length d) (.slice pv fs.length d) fs ((w9.setCell ⟨R,4,none⟩ (.slice pv fs.length d)).setCell ⟨R,6,none⟩ (.bool false))from(F.out.put4).put6 _);generalize ((w9.setCell ⟨R,4,none⟩ (.slice pv fs.length d)).setCell ⟨R,6,none⟩ (.bool false))=w17 at Z ⊢;clear r3 r4 Y rf F qa f8;go_wp2;go_loopw [107] (λi W=>∃k:Nat,k≤fs.length∧i=.int .i64 k∧RW w R N ⟨m,pa,qu,11,[],[],false||(fs.take k).any aO⟩ (.slice pv fs.length d) (.slice pv fs.length d) fs W) (λi _=>fs.length - (intOf i).toNat)
             case atStart=>exact⟨0,qx _,rfl,by simpa using Z.out⟩
             case round =>
              obtain⟨k,hk,rfl,y⟩:=hrel;have I:=qq y;by_cases O:k<fs.length
              ·obtain⟨b9,o9,rfl,h1,h2⟩:=y.fld k O;have b5:=e3.out _ (List.getElem_mem O);have b4:=qq (λx (hx:fs[k]=x)=>kL (c0:=false) O hx);obtain⟨⟨U,X⟩,hx⟩:∃x,fs[k]=x:=⟨_,rfl⟩;rw[hx]at h1 h2 b5;have E:=qq (b4.out _ hx);obtain⟨ck,b3⟩:∃x,(false||(fs.take k).any aO)=x:=⟨_,rfl⟩;rw[b3]at I E;obtain⟨a1,a6⟩:∃x,an U jh=x:=⟨_,rfl⟩;obtain⟨a2,a7⟩:∃x,kC X fZ=x:=⟨_,rfl⟩;dsimp only at h1 h2 b5 E;have q1:=qq (λW M=>ik U jh a1 a6 W M (by omega) (by decide));have q2:=qq (λW M=>qB X fZ a2 a7 W M (by omega) (by decide));rw[a6,a7]at E;have d3:(k:Int)<fs.length:=(by omega);clear y b4 hx b3 a6 a7;go_upto_region 20 with(fail);have y0:(wr.alloc (.cells #[.string ⟨U.toArray⟩,.string ⟨X.toArray⟩] 80)).cell? ⟨wr.heap.size,0,none⟩=some (.string ⟨U.toArray⟩):=aa wr [.string ⟨U.toArray⟩,.string ⟨X.toArray⟩] _ 0 _ rfl;have y1:(wr.alloc (.cells #[.string ⟨U.toArray⟩,.string ⟨X.toArray⟩] 80)).cell? ⟨wr.heap.size,1,none⟩=some (.string ⟨X.toArray⟩):=aa wr [.string ⟨U.toArray⟩,.string ⟨X.toArray⟩] _ 1 _ rfl;have z:=qq (I.out.gr (Gr.alloc wr (.cells #[.string ⟨U.toArray⟩,.string ⟨X.toArray⟩] 80)));generalize wr.alloc (.cells #[.string ⟨U.toArray⟩,.string ⟨X.toArray⟩] 80)=w18 at y0 y1 z ⊢;clear I h1 h2;cases ck with
               | true =>
                have Y:=z.out.c6;have rf:=z.out.fz;have D:=qq (show RW w R N ⟨m,pa,qu,11,[],[],false||(fs.take (k+1)).any aO⟩ (.slice (some ⟨b9,o9,none⟩) fs.length d) (.slice (some ⟨b9,o9,none⟩) fs.length d) fs (w18.setCell ⟨R,6,none⟩ (.bool true))from by
                 rw[E.out];simpa using z.out.put6 true)
                clear z;go_wp2;go_roundw
                case rel=>exact⟨k+1,O,rfl,D.out⟩
                case measure=>simp[intOf];omega
               | false =>
                have Y:=z.out.c6;go_wp2_with fail;refine(q1.out _ (a5.out.gr z.out.g)).mono ?_;rintro e d8⟨rfl,L⟩;have A:=qq (z.out.gr L);replace y1:=L.cell y1;clear L z y0 Y;cases a1 with
                | false =>
                 have Y:=A.out.c6;have rf:=A.out.fz;have D:=qq (show RW w R N ⟨m,pa,qu,11,[],[],false||(fs.take (k+1)).any aO⟩ (.slice (some ⟨b9,o9,none⟩) fs.length d) (.slice (some ⟨b9,o9,none⟩) fs.length d) fs (d8.setCell ⟨R,6,none⟩ (.bool false))from by
                  rw[E.out];simpa using A.out.put6 false)
                 clear A;go_wp2;go_roundw
                 case rel=>exact⟨k+1,O,rfl,D.out⟩
                 case measure=>simp[intOf];omega
                | true =>
                 go_wp2_with fail;refine(q2.out _ (a5.out.gr A.out.g)).mono ?_;rintro e d9⟨rfl,L⟩;have H:=qq (A.out.gr L);clear L A y1;have Y:=H.out.c6;have rf:=H.out.fz;have D:=qq (show RW w R N ⟨m,pa,qu,11,[],[],false||(fs.take (k+1)).any aO⟩ (.slice (some ⟨b9,o9,none⟩) fs.length d) (.slice (some ⟨b9,o9,none⟩) fs.length d) fs (d9.setCell ⟨R,6,none⟩ (.bool a2))from by
                  rw[E.out];simpa using H.out.put6 a2)
                 clear H;go_wp2;go_roundw
                 case rel=>exact⟨k+1,O,rfl,D.out⟩
                 case measure=>simp[intOf];omega
              ·have d4:k=fs.length:=(by omega);subst d4;rw[List.take_length]at y;have d3:¬(fs.length:Int)<fs.length:=(by omega);clear I;obtain⟨cc,a8⟩:∃x,(false||fs.any aO)=x:=⟨_,rfl⟩;rw[a8]at y;have S:=qq (show headQ (l0 :: tl)=.good ⟨m,pa,qu,11,fs,[],cc⟩ n.toNat true from by rw[a9.out,←a8]);have b7:0≤n:=(by omega);have b0:=qq y;have r:=h'.out.gr y.g;have r0:=y.c0;have r1:=y.c1;have r2:=y.c2;have r3:=y.c3;have r4:=y.c4;have r5:=y.c5;have Y:=y.c6;have c3:=r.c3;have c4:=r.c4;have c5:=r.c5;have c6:=r.c6;have c7:=r.c7;have c8:=r.c8;have c9:=r.c9;have c10:=r.c10;have c11:=r.c11;have g0:=r.fz;clear a8 y r;go_wp2_with fail;refine(xD _).mono ?_;rintro e w3⟨rfl,d7,d2⟩;have b2:=(mC h'.out b0.out b7).gr d2;have j4:=b2.c11;have dz:=b2.fz;clear b2;have a3:=qq (λb L hr=>ReadsPost.chunk (b:=b) (w3:=w3) h'.out b0.out b7 S.out L hr d2);clear d2;generalize f3:((((((((wr.setCell ⟨B,3,none⟩ (.string ⟨m.toArray⟩)).setCell ⟨B,4,none⟩ (.string ⟨pa.toArray⟩)).setCell ⟨B,5,none⟩ (.string ⟨qu.toArray⟩)).setCell ⟨B,6,none⟩ (.int .i64 11)).setCell ⟨B,7,none⟩ (.slice pv fs.length d)).setCell ⟨B,8,none⟩ (.string ⟨#[]⟩)).setCell ⟨B,9,none⟩ (.bool cc)).setCell ⟨B,10,none⟩ (.int .i64 n)).heap.size=bk at d7 ⊢;have d1:=qq (a3.out bk f3 d7);clear f3 d7 a3;go_wp2;go_ret;exact d1.out
          ·have f7:(1:Int)<nt:=(by omega);have d6:1<nt:=(by omega);have C:=qq (ReadsPost.bad (h'.out) j.out.g 400 400 rfl (by rw[hq.out];simp[P,d6,f5]));clear j;go_wp2;go_ret;exact C.out
         ·have f7:(0:Int)<nl:=(by omega);have d6:0<nl:=(by omega);have C:=qq (ReadsPost.bad (h'.out) j.out.g 400 400 rfl (by rw[hq.out];simp[P,d6,e8]));clear j;go_wp2;go_ret;exact C.out
      ·have f7:¬(nh:Int)=1:=(by omega);have C:=qq (ReadsPost.bad (h'.out) j.out.g 400 400 rfl (by rw[hq.out];simp[i8]));have r3:=j.out.c3;clear j;go_wp2;go_ret;exact C.out
     ·by_cases P:n<0
      ·have C:=qq (ReadsPost.bad (h'.out) j.out.g 400 400 rfl (by rw[hq.out];simp[P]));have r3:=j.out.c3;clear j;go_wp2;go_ret;exact C.out
      ·go_upto_region 12 with(fail);by_cases f5:nt=0
       ·subst f5;by_cases a0:4096<n
        ·have C:=qq (ReadsPost.bad (h'.out) j.out.g 413 413 rfl (by rw[hq.out];simp[a4,P,a0]));clear j;go_wp2;go_ret;exact C.out
        ·have J:headQ (l0 :: tl)=.good ⟨m,pa,qu,v,fs,[],(v:Int)==10||fs.any aO⟩ n.toNat false:=(by rw[hq.out];simp[a4,P,a0]);have a9:=qq (show headQ (l0 :: tl)=.good ⟨m,pa,qu,v,fs,[],(decide (v=10))||fs.any aO⟩ n.toNat false from by rw[J];first | rfl | simp[a4]);clear J hq;have r3:=j.out.c3;have r4:=j.out.c4;have Y:=j.out.c6;have rf:=j.out.fz;go_upto_region 17 with(fail);have Z:=qq (show RW w R N ⟨m,pa,qu,v,[],[],(decide (v=10))⟩ (.slice pv fs.length d) (.slice pv fs.length d) fs ((w8.setCell ⟨R,4,none⟩ (.slice pv fs.length d)).setCell ⟨R,6,none⟩ (.bool (decide (v=10))))from(j.out.put4).put6 _);generalize ((w8.setCell ⟨R,4,none⟩ (.slice pv fs.length d)).setCell ⟨R,6,none⟩ (.bool (decide (v=10))))=w17 at Z ⊢;clear r3 r4 Y rf j qa f8 a4;go_wp2;go_loopw [107] (λi W=>∃k:Nat,k≤fs.length∧i=.int .i64 k∧RW w R N ⟨m,pa,qu,v,[],[],(decide (v=10))||(fs.take k).any aO⟩ (.slice pv fs.length d) (.slice pv fs.length d) fs W) (λi _=>fs.length - (intOf i).toNat)
         case atStart=>exact⟨0,qx _,rfl,by simpa using Z.out⟩
         case round =>
          obtain⟨k,hk,rfl,y⟩:=hrel;have I:=qq y;by_cases O:k<fs.length
          ·obtain⟨b9,o9,rfl,h1,h2⟩:=y.fld k O;have b5:=e3.out _ (List.getElem_mem O);have b4:=qq (λx (hx:fs[k]=x)=>kL (c0:=(decide (v=10))) O hx);obtain⟨⟨U,X⟩,hx⟩:∃x,fs[k]=x:=⟨_,rfl⟩;rw[hx]at h1 h2 b5;have E:=qq (b4.out _ hx);obtain⟨ck,b3⟩:∃x,((decide (v=10))||(fs.take k).any aO)=x:=⟨_,rfl⟩;rw[b3]at I E;obtain⟨a1,a6⟩:∃x,an U jh=x:=⟨_,rfl⟩;obtain⟨a2,a7⟩:∃x,kC X fZ=x:=⟨_,rfl⟩;dsimp only at h1 h2 b5 E;have q1:=qq (λW M=>ik U jh a1 a6 W M (by omega) (by decide));have q2:=qq (λW M=>qB X fZ a2 a7 W M (by omega) (by decide));rw[a6,a7]at E;have d3:(k:Int)<fs.length:=(by omega);clear y b4 hx b3 a6 a7;go_upto_region 20 with(fail);have y0:(wr.alloc (.cells #[.string ⟨U.toArray⟩,.string ⟨X.toArray⟩] 80)).cell? ⟨wr.heap.size,0,none⟩=some (.string ⟨U.toArray⟩):=aa wr [.string ⟨U.toArray⟩,.string ⟨X.toArray⟩] _ 0 _ rfl;have y1:(wr.alloc (.cells #[.string ⟨U.toArray⟩,.string ⟨X.toArray⟩] 80)).cell? ⟨wr.heap.size,1,none⟩=some (.string ⟨X.toArray⟩):=aa wr [.string ⟨U.toArray⟩,.string ⟨X.toArray⟩] _ 1 _ rfl;have z:=qq (I.out.gr (Gr.alloc wr (.cells #[.string ⟨U.toArray⟩,.string ⟨X.toArray⟩] 80)));generalize wr.alloc (.cells #[.string ⟨U.toArray⟩,.string ⟨X.toArray⟩] 80)=w18 at y0 y1 z ⊢;clear I h1 h2;cases ck with
           | true =>
            have Y:=z.out.c6;have rf:=z.out.fz;have D:=qq (show RW w R N ⟨m,pa,qu,v,[],[],(decide (v=10))||(fs.take (k+1)).any aO⟩ (.slice (some ⟨b9,o9,none⟩) fs.length d) (.slice (some ⟨b9,o9,none⟩) fs.length d) fs (w18.setCell ⟨R,6,none⟩ (.bool true))from by
             rw[E.out];simpa using z.out.put6 true)
            clear z;go_wp2;go_roundw
            case rel=>exact⟨k+1,O,rfl,D.out⟩
            case measure=>simp[intOf];omega
           | false =>
            have Y:=z.out.c6;go_wp2_with fail;refine(q1.out _ (a5.out.gr z.out.g)).mono ?_;rintro e d8⟨rfl,L⟩;have A:=qq (z.out.gr L);replace y1:=L.cell y1;clear L z y0 Y;cases a1 with
            | false =>
             have Y:=A.out.c6;have rf:=A.out.fz;have D:=qq (show RW w R N ⟨m,pa,qu,v,[],[],(decide (v=10))||(fs.take (k+1)).any aO⟩ (.slice (some ⟨b9,o9,none⟩) fs.length d) (.slice (some ⟨b9,o9,none⟩) fs.length d) fs (d8.setCell ⟨R,6,none⟩ (.bool false))from by
              rw[E.out];simpa using A.out.put6 false)
             clear A;go_wp2;go_roundw
             case rel=>exact⟨k+1,O,rfl,D.out⟩
             case measure=>simp[intOf];omega
            | true =>
             go_wp2_with fail;refine(q2.out _ (a5.out.gr A.out.g)).mono ?_;rintro e d9⟨rfl,L⟩;have H:=qq (A.out.gr L);clear L A y1;have Y:=H.out.c6;have rf:=H.out.fz;have D:=qq (show RW w R N ⟨m,pa,qu,v,[],[],(decide (v=10))||(fs.take (k+1)).any aO⟩ (.slice (some ⟨b9,o9,none⟩) fs.length d) (.slice (some ⟨b9,o9,none⟩) fs.length d) fs (d9.setCell ⟨R,6,none⟩ (.bool a2))from by
              rw[E.out];simpa using H.out.put6 a2)
             clear H;go_wp2;go_roundw
             case rel=>exact⟨k+1,O,rfl,D.out⟩
             case measure=>simp[intOf];omega
          ·have d4:k=fs.length:=(by omega);subst d4;rw[List.take_length]at y;have d3:¬(fs.length:Int)<fs.length:=(by omega);clear I;obtain⟨cc,a8⟩:∃x,((decide (v=10))||fs.any aO)=x:=⟨_,rfl⟩;rw[a8]at y;have S:=qq (show headQ (l0 :: tl)=.good ⟨m,pa,qu,v,fs,[],cc⟩ n.toNat false from by rw[a9.out,←a8]);have b7:0≤n:=(by omega);have b0:=qq y;have r:=h'.out.gr y.g;have r0:=y.c0;have r1:=y.c1;have r2:=y.c2;have r3:=y.c3;have r4:=y.c4;have r5:=y.c5;have Y:=y.c6;have c3:=r.c3;have c4:=r.c4;have c5:=r.c5;have c6:=r.c6;have c7:=r.c7;have c8:=r.c8;have c9:=r.c9;have c10:=r.c10;have c11:=r.c11;have g0:=r.fz;clear a8 y r;have a3:=qq (ReadsPost.good h'.out b0.out b7 S.out);go_wp2;go_ret;exact a3.out
       ·have i9:(0:Int)<nt:=(by omega);have e8:0<nt:=(by omega);by_cases b6:v=10
        ·subst b6;have C:=qq (ReadsPost.bad (h'.out) j.out.g 400 400 rfl (by rw[hq.out];simp[P,e8]));clear j;go_wp2;go_ret;exact C.out
        ·have j8:(v==10)=false:=qk.2 b6;by_cases h4:nl=0
         ·subst h4;by_cases h3:nt=1
          ·subst h3;go_wp2_with fail;refine(qa.out _ (a5.out.gr j.out.g)).mono ?_;rintro e w9⟨rfl,L⟩;have F:=qq (j.out.gr L);clear L j;cases al with
           | false =>
            have C:=qq (ReadsPost.bad (h'.out) F.out.g 400 400 rfl (by rw[hq.out];simp[a4]));clear F;go_wp2;go_ret;exact C.out
           | true =>
            by_cases a0:4096<n
            ·have C:=qq (ReadsPost.bad (h'.out) F.out.g 413 413 rfl (by rw[hq.out];simp[a4,P,b6,a0]));clear F;go_wp2;go_ret;exact C.out
            ·have J:headQ (l0 :: tl)=.good ⟨m,pa,qu,v,fs,[],(v:Int)==10||fs.any aO⟩ n.toNat true:=(by rw[hq.out];simp[a4,P,b6,a0]);have a9:=qq (show headQ (l0 :: tl)=.good ⟨m,pa,qu,v,fs,[],false||fs.any aO⟩ n.toNat true from by rw[J];first | rfl | simp[b6]);clear J hq;have r3:=F.out.c3;have r4:=F.out.c4;have Y:=F.out.c6;have rf:=F.out.fz;go_upto_region 17 with(fail);have Z:=qq (show RW w R N ⟨m,pa,qu,v,[],[],false⟩ (.slice pv fs.length d) (.slice pv fs.length d) fs ((w9.setCell ⟨R,4,none⟩ (.slice pv fs.length d)).setCell ⟨R,6,none⟩ (.bool false))from(F.out.put4).put6 _);generalize ((w9.setCell ⟨R,4,none⟩ (.slice pv fs.length d)).setCell ⟨R,6,none⟩ (.bool false))=w17 at Z ⊢;clear r3 r4 Y rf F qa f8 a4 b6;go_wp2;go_loopw [107] (λi W=>∃k:Nat,k≤fs.length∧i=.int .i64 k∧RW w R N ⟨m,pa,qu,v,[],[],false||(fs.take k).any aO⟩ (.slice pv fs.length d) (.slice pv fs.length d) fs W) (λi _=>fs.length - (intOf i).toNat)
             case atStart=>exact⟨0,qx _,rfl,by simpa using Z.out⟩
             case round =>
              obtain⟨k,hk,rfl,y⟩:=hrel;have I:=qq y;by_cases O:k<fs.length
              ·obtain⟨b9,o9,rfl,h1,h2⟩:=y.fld k O;have b5:=e3.out _ (List.getElem_mem O);have b4:=qq (λx (hx:fs[k]=x)=>kL (c0:=false) O hx);obtain⟨⟨U,X⟩,hx⟩:∃x,fs[k]=x:=⟨_,rfl⟩;rw[hx]at h1 h2 b5;have E:=qq (b4.out _ hx);obtain⟨ck,b3⟩:∃x,(false||(fs.take k).any aO)=x:=⟨_,rfl⟩;rw[b3]at I E;obtain⟨a1,a6⟩:∃x,an U jh=x:=⟨_,rfl⟩;obtain⟨a2,a7⟩:∃x,kC X fZ=x:=⟨_,rfl⟩;dsimp only at h1 h2 b5 E;have q1:=qq (λW M=>ik U jh a1 a6 W M (by omega) (by decide));have q2:=qq (λW M=>qB X fZ a2 a7 W M (by omega) (by decide));rw[a6,a7]at E;have d3:(k:Int)<fs.length:=(by omega);clear y b4 hx b3 a6 a7;go_upto_region 20 with(fail);have y0:(wr.alloc (.cells #[.string ⟨U.toArray⟩,.string ⟨X.toArray⟩] 80)).cell? ⟨wr.heap.size,0,none⟩=some (.string ⟨U.toArray⟩):=aa wr [.string ⟨U.toArray⟩,.string ⟨X.toArray⟩] _ 0 _ rfl;have y1:(wr.alloc (.cells #[.string ⟨U.toArray⟩,.string ⟨X.toArray⟩] 80)).cell? ⟨wr.heap.size,1,none⟩=some (.string ⟨X.toArray⟩):=aa wr [.string ⟨U.toArray⟩,.string ⟨X.toArray⟩] _ 1 _ rfl;have z:=qq (I.out.gr (Gr.alloc wr (.cells #[.string ⟨U.toArray⟩,.string ⟨X.toArray⟩] 80)));generalize wr.alloc (.cells #[.string ⟨U.toArray⟩,.string ⟨X.toArray⟩] 80)=w18 at y0 y1 z ⊢;clear I h1 h2;cases ck with
               | true =>
                have Y:=z.out.c6;have rf:=z.out.fz;have D:=qq (show RW w R N ⟨m,pa,qu,v,[],[],false||(fs.take (k+1)).any aO⟩ (.slice (some ⟨b9,o9,none⟩) fs.length d) (.slice (some ⟨b9,o9,none⟩) fs.length d) fs (w18.setCell ⟨R,6,none⟩ (.bool true))from by
                 rw[E.out];simpa using z.out.put6 true)
                clear z;go_wp2;go_roundw
                case rel=>exact⟨k+1,O,rfl,D.out⟩
                case measure=>simp[intOf];omega
               | false =>
                have Y:=z.out.c6;go_wp2_with fail;refine(q1.out _ (a5.out.gr z.out.g)).mono ?_;rintro e d8⟨rfl,L⟩;have A:=qq (z.out.gr L);replace y1:=L.cell y1;clear L z y0 Y;cases a1 with
                | false =>
                 have Y:=A.out.c6;have rf:=A.out.fz;have D:=qq (show RW w R N ⟨m,pa,qu,v,[],[],false||(fs.take (k+1)).any aO⟩ (.slice (some ⟨b9,o9,none⟩) fs.length d) (.slice (some ⟨b9,o9,none⟩) fs.length d) fs (d8.setCell ⟨R,6,none⟩ (.bool false))from by
                  rw[E.out];simpa using A.out.put6 false)
                 clear A;go_wp2;go_roundw
                 case rel=>exact⟨k+1,O,rfl,D.out⟩
                 case measure=>simp[intOf];omega
                | true =>
                 go_wp2_with fail;refine(q2.out _ (a5.out.gr A.out.g)).mono ?_;rintro e d9⟨rfl,L⟩;have H:=qq (A.out.gr L);clear L A y1;have Y:=H.out.c6;have rf:=H.out.fz;have D:=qq (show RW w R N ⟨m,pa,qu,v,[],[],false||(fs.take (k+1)).any aO⟩ (.slice (some ⟨b9,o9,none⟩) fs.length d) (.slice (some ⟨b9,o9,none⟩) fs.length d) fs (d9.setCell ⟨R,6,none⟩ (.bool a2))from by
                  rw[E.out];simpa using H.out.put6 a2)
                 clear H;go_wp2;go_roundw
                 case rel=>exact⟨k+1,O,rfl,D.out⟩
                 case measure=>simp[intOf];omega
              ·have d4:k=fs.length:=(by omega);subst d4;rw[List.take_length]at y;have d3:¬(fs.length:Int)<fs.length:=(by omega);clear I;obtain⟨cc,a8⟩:∃x,(false||fs.any aO)=x:=⟨_,rfl⟩;rw[a8]at y;have S:=qq (show headQ (l0 :: tl)=.good ⟨m,pa,qu,v,fs,[],cc⟩ n.toNat true from by rw[a9.out,←a8]);have b7:0≤n:=(by omega);have b0:=qq y;have r:=h'.out.gr y.g;have r0:=y.c0;have r1:=y.c1;have r2:=y.c2;have r3:=y.c3;have r4:=y.c4;have r5:=y.c5;have Y:=y.c6;have c3:=r.c3;have c4:=r.c4;have c5:=r.c5;have c6:=r.c6;have c7:=r.c7;have c8:=r.c8;have c9:=r.c9;have c10:=r.c10;have c11:=r.c11;have g0:=r.fz;clear a8 y r;go_wp2_with fail;refine(xD _).mono ?_;rintro e w3⟨rfl,d7,d2⟩;have b2:=(mC h'.out b0.out b7).gr d2;have j4:=b2.c11;have dz:=b2.fz;clear b2;have a3:=qq (λb L hr=>ReadsPost.chunk (b:=b) (w3:=w3) h'.out b0.out b7 S.out L hr d2);clear d2;generalize f3:((((((((wr.setCell ⟨B,3,none⟩ (.string ⟨m.toArray⟩)).setCell ⟨B,4,none⟩ (.string ⟨pa.toArray⟩)).setCell ⟨B,5,none⟩ (.string ⟨qu.toArray⟩)).setCell ⟨B,6,none⟩ (.int .i64 v)).setCell ⟨B,7,none⟩ (.slice pv fs.length d)).setCell ⟨B,8,none⟩ (.string ⟨#[]⟩)).setCell ⟨B,9,none⟩ (.bool cc)).setCell ⟨B,10,none⟩ (.int .i64 n)).heap.size=bk at d7 ⊢;have d1:=qq (a3.out bk f3 d7);clear f3 d7 a3;go_wp2;go_ret;exact d1.out
          ·have f7:(1:Int)<nt:=(by omega);have d6:1<nt:=(by omega);have C:=qq (ReadsPost.bad (h'.out) j.out.g 400 400 rfl (by rw[hq.out];simp[a4,P,d6,f5]));clear j;go_wp2;go_ret;exact C.out
         ·have f7:(0:Int)<nl:=(by omega);have d6:0<nl:=(by omega);have C:=qq (ReadsPost.bad (h'.out) j.out.g 400 400 rfl (by rw[hq.out];simp[a4,P,d6,e8]));clear j;go_wp2;go_ret;exact C.out
