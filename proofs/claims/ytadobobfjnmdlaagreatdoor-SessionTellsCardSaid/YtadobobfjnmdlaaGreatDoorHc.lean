/-
  The walk over hand.Check.
-/
import Derived.Test.YtadobobfjnmdlaaGreatDoorBb
import Derived.Test.YtadobobfjnmdlaaGreatDoorP54
set_option linter.unnecessarySimpa false
set_option linter.unusedVariables false
set_option linter.unusedSimpArgs false
set_option maxHeartbeats 16000000
set_option maxRecDepth 100000
open Go.Proofs.Tryz
namespace Go.Proofs.YtadobobfjnmdlaaGreatDoor
open Go.RowKit
attribute [local go_sem] Oper.semAt_some
theorem yx {s:List UInt8}{x:Option (List UInt8)}(h:uk s=x)(hs:s.length≤1000000)(w:World):Calls prog 139 #[.string ⟨s.toArray⟩] w λe w'=>e=.returned (dcV x)∧Gr w w':=h▸ue s hs w
def ckV (x:List UInt8×Nat):Value:=.tuple #[.string ⟨x.1.toArray⟩,.int .i64 x.2]
theorem yy (r:Rq)(t:Value)(w:World)(M:G w)(hf:FieldsAt w t r.fs)(hs:oS r.fs) :
  Calls prog 112 #[r.V t] w λe w'=>e=.returned (ckV (aK r))∧Gr w w':=by
 obtain⟨R,hR⟩:∃R,aK r=R:=⟨_,rfl⟩;rw[hR];obtain⟨⟨hv,h1⟩,D⟩:∃x,jZ r.fs Bf=x:=⟨_,rfl⟩;obtain⟨⟨U,k1⟩,A⟩:∃x,jZ r.fs rH=x:=⟨_,rfl⟩;obtain⟨⟨vv,v1⟩,E⟩:∃x,jZ r.fs qm=x:=⟨_,rfl⟩;obtain⟨d,hd⟩:∃d,uk U=d:=⟨_,rfl⟩;have S:U.length≤800000:=by have:=(mD hs rH).1;have e:(jZ r.fs rH).1=(bl r.fs rH).1:=rfl;rw[A]at e;dsimp only at e;rw[e];exact this
 have f:=qq (show R=if (r.m != Bg||(r.v != 11||(!h1||(!k1||!v1)))) then([],400)
   else if (!eX r.fs hQ kWs||!eX r.fs ig Dz) then([],400)
   else match d with
    | none=>([],400)
    | some t=>if t.length≠16 then([],400) else if vv≠k13 then([],426) else(fN U,101) by
  rw[←hR];unfold aK;rw[D,A,E];dsimp only;rw[hd];rfl)
 have o1:=qq (λW (n:Gr w W)=>qe t r.fs Bf W (M.gr n) (hf.gr n) hs (by decide));have o2:=qq (λW (n:Gr w W)=>qe t r.fs rH W (M.gr n) (hf.gr n) hs (by decide));have o3:=qq (λW (n:Gr w W)=>qe t r.fs qm W (M.gr n) (hf.gr n) hs (by decide));rw[D]at o1;rw[A]at o2;rw[E]at o3;have od:=qq (λW=>yx hd (by omega) W);have a1:=qq (λW (n:Gr w W)=>rB t r.fs hQ kWs W (M.gr n) (hf.gr n) hs (by decide) (by decide));have a2:=qq (λW (n:Gr w W)=>rB t r.fs ig Dz W (M.gr n) (hf.gr n) hs (by decide) (by decide));have oa:=qq (λW=>wO U S W);obtain⟨y1,I⟩:∃y,eX r.fs hQ kWs=y:=⟨_,rfl⟩;obtain⟨y2,J⟩:∃y,eX r.fs ig Dz=y:=⟨_,rfl⟩;rw[I]at a1;rw[J]at a2;rw[I,J]at f;obtain⟨p,cap,ht,_⟩:=hf;subst ht;clear hR D A E hd M hs I J S;unfold Rq.V;obtain⟨m,pp,q,u,fs,bd,Y⟩:=r;dsimp only at f o1 o2 o3 a1 a2 ⊢;go_enter func112,ntmps112;go_wp2_with fail;have g0:=qq (Gr.alloc w (.cells #[.string ⟨m.toArray⟩,.string ⟨pp.toArray⟩,.string ⟨q.toArray⟩,.int .i64 u,.slice p fs.length cap,.string ⟨bd.toArray⟩,.bool Y] 78));have B:(w.alloc (.cells #[.string ⟨m.toArray⟩,.string ⟨pp.toArray⟩,.string ⟨q.toArray⟩,.int .i64 u,.slice p fs.length cap,.string ⟨bd.toArray⟩,.bool Y] 78)).cell? ⟨w.heap.size,0,none⟩=some (.string ⟨m.toArray⟩):=by simp[go_sem]
 have C:(w.alloc (.cells #[.string ⟨m.toArray⟩,.string ⟨pp.toArray⟩,.string ⟨q.toArray⟩,.int .i64 u,.slice p fs.length cap,.string ⟨bd.toArray⟩,.bool Y] 78)).cell? ⟨w.heap.size,3,none⟩=some (.int .i64 u):=by simp[go_sem]
 have j:(w.alloc (.cells #[.string ⟨m.toArray⟩,.string ⟨pp.toArray⟩,.string ⟨q.toArray⟩,.int .i64 u,.slice p fs.length cap,.string ⟨bd.toArray⟩,.bool Y] 78)).cell? ⟨w.heap.size,4,none⟩=some (.slice p fs.length cap):=by simp[go_sem]
 refine(o1.out _ g0.out).mono ?_;rintro e w1⟨rfl,a⟩;have g1:=qq (g0.out.trans a);replace B:=a.cell B;replace C:=a.cell C;replace j:=a.cell j;clear a;go_wp2_with fail;refine(o2.out _ g1.out).mono ?_;rintro e w2⟨rfl,a⟩;have g2:=qq (g1.out.trans a);replace B:=a.cell B;replace C:=a.cell C;replace j:=a.cell j;clear a;go_wp2_with fail;refine(o3.out _ g2.out).mono ?_;rintro e w3⟨rfl,a⟩;have g3:=qq (g2.out.trans a);replace B:=a.cell B;replace C:=a.cell C;replace j:=a.cell j;clear a;go_wp2_with fail;refine(od.out _).mono ?_;rintro e w4⟨rfl,a⟩;have k:=qq (g3.out.trans a);replace B:=a.cell B;replace C:=a.cell C;replace j:=a.cell j;clear a;obtain⟨L,Z,P,N⟩:∃(L:List UInt8) (Z:Bool),dcV d=.tuple #[.string ⟨L.toArray⟩,.bool Z]∧((Z=false∧d=none)∨(Z=true∧d=some L)):=by
  cases d with
  | none=>exact⟨[],false,rfl,.inl ⟨rfl,rfl⟩⟩
  | some x=>exact⟨x,true,rfl,.inr ⟨rfl,rfl⟩⟩
 rw[P];have O:=qq N;clear P N;cases h:(m != Bg)
 ·have e1:(m==[71,69,84])=true:=by have:=h;simpa[Bg]using this
  cases i:(u != 11)
  ·cases h1 with
   | false =>
    have c:=qq (show R=([],400) by rw[f.out];simp[h,i]);go_wp2;go_ret2;exact⟨by rw[c.out];rfl,k.out⟩
   | true =>
    cases k1 with
    | false =>
     have c:=qq (show R=([],400) by rw[f.out];simp[h,i]);go_wp2;go_ret2;exact⟨by rw[c.out];rfl,k.out⟩
    | true =>
     cases v1 with
     | false =>
      have c:=qq (show R=([],400) by rw[f.out];simp[h,i]);go_wp2;go_ret2;exact⟨by rw[c.out];rfl,k.out⟩
     | true =>
      cases y1 with
      | false =>
       have c:=qq (show R=([],400) by rw[f.out];simp[h,i]);go_wp2_with fail;refine(a1.out _ k.out).mono ?_;rintro e X⟨rfl,a⟩;have l:=qq (k.out.trans a);replace j:=a.cell j;clear a;go_wp2;go_ret2;exact⟨by rw[c.out];rfl,l.out⟩
      | true =>
       cases y2 with
       | false =>
        have c:=qq (show R=([],400) by rw[f.out];simp[h,i]);go_wp2_with fail;refine(a1.out _ k.out).mono ?_;rintro e X⟨rfl,a⟩;have l:=qq (k.out.trans a);replace j:=a.cell j;clear a;go_wp2_with fail;refine(a2.out _ l.out).mono ?_;rintro e w6⟨rfl,a⟩;have z:=qq (l.out.trans a);clear a;go_wp2;go_ret2;exact⟨by rw[c.out];rfl,z.out⟩
       | true =>
        rcases O.out with⟨rfl,rfl⟩ | ⟨rfl,rfl⟩
        ·have c:=qq (show R=([],400) by rw[f.out];simp[h,i]);go_wp2_with fail;refine(a1.out _ k.out).mono ?_;rintro e X⟨rfl,a⟩;have l:=qq (k.out.trans a);replace j:=a.cell j;clear a;go_wp2_with fail;refine(a2.out _ l.out).mono ?_;rintro e w6⟨rfl,a⟩;have z:=qq (l.out.trans a);clear a;go_wp2;go_ret2;exact⟨by rw[c.out];rfl,z.out⟩
        ·by_cases hl:L.length=16
         ·have a0:((L.length:Int) != 16)=false:=(by rw[bne_eq_false_iff_eq];omega);cases o:(vv != k13)
          ·have e3:(vv==[49,51])=true:=(by have:=o;simpa[k13]using this);have c:=qq (show R=(fN U,101) by rw[f.out];have:=o;simp at this;simp[h,i,hl,this]);clear hl o;go_wp2_with fail;refine(a1.out _ k.out).mono ?_;rintro e X⟨rfl,a⟩;have l:=qq (k.out.trans a);replace j:=a.cell j;clear a;go_wp2_with fail;refine(a2.out _ l.out).mono ?_;rintro e w6⟨rfl,a⟩;have z:=qq (l.out.trans a);clear a;go_wp2_with fail;refine(oa.out _).mono ?_;rintro e w7⟨rfl,a⟩;have g7:=qq (z.out.trans a);clear a;go_wp2;go_ret2;exact⟨by rw[c.out];rfl,g7.out⟩
          ·have e3:(vv==[49,51])=false:=(by have:=o;simpa[k13]using this);have c:=qq (show R=([],426) by rw[f.out];have:=o;simp at this;simp[h,i,hl,this]);clear hl o;go_wp2_with fail;refine(a1.out _ k.out).mono ?_;rintro e X⟨rfl,a⟩;have l:=qq (k.out.trans a);replace j:=a.cell j;clear a;go_wp2_with fail;refine(a2.out _ l.out).mono ?_;rintro e w6⟨rfl,a⟩;have z:=qq (l.out.trans a);clear a;go_wp2;go_ret2;exact⟨by rw[c.out];rfl,z.out⟩
         ·have a0:((L.length:Int) != 16)=true:=(by rw[bne_iff_ne];omega);have c:=qq (show R=([],400) by rw[f.out];simp[h,i,hl]);clear hl;go_wp2_with fail;refine(a1.out _ k.out).mono ?_;rintro e X⟨rfl,a⟩;have l:=qq (k.out.trans a);replace j:=a.cell j;clear a;go_wp2_with fail;refine(a2.out _ l.out).mono ?_;rintro e w6⟨rfl,a⟩;have z:=qq (l.out.trans a);clear a;go_wp2;go_ret2;exact⟨by rw[c.out];rfl,z.out⟩
  ·have c:=qq (show R=([],400) by rw[f.out];simp[h,i]);go_wp2;go_ret2;exact⟨by rw[c.out];rfl,k.out⟩
 ·have e1:(m==[71,69,84])=false:=by have:=h;simpa[Bg]using this
  have c:=qq (show R=([],400) by rw[f.out];simp[h]);go_wp2;go_ret2;exact⟨by rw[c.out];rfl,k.out⟩
def xt (w:World)(x:Rp×Bool)(e:Ending)(w':World):Prop:=∃t,e=.returned (.tuple #[x.1.V t,.bool x.2])∧FieldsAt w' t x.1.fs∧Gr w w'
theorem FM {W:World}{b:Nat}{i j k:Value}(e:W.cell? ⟨b,0,none⟩=some i)(f:W.cell? ⟨b,1,none⟩=some j)(h:W.cell? ⟨b,2,none⟩=some k)(a c d:Value)(o:Obj) :
  ((((W.setCell ⟨b,0,none⟩ a).setCell ⟨b,1,none⟩ c).setCell ⟨b,2,none⟩ d).alloc o).cell? ⟨b,0,none⟩=some a∧((((W.setCell ⟨b,0,none⟩ a).setCell ⟨b,1,none⟩ c).setCell ⟨b,2,none⟩ d).alloc o).cell? ⟨b,1,none⟩=some c∧((((W.setCell ⟨b,0,none⟩ a).setCell ⟨b,1,none⟩ c).setCell ⟨b,2,none⟩ d).alloc o).cell? ⟨b,2,none⟩=some d :=
 ⟨(Gr.alloc _ _).cell (ac (ac (af e) (by decide)) (by decide)),(Gr.alloc _ _).cell (ac (af (ac f (by decide))) (by decide)),(Gr.alloc _ _).cell (af (ac (ac h (by decide)) (by decide)))⟩
theorem pj (W:World)(a b c:Addr)(u v x:Value):(((W.setCell a u).setCell b v).setCell c x).heap.size=W.heap.size:=by simp
theorem uC (r:Rq)(t:Value)(w:World)(D:G w)(hf:FieldsAt w t r.fs)(hs:oS r.fs) :
  Calls prog 92 #[r.V t] w (xt w (aH (aK r))):=by
 have j:=qq (λW (I:Gr w W)=>yy r t W (D.gr I) (hf.gr I) hs);have f:=jt r;obtain⟨⟨a,c⟩,E⟩:∃R,aK r=R:=⟨_,rfl⟩;rw[E]at j f ⊢;dsimp only at f;obtain⟨p,cap,L,_⟩:=hf;subst L;clear E D hs;unfold Rq.V at j ⊢;obtain⟨m,y,q,h,fs,bd,n⟩:=r;dsimp only at j ⊢;go_enter func92,ntmps92;go_wp2_with fail;have C:=qq (((Gr.alloc w (.cells #[.string ⟨m.toArray⟩,.string ⟨y.toArray⟩,.string ⟨q.toArray⟩,.int .i64 h,.slice p fs.length cap,.string ⟨bd.toArray⟩,.bool n] 78)).alloc1 (.cells #[.int .i64 0,.slice none 0 0,.string ⟨#[]⟩] 51)));have l:((w.alloc (.cells #[.string ⟨m.toArray⟩,.string ⟨y.toArray⟩,.string ⟨q.toArray⟩,.int .i64 h,.slice p fs.length cap,.string ⟨bd.toArray⟩,.bool n] 78)).alloc (.cells #[.int .i64 0,.slice none 0 0,.string ⟨#[]⟩] 51)).cell? ⟨w.heap.size+1,0,none⟩=some (.int .i64 0):=by simp[go_sem]
 have u:((w.alloc (.cells #[.string ⟨m.toArray⟩,.string ⟨y.toArray⟩,.string ⟨q.toArray⟩,.int .i64 h,.slice p fs.length cap,.string ⟨bd.toArray⟩,.bool n] 78)).alloc (.cells #[.int .i64 0,.slice none 0 0,.string ⟨#[]⟩] 51)).cell? ⟨w.heap.size+1,1,none⟩=some (.slice none 0 0):=by simp[go_sem]
 have x:((w.alloc (.cells #[.string ⟨m.toArray⟩,.string ⟨y.toArray⟩,.string ⟨q.toArray⟩,.int .i64 h,.slice p fs.length cap,.string ⟨bd.toArray⟩,.bool n] 78)).alloc (.cells #[.int .i64 0,.slice none 0 0,.string ⟨#[]⟩] 51)).cell? ⟨w.heap.size+1,2,none⟩=some (.string ⟨#[]⟩):=by simp[go_sem]
 have z:∀o,((w.alloc (.cells #[.string ⟨m.toArray⟩,.string ⟨y.toArray⟩,.string ⟨q.toArray⟩,.int .i64 h,.slice p fs.length cap,.string ⟨bd.toArray⟩,.bool n] 78)).alloc (.cells #[.int .i64 0,.slice none 0 0,.string ⟨#[]⟩] 51)).frozen? ⟨w.heap.size+1,o,none⟩=false:=λo=>World.frozen?_alloc_at _ _ _ _ (by simp);refine(j.out _ C.out).mono ?_;rintro e i⟨rfl,k⟩;have A:=qq (C.out.trans k);replace l:=k.cell l;replace u:=k.cell u;replace x:=k.cell x;have M:i.frozen? ⟨w.heap.size+1,0,none⟩=false:=(Below.frozen k (p:=⟨w.heap.size+1,0,none⟩) (by simp)).trans (z 0);have N:i.frozen? ⟨w.heap.size+1,1,none⟩=false:=(Below.frozen k (p:=⟨w.heap.size+1,1,none⟩) (by simp)).trans (z 1);have O:i.frozen? ⟨w.heap.size+1,2,none⟩=false:=(Below.frozen k (p:=⟨w.heap.size+1,2,none⟩) (by simp)).trans (z 2);have J:w.heap.size+1<i.heap.size:=ae l;clear k z;unfold ckV;have d:=qq (show w.heap.size≤w.heap.size+1 by omega);rcases f with rfl | rfl | rfl
 ·go_wp2;refine bodyPost_ret (v:=.tuple #[(aH (a,400)).1.V (.slice none 0 0),.bool (aH (a,400)).2]) (by simp[results,results92,go_sem,l,u,x,Rp.V,aH,Bh,j0]) rfl ⟨_,rfl,bN _ _,((A.out.setCell d.out _).setCell d.out _).setCell d.out _⟩
 ·go_wp2;rw[show aH (a,426)=(⟨426,[(qm,k13)],j0⟩,false)from rfl];have B:=FM l u x;refine bodyPost_ret (v:=.tuple #[((⟨426,[(qm,k13)],j0⟩,false):Rp×Bool).1.V (.slice (some ⟨i.heap.size,0,none⟩) 1 1),.bool ((⟨426,[(qm,k13)],j0⟩,false):Rp×Bool).2]) ?_ rfl ⟨_,rfl,?_,(((A.out.setCell d.out _).setCell d.out _).setCell d.out _).alloc1 _⟩
  ·simp[results,results92,go_sem,B,Rp.V,j0]
  ·have:=kq (((i.setCell ⟨w.heap.size+1,0,none⟩ (.int .i64 426)).setCell ⟨w.heap.size+1,1,none⟩ (.slice (some ⟨i.heap.size,0,none⟩) 1 1)).setCell ⟨w.heap.size+1,2,none⟩ (.string ⟨j0.toArray⟩)) [(qm,k13)] 80 1;rw[pj]at this;exact this
 ·go_wp2;rw[show aH (a,101)=(⟨101,[(hQ,kWs),(ig,hQ),(oA,a)],[]⟩,true)from rfl];have B:=FM l u x;refine bodyPost_ret (v:=.tuple #[((⟨101,[(hQ,kWs),(ig,hQ),(oA,a)],[]⟩,true):Rp×Bool).1.V (.slice (some ⟨i.heap.size,0,none⟩) 3 3),.bool ((⟨101,[(hQ,kWs),(ig,hQ),(oA,a)],[]⟩,true):Rp×Bool).2]) ?_ rfl ⟨_,rfl,?_,(((A.out.setCell d.out _).setCell d.out _).setCell d.out _).alloc1 _⟩
  ·simp[results,results92,go_sem,B,Rp.V,j0]
  ·have:=kq (((i.setCell ⟨w.heap.size+1,0,none⟩ (.int .i64 101)).setCell ⟨w.heap.size+1,1,none⟩ (.slice (some ⟨i.heap.size,0,none⟩) 3 3)).setCell ⟨w.heap.size+1,2,none⟩ (.string ⟨#[]⟩)) [(hQ,kWs),(ig,hQ),(oA,a)] 80 3;rw[pj]at this;exact this
open Go.Shelf
def er:Sev→Value
 | .upgraded=>.agg #[.int .i64 1,.int .i64 0,.string ⟨#[]⟩]
 | .said op t=>.agg #[.int .i64 2,.int .i64 op,.string ⟨t.toArray⟩]
 | .done=>.agg #[.int .i64 3,.int .i64 0,.string ⟨#[]⟩]
def fT:Option Sev→Value
 | some e=>er e
 | none=>.agg #[.int .i64 0,.int .i64 0,.string ⟨#[]⟩]
theorem DL {T:Nat→Prop}{W a:World}(hs:W.heap.size≤a.heap.size)(hl:∀k,T k→k<W.heap.size):∀k,Add T W a k→k<a.heap.size:=mn hs hl
theorem RqSm.short {r:Rq}(h:RqSm r):oS r.fs:=⟨qy h.1 (by decide),λf hf=>⟨qy (h.2.1 f hf).1 (by decide),qy (h.2.1 f hf).2 (by decide)⟩⟩
structure RpC (X:Nat)(W:World)(a:Int)(q:Option Addr)(n cap:Nat)(s:ByteArray):Prop where
 c0:W.cell? ⟨X,0,none⟩=some (.int .i64 a)
 c1:W.cell? ⟨X,1,none⟩=some (.slice q n cap)
 c2:W.cell? ⟨X,2,none⟩=some (.string s)
 c3:∀o,3≤o→W.cell? ⟨X,o,none⟩=none
 fz:∀o,W.frozen? ⟨X,o,none⟩=false
theorem RpC.ch {X:Nat}{S:Nat→Prop}{W d:World}{a:Int}{q:Option Addr}{n cap:Nat}{s:ByteArray}(h:RpC X W a q n cap s)(f:Ch S W d)(e:¬S X):RpC X d a q n cap s :=
 have hl:X<W.heap.size:=ae h.c0;have c:∀o,d.cell? ⟨X,o,none⟩=W.cell? ⟨X,o,none⟩:=λo=>f.cell (p:=⟨X,o,none⟩) hl e
 ⟨(c 0).trans h.c0,(c 1).trans h.c1,(c 2).trans h.c2,λo i=>(c o).trans (h.c3 o i),λo=>(f.frozen (p:=⟨X,o,none⟩) hl e).trans (h.fz o)⟩
theorem qA (W:World)(a:Int)(q:Option Addr)(n cap:Nat)(s:ByteArray)(t:TypeId):RpC W.heap.size (W.alloc (.cells #[.int .i64 a,.slice q n cap,.string s] t)) a q n cap s :=
 ⟨aa _ _ _ 0 _ rfl,aa _ _ _ 1 _ rfl,aa _ _ _ 2 _ rfl,λo c=>by
  rw[World.cell?_alloc_new]
  match o,c with
  | o+3,_=>rfl,λ_=>World.frozen?_alloc_at _ _ _ _ rfl⟩
theorem RpC.set {X:Nat}{W:World}{a:Int}{q:Option Addr}{n cap:Nat}{s:ByteArray}(h:RpC X W a q n cap s)(d:Int)(f:Option Addr)(e c:Nat)(i:ByteArray) :
  RpC X (((W.setCell ⟨X,0,none⟩ (.int .i64 d)).setCell ⟨X,1,none⟩ (.slice f e c)).setCell ⟨X,2,none⟩ (.string i)) d f e c i :=
 ⟨by simp[go_sem,h.c0],by simp[go_sem,h.c1],by simp[go_sem,h.c2],λo l=>by
  have h0:o≠0:=by omega
  have j:o≠1:=by omega
  have k:o≠2:=by omega
  simp[go_sem,h.c3 o l,h0,j,k],λo=>by rw[ag,ag,ag];exact h.fz o⟩
theorem ch3 (w:World)(X:Nat)(c d e:Value):Ch (λi=>i=X) w (((w.setCell ⟨X,0,none⟩ c).setCell ⟨X,1,none⟩ d).setCell ⟨X,2,none⟩ e) :=
 ((Ch.setCell (T:=λi=>i=X) w (a:=⟨X,0,none⟩) rfl _).trans (Ch.setCell (T:=λi=>i=X) _ (a:=⟨X,1,none⟩) rfl _)).trans (Ch.setCell (T:=λi=>i=X) _ (a:=⟨X,2,none⟩) rfl _)
theorem RpC.apart {X:Nat}{W l:World}{a:Int}{q:Option Addr}{n cap:Nat}{s:ByteArray}(h:RpC X W a q n cap s){t:Value}{fs:List Fl}(hf:FieldsAt W t fs)(o:Ch (λi=>i=X) W l):FieldsAt l t fs:=by
 obtain⟨p,c,e,j⟩:=hf;refine⟨p,c,e,λi hi=>?_⟩;obtain⟨b,off,u,d,f⟩:=j i hi;have m:¬b=X:=by
  intro e;subst e;rcases Nat.lt_or_ge (off+i*2) 3 with r | k
  ·have:off+i*2=0∨off+i*2=1∨off+i*2=2:=(by omega);rcases this with e | e | e
   ·rw[e,h.c0]at d;cases d
   ·rw[e,h.c1]at d;cases d
   ·rw[e,h.c3 _ (qv _)]at f;cases f
  ·rw[h.c3 _ k]at d;cases d
 exact⟨b,off,u,(o.cell (p:=⟨b,off+i*2,none⟩) (ae d) m).trans d,(o.cell (p:=⟨b,off+i*2+1,none⟩) (ae f) m).trans f⟩
theorem cj {α:Type}{a:(Nat→Prop)→World→α→Prop}(K:Kin a){T S:Nat→Prop}{W c h i:World}{x:α}(hl:∀k,T k→k<W.heap.size)(g:Gr W c)(p:Pst a T c x h)(d:Ch S h i)(f:∀k,S k→W.heap.size≤k∧k<c.heap.size):Pst a T W x i:=by
 have l:=Below.size g;have m:=p.2.size;have n:=d.size;refine⟨K.mono (K.frame p.1 d (λk e e2=>?_)) (λk e=>e.imp_right λe=>⟨by have:=e.1;omega,by have:=e.2;omega⟩) (DL (by omega) hl),((g.to_ch _).trans p.2).drop_new d (λj e=>.inr (f j e).1)⟩;have:=f k e2;rcases e with e | e
 ·have:=hl k e;omega
 ·have:=e.1;omega
theorem BA {a d:World}(i:Gr (a.alloc (.cells #[.int .i64 0,.slice none 0 0,.string ⟨#[]⟩] 51)).drew d) :
  RpC a.heap.size d 0 none 0 0 ⟨#[]⟩ ∧
  (∀o:Obj,Gr a (d.alloc o))∧Gr a d∧∀e f h:Value,Gr a (((d.setCell ⟨a.heap.size,0,none⟩ e).setCell ⟨a.heap.size,1,none⟩ f).setCell ⟨a.heap.size,2,none⟩ h):=by
 have j:Gr a (a.alloc (.cells #[.int .i64 0,.slice none 0 0,.string ⟨#[]⟩] 51)).drew:=Gr.drew (Gr.alloc a _);have c:=j.trans i;refine⟨(qA a 0 none 0 0 ⟨#[]⟩ _).ch (((Gr.drew' _).trans i).to_ch (λ_=>False)) id,λo=>Gr.alloc1 c o,c,λe f h=>?_⟩;exact Gr.setCell (Gr.setCell (Gr.setCell c (qv _) e) (qv _) f) (qv _) h
theorem yA (r:Rq):(aK r).1.length≤1000000:=by
 unfold aK
 repeat' split
 all_goals first | exact qx _ | (dsimp only;rw[mK];decide)
theorem pk (r:Rq):uf (aH (aK r)).1:=by
 have a:=yA r;have c:=jt r;unfold aH uf;split
 ·refine⟨by(show 3≤1000000;decide),λf hf=>?_,qx _,by(show -9223372036854775808≤(101:Int);decide),by(show(101:Int)≤9223372036854775807;decide)⟩;rcases List.mem_cons.1 hf with rfl | hf
  ·exact⟨by decide,by decide⟩
  ·rcases List.mem_cons.1 hf with rfl | hf
   ·exact⟨by decide,by decide⟩
   ·rcases List.mem_cons.1 hf with rfl | hf
    ·exact⟨by(show oA.length≤_;decide),a⟩
    ·cases hf
 ·split
  ·refine⟨by(show 1≤1000000;decide),λf hf=>?_,by(show j0.length≤_;decide),by(show -9223372036854775808≤(426:Int);decide),by(show(426:Int)≤9223372036854775807;decide)⟩;rcases List.mem_cons.1 hf with rfl | hf
   ·exact⟨by decide,by decide⟩
   ·cases hf
  ·refine⟨qx _,(λf hf=>by cases hf),by(show Bh.length≤_;decide),?_,?_⟩ <;> (dsimp only;omega)
theorem DM {d c:World}(a:Gr d c):(∀o:Obj,Gr d (c.alloc o))∧∀(o:Obj) (e f h:Value),Gr d ((((c.alloc o).setCell ⟨c.heap.size,0,none⟩ e).setCell ⟨c.heap.size,1,none⟩ f).setCell ⟨c.heap.size,2,none⟩ h) :=
 ⟨λo=>Gr.alloc1 a o,λo e f h=>Gr.setCell (Gr.setCell (Gr.setCell (Gr.alloc1 a o) (Below.size a) e) (Below.size a) f) (Below.size a) h⟩
section
variable {b:Nat} {g:Nat} {lb:Array Value} {F T:Nat→Prop} {H:Rq→Rp} {W:World} {s:Ss}
theorem uD (h:bT b (.func (.func g) #[] lb) T W s)(hG:G W)(hH:Hnd g lb F H W)(r:Rq)(rv:Value)(hf:FieldsAt W rv r.fs)(hr:RqSm r)(b6:s.limit≤1099511627776)(b5:s.p.inp.length+s.p.und.length≤90000):Calls prog 68 #[.pointer (some ⟨b,0,none⟩),r.V rv] W λe w'=>e=.returned (er (aZ H s r).2)∧Pst (bT b (.func (.func g) #[] lb)) T W (aZ H s r).1 w':=by
 have M:=qq (λf (g1:Gr W f)=>(hH.gr g1).does f r rv (Stays.refl _ _) (hG.gr g1) (hf.gr g1) hr);have eg:=hH.enters;have g0:=qq hf;obtain⟨p,cap,rfl,_⟩:=hf;have h0:=qq h;have c9:=qq b6;have c8:=qq b5;clear b6 b5;have N:=qq h.2;obtain⟨⟨c,pb,bb,cv,h,hT⟩,hl⟩:=h;have c0:=h.c0;unfold Rq.V at M ⊢;clear h hT hl;go_enter func68,ntmps68;go_upto_region 1 with(fail);obtain⟨f,j⟩:∃f,(W.alloc (.cells #[.string ⟨r.m.toArray⟩,.string ⟨r.p.toArray⟩,.string ⟨r.q.toArray⟩,.int .i64 r.v,.slice p r.fs.length cap,.string ⟨r.b.toArray⟩,.bool r.c] 78)).alloc (.cells #[.int .i64 0,.int .i64 0,.string ⟨#[]⟩] 28)=f:=⟨_,rfl⟩;rw[j];have g1:Gr W f:=by rw[←j];exact(Gr.alloc _ _).alloc1 _
 have q0:f.cell? ⟨W.heap.size,0,none⟩=some (.string ⟨r.m.toArray⟩):=by rw[←j];simp[go_sem]
 have q1:f.cell? ⟨W.heap.size,1,none⟩=some (.string ⟨r.p.toArray⟩):=by rw[←j];simp[go_sem]
 have q2:f.cell? ⟨W.heap.size,2,none⟩=some (.string ⟨r.q.toArray⟩):=by rw[←j];simp[go_sem]
 have q3:f.cell? ⟨W.heap.size,3,none⟩=some (.int .i64 r.v):=by rw[←j];simp[go_sem]
 have q4:f.cell? ⟨W.heap.size,4,none⟩=some (.slice p r.fs.length cap):=by rw[←j];simp[go_sem]
 have q5:f.cell? ⟨W.heap.size,5,none⟩=some (.string ⟨r.b.toArray⟩):=by rw[←j];simp[go_sem]
 have q6:f.cell? ⟨W.heap.size,6,none⟩=some (.bool r.c):=by rw[←j];simp[go_sem]
 have n0:f.cell? ⟨W.heap.size+1,0,none⟩=some (.int .i64 0):=by rw[←j];simp[go_sem]
 have n1:f.cell? ⟨W.heap.size+1,1,none⟩=some (.int .i64 0):=by rw[←j];simp[go_sem]
 have n2:f.cell? ⟨W.heap.size+1,2,none⟩=some (.string ⟨#[]⟩):=by rw[←j];simp[go_sem]
 have nz:∀o,f.frozen? ⟨W.heap.size+1,o,none⟩=false:=λo=>by rw[←j];simp[go_sem]
 have J:=qq (show f.heap.size=W.heap.size+2 by rw[←j];simp);have U:=qq g1;replace c0:=g1.cell c0;clear g1 j;have hS:=qq (λ(w':World) (gg:Gr f w')=>(show w'.cell? ⟨b,0,none⟩=some (.func (.func g) #[] lb)∧w'.cell? ⟨W.heap.size,0,none⟩=some (.string ⟨r.m.toArray⟩)∧w'.cell? ⟨W.heap.size,1,none⟩=some (.string ⟨r.p.toArray⟩)∧w'.cell? ⟨W.heap.size,2,none⟩=some (.string ⟨r.q.toArray⟩)∧w'.cell? ⟨W.heap.size,3,none⟩=some (.int .i64 r.v)∧w'.cell? ⟨W.heap.size,4,none⟩=some (.slice p r.fs.length cap)∧w'.cell? ⟨W.heap.size,5,none⟩=some (.string ⟨r.b.toArray⟩)∧w'.cell? ⟨W.heap.size,6,none⟩=some (.bool r.c)∧Gr f w' from⟨gg.cell c0,gg.cell q0,gg.cell q1,gg.cell q2,gg.cell q3,gg.cell q4,gg.cell q5,gg.cell q6,gg⟩));have f5:=qq (Gr.drew (Gr.refl f));have f6:=qq (λ(o:Obj)=>(Gr.alloc1 (Gr.drew (Gr.refl f)) o));have f7:=qq (λ(o:Obj)=>(Gr.drew (Gr.alloc1 (Gr.refl f) o)));go_region_held3 (λw'=>w'.cell? ⟨b,0,none⟩=some (.func (.func g) #[] lb)∧w'.cell? ⟨W.heap.size,0,none⟩=some (.string ⟨r.m.toArray⟩)∧w'.cell? ⟨W.heap.size,1,none⟩=some (.string ⟨r.p.toArray⟩)∧w'.cell? ⟨W.heap.size,2,none⟩=some (.string ⟨r.q.toArray⟩)∧w'.cell? ⟨W.heap.size,3,none⟩=some (.int .i64 r.v)∧w'.cell? ⟨W.heap.size,4,none⟩=some (.slice p r.fs.length cap)∧w'.cell? ⟨W.heap.size,5,none⟩=some (.string ⟨r.b.toArray⟩)∧w'.cell? ⟨W.heap.size,6,none⟩=some (.bool r.c)∧Gr f w')
  (first
   | exact hS.out _ Y
   | exact hS.out _ (c4.out _)
   | exact hS.out _ (f4.out _ _ _ _)
   | exact hS.out _ (d5.out _ _ _)
   | exact hS.out _ f5.out
   | exact hS.out _ (f6.out _)
   | exact hS.out _ (f7.out _))
  (first
   |(refine(M.out _ (Gr.drew (Gr.alloc1 U.out _))).mono ?_
     rintro e w2⟨t,rfl,a3,g2⟩;have Y:Gr f w2:=(Gr.drew (Gr.alloc1 (Gr.refl _) _)).trans g2;have a4:=qq a3;obtain⟨p2,l,rfl,_⟩:=a3;obtain⟨Z,gA,gB,gC⟩:=BA g2;have x0:=Z.c0;have x1:=Z.c1;have x2:=Z.c2;have xz:=Z.fz;have b3:=qq Z;have c4:=qq gA;have d5:=qq gC;have b1:=qq Y;unfold Rp.V)
   |(refine(M.out _ (Gr.drew U.out)).mono ?_
     rintro e w2⟨t,rfl,a3,g2⟩;have Y:Gr f w2:=(Gr.drew (Gr.refl _)).trans g2;have a4:=qq a3;obtain⟨p2,l,rfl,_⟩:=a3;obtain⟨gA,gB⟩:=DM Y;have c4:=qq gA;have f4:=qq gB;have b1:=qq Y;unfold Rp.V))
 all_goals (first
  |(have d9:=ch3 w2 f.heap.size (.int .i64 (H r).code) (.slice p2 (H r).fs.length l) (.string ⟨(H r).b.toArray⟩)
    have L:=b3.out.set (H r).code p2 (H r).fs.length l ⟨(H r).b.toArray⟩;have a2:=b3.out.apart a4.out d9;have a5:=d5.out (.int .i64 (H r).code) (.slice p2 (H r).fs.length l) (.string ⟨(H r).b.toArray⟩);obtain⟨w4,B⟩:∃w4,((w2.setCell ⟨f.heap.size,0,none⟩ (.int .i64 (H r).code)).setCell ⟨f.heap.size,1,none⟩ (.slice p2 (H r).fs.length l)).setCell ⟨f.heap.size,2,none⟩ (.string ⟨(H r).b.toArray⟩)=w4:=⟨_,rfl⟩;rw[B]at L a2 a5;obtain⟨X,hX⟩:∃X,f.heap.size=X:=⟨_,rfl⟩;have a8:f.heap.size≤X:=Nat.le_of_eq hX;rw[hX]at L B;clear d9)
  |(have L:=qA w2 (H r).code p2 (H r).fs.length l ⟨(H r).b.toArray⟩ 51
    have a2:=a4.out.gr (Gr.alloc w2 (.cells #[.int .i64 (H r).code,.slice p2 (H r).fs.length l,.string ⟨(H r).b.toArray⟩] 51));have a5:=c4.out (.cells #[.int .i64 (H r).code,.slice p2 (H r).fs.length l,.string ⟨(H r).b.toArray⟩] 51);obtain⟨w4,B⟩:∃w4,w2.alloc (.cells #[.int .i64 (H r).code,.slice p2 (H r).fs.length l,.string ⟨(H r).b.toArray⟩] 51)=w4:=⟨_,rfl⟩;rw[B]at L a2 a5;have a8:=Below.size b1.out;obtain⟨X,hX⟩:∃X,w2.heap.size=X:=⟨_,rfl⟩;rw[hX]at L a8))
 all_goals
  have x:=qq L;have e3:=qq a2;have a:=qq a5;have a1:=qq a8;have g6:=qq J.out;clear L a2 a5 a8;have g3:=(aD b (.func (.func g) #[] lb)).gr h0.out (U.out.trans a.out);have c3:=qq (hG.gr (U.out.trans a.out));have b4:=qq g3;have b8:=qq (U.out.trans a.out);have e0:=a.out.cell n0;have e1:=a.out.cell n1;have e2:=a.out.cell n2;have ez:∀o,w4.frozen? ⟨W.heap.size+1,o,none⟩=false:=λo=>(Below.frozen a.out (p:=⟨W.heap.size+1,o,none⟩) (by show W.heap.size+1<f.heap.size;have:=J.out;omega)).trans (nz o);have y0:=x.out.c0;have y1:=x.out.c1;have y2:=x.out.c2;have yz:=x.out.fz;have p0:=a.out.cell q0;have p1:=a.out.cell q1;have f1:=a.out.cell q2;have p3:=a.out.cell q3;have p4:=a.out.cell q4;have p5:=a.out.cell q5;have p6:=a.out.cell q6;have I:aZ H s r=if (H r).code=101 then(if (aH (aK r)).2 then(Bi (cU s (aH (aK r)).1 false false),.upgraded) else(cU s (aH (aK r)).1 (r.m==o7) r.c,.done)) else(cU s (H r) (r.m==o7) r.c,.done):=rfl;by_cases w:(H r).code=101
  ·have hz:((H r).code==101)=true:=beq_iff_eq.2 w;rw[if_pos w]at I;have P:=uC r (.slice p r.fs.length cap) w4 c3.out (g0.out.gr b8.out) hr.short;have a9:=pk r;obtain⟨y,ok,hy⟩:∃y ok,aH (aK r)=(y,ok):=⟨_,_,rfl⟩;rw[hy]at P I a9;unfold xt at P;dsimp only at P I a9;unfold Rq.V at P;have d8:=qq P;have b7:=qq a9;have hq:=qq I;clear P a9 I w hy;go_wp2_with fail;(try rw[B]);refine d8.out.mono ?_;rintro e w5⟨t2,rfl,e4,g5⟩;have e5:=qq e4;obtain⟨pz,C,rfl,_⟩:=e4;unfold Rp.V;have g7:=qq g5;have hY:=qA w5 y.code pz y.fs.length C ⟨y.b.toArray⟩ 51;obtain⟨w6,S⟩:∃w6,w5.alloc (.cells #[.int .i64 y.code,.slice pz y.fs.length C,.string ⟨y.b.toArray⟩] 51)=w6:=⟨_,rfl⟩;have b9:Gr w5 w6:=S▸Gr.alloc w5 _;rw[S]at hY;have i:=g5.trans b9;have e6:=qq (e5.out.gr b9);have z0:=hY.c0;have z1:=hY.c1;have z2:=hY.c2;have d3:=qq (b8.out.trans i);have f3:=qq (c3.out.gr i);have f2:W.heap.size+1<w4.heap.size:=ae e0;have d7:X<w4.heap.size:=ae x.out.c0;replace e0:=i.cell e0;replace e1:=i.cell e1;replace e2:=i.cell e2;replace ez:∀o,w6.frozen? ⟨W.heap.size+1,o,none⟩=false:=λo=>(Below.frozen i (p:=⟨W.heap.size+1,o,none⟩) f2).trans (ez o);replace p0:=i.cell p0;replace p6:=i.cell p6;replace y0:=i.cell y0;replace y1:=i.cell y1;replace y2:=i.cell y2;replace yz:∀o,w6.frozen? ⟨X,o,none⟩=false:=λo=>(Below.frozen i (p:=⟨X,o,none⟩) d7).trans (yz o);have e7:=qq ((aD b (.func (.func g) #[] lb)).gr b4.out i);have i:=qq i;clear hY g5 b9 p1 f1 p3 p4 p5;cases ok with
   | true =>
    have d2:=qq (hq.out.trans (if_pos rfl));have E:=qq (mA e7.out f3.out y _ e6.out b7.out false false);unfold Rp.V at E;clear y0 y1 y2 yz;go_wp2_with fail;(try rw[S]);refine E.out.mono ?_;rintro e w7⟨rfl,d0⟩;have g4:=qq (F4 d0.1 c9.out c8.out);have e9:=qq d0;clear d0;go_wp2_with fail;refine g4.out.mono ?_;rintro e w8⟨rfl,A⟩;have z:=(aD b (.func (.func g) #[] lb)).trans e9.out A;have d:W.heap.size+1<w6.heap.size:=ae e0;have n:¬T (W.heap.size+1):=λe=>(by have:=N.out _ e;omega);replace e0:=(z.2.cell (p:=⟨W.heap.size+1,0,none⟩) d n).trans e0;replace e1:=(z.2.cell (p:=⟨W.heap.size+1,1,none⟩) d n).trans e1;replace e2:=(z.2.cell (p:=⟨W.heap.size+1,2,none⟩) d n).trans e2;replace ez:∀o,w8.frozen? ⟨W.heap.size+1,o,none⟩=false:=λo=>(z.2.frozen (p:=⟨W.heap.size+1,o,none⟩) d n).trans (ez o);have D:=qq d;have d1:=qq z;clear z A S z0 z1 z2 p0 p6 d B;go_wp2;refine bodyPost_ret (v:=er .upgraded) (by simp[results,results68,go_sem,er,e0,e1,e2]) rfl ?_;rw[d2.out];exact⟨rfl,cj (aD b (.func (.func g) #[] lb)) N.out d3.out d1.out (ch3 w8 (W.heap.size+1) _ _ _) (λk e=>⟨by rw[show k=W.heap.size+1 from e];omega,by rw[show k=W.heap.size+1 from e];exact D.out⟩)⟩
   | false =>
    have d2:=qq (hq.out.trans (if_neg (by decide)));go_upto_region 9 with(fail);(try rw[S]);have c5:=x.out.ch (i.out.to_ch (λ_=>False)) id;have u:=ch3 w6 X (.int .i64 y.code) (.slice pz y.fs.length C) (.string ⟨y.b.toArray⟩);have a0:=c5.set y.code pz y.fs.length C ⟨y.b.toArray⟩;have c6:=c5.apart e6.out u;have f9:W.heap.size≤X:=(by have:=a1.out;have:=J.out;omega);have f8:∀k,T k→¬k=X:=λk e e2=>(by have:=N.out k e;omega);have c7:=(aD b (.func (.func g) #[] lb)).frame e7.out u f8;have a6:=d3.out.ch u (λk e=>by rw[show k=X from e];exact f9);have a7:¬(W.heap.size+1=X):=(by have:=a1.out;have:=J.out;omega);have d6:¬(W.heap.size=X):=(by have:=a1.out;have:=J.out;omega);have O:W.heap.size+1<w6.heap.size:=ae e0;have b2:W.heap.size<w6.heap.size:=(by omega);obtain⟨w7,b0⟩:∃w7,((w6.setCell ⟨X,0,none⟩ (.int .i64 y.code)).setCell ⟨X,1,none⟩ (.slice pz y.fs.length C)).setCell ⟨X,2,none⟩ (.string ⟨y.b.toArray⟩)=w7:=⟨_,rfl⟩;rw[b0]at u a0 c6 c7 a6;(try rw[b0]);replace e0:=(u.cell (p:=⟨W.heap.size+1,0,none⟩) O a7).trans e0;replace e1:=(u.cell (p:=⟨W.heap.size+1,1,none⟩) O a7).trans e1;replace e2:=(u.cell (p:=⟨W.heap.size+1,2,none⟩) O a7).trans e2;replace ez:∀o,w7.frozen? ⟨W.heap.size+1,o,none⟩=false:=λo=>(u.frozen (p:=⟨W.heap.size+1,o,none⟩) O a7).trans (ez o);replace p0:=(u.cell (p:=⟨W.heap.size,0,none⟩) b2 d6).trans p0;replace p6:=(u.cell (p:=⟨W.heap.size,6,none⟩) b2 d6).trans p6;have y0:=a0.c0;have y1:=a0.c1;have y2:=a0.c2;have E:=qq (mA c7 (hG.gr a6) y _ c6 b7.out (r.m==[72,69,65,68]) r.c);unfold Rp.V at E;have d4:=qq a6;clear c5 u a0 c6 c7 a6 yz z0 z1 z2;go_wp2_with fail;(try rw[b0]);refine E.out.mono ?_;rintro e w8⟨rfl,A⟩;have d:W.heap.size+1<w7.heap.size:=ae e0;have n:¬T (W.heap.size+1):=λe=>(by have:=N.out _ e;omega);replace e0:=(A.2.cell (p:=⟨W.heap.size+1,0,none⟩) d n).trans e0;replace e1:=(A.2.cell (p:=⟨W.heap.size+1,1,none⟩) d n).trans e1;replace e2:=(A.2.cell (p:=⟨W.heap.size+1,2,none⟩) d n).trans e2;replace ez:∀o,w8.frozen? ⟨W.heap.size+1,o,none⟩=false:=λo=>(A.2.frozen (p:=⟨W.heap.size+1,o,none⟩) d n).trans (ez o);have D:=qq d;have f0:=qq A;clear A b0 y0 y1 y2 p0 p6 d S B;go_wp2;refine bodyPost_ret (v:=er .done) (by simp[results,results68,go_sem,er,e0,e1,e2]) rfl ?_;rw[d2.out];exact⟨rfl,cj (aD b (.func (.func g) #[] lb)) N.out d4.out f0.out (ch3 w8 (W.heap.size+1) _ _ _) (λk e=>⟨by rw[show k=W.heap.size+1 from e];omega,by rw[show k=W.heap.size+1 from e];exact D.out⟩)⟩
  ·have hz:((H r).code==101)=false:=beq_false_of_ne w;rw[if_neg w]at I;have hq:=qq I;have E:=qq (mA b4.out c3.out (H r) _ e3.out (hH.small r hr) (r.m==[72,69,65,68]) r.c);unfold Rp.V at E;clear I w;go_wp2_with fail;(try rw[B]);refine E.out.mono ?_;rintro e w5⟨rfl,R⟩;have d:W.heap.size+1<w4.heap.size:=ae e0;have n:¬T (W.heap.size+1):=λe=>(by have:=N.out _ e;omega);replace e0:=(R.2.cell (p:=⟨W.heap.size+1,0,none⟩) d n).trans e0;replace e1:=(R.2.cell (p:=⟨W.heap.size+1,1,none⟩) d n).trans e1;replace e2:=(R.2.cell (p:=⟨W.heap.size+1,2,none⟩) d n).trans e2;replace ez:∀o,w5.frozen? ⟨W.heap.size+1,o,none⟩=false:=λo=>(R.2.frozen (p:=⟨W.heap.size+1,o,none⟩) d n).trans (ez o);have e8:=qq R;have D:=qq d;clear R B y0 y1 y2 yz p0 p1 f1 p3 p4 p5 p6 d;go_wp2;refine bodyPost_ret (v:=er .done) (by simp[results,results68,go_sem,er,e0,e1,e2]) rfl ?_;rw[hq.out];exact⟨rfl,cj (aD b (.func (.func g) #[] lb)) N.out b8.out e8.out (ch3 w5 (W.heap.size+1) _ _ _) (λk e=>⟨by rw[show k=W.heap.size+1 from e];omega,by rw[show k=W.heap.size+1 from e];exact D.out⟩)⟩
end
