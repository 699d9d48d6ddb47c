/-
  Rings of texts in memory: more places, a push, a new one.
-/
import Derived.Test.YtadobobfjnmdlaaGreatDoorJs
set_option linter.unnecessarySimpa false
set_option linter.unusedVariables false
set_option linter.unusedSimpArgs false
set_option maxHeartbeats 16000000
set_option maxRecDepth 100000
open Go.Proofs.Tryz
namespace Go.Proofs.YtadobobfjnmdlaaGreatDoor
open Go.RowKit Go.Shelf
attribute [local go_sem] Oper.semAt_some
theorem ji {P:Program}{c:Code}{J:Act→World→Prop}{Q':Exit→Act→World→Prop}{a:Act}{w:World}(h:c.wp P (Exit.then J (λ_ _ _=>False)) a w):c.wp P (Exit.then J Q') a w:=by
 refine wp_mono h ?_;intro e a w b;cases e <;> first | exact b | exact b.elim
def gsz (m mx:Nat):Nat:=min (max (2*m) 8) mx
structure GrowF (z:Value)(n st:Nat)(W wx:World)(V R':Nat):Prop where
 gr:Gr W wx
 vl:W.heap.size≤V
 rl:W.heap.size≤R'
 vr:V≠R'
 vc:wx.cell? ⟨V,0,none⟩=some (.slice (some ⟨R',0,none⟩) n n)
 rc:∀j,j<n*st→wx.cell? ⟨R',j,none⟩=some z
 rz:∀o,wx.frozen? ⟨R',o,none⟩=false
 rs:R'<wx.heap.size
theorem GrowF.drew {z:Value}{n st V a:Nat}{W b:World}(h:GrowF z n st W b V a):GrowF z n st W b.drew V a:=⟨h.gr.drew,h.vl,h.rl,h.vr,h.vc,h.rc,h.rz,h.rs⟩
theorem pN (W:World)(m:Nat)(z:Value)(t:TypeId)(j:Nat)(h:j<m):(W.alloc (.cells (Array.replicate m z) t)).cell? ⟨W.heap.size,j,none⟩=some z:=by
 have:=aa W (List.replicate m z) t j z (by rw[List.getElem?_replicate,if_pos h]);simpa using this
theorem F6 (W:World)(z:Value)(n st m:Nat)(t b:TypeId)(hm:m=n*st):GrowF z n st W ((W.alloc (.cells (Array.replicate m z) t)).alloc (.cells #[.slice (some ⟨W.heap.size,0,none⟩) n n] b)) (W.heap.size+1) W.heap.size:=by
 subst hm;refine⟨((Gr.refl W).alloc1 _).alloc1 _,by omega,qv _,by omega,by simp[go_sem],λj a=>?_,λo=>by simp[go_sem],by simp;omega⟩;exact(Gr.alloc _ _).cell (pN W _ z t j a)
theorem F7 (W:World)(z:Value)(n st m:Nat)(t a:TypeId)(hm:m=n*st):GrowF z n st W ((W.alloc (.cells #[.slice (some ⟨W.heap.size+1,0,none⟩) n n] a)).alloc (.cells (Array.replicate m z) t)) W.heap.size (W.heap.size+1):=by
 subst hm;refine⟨((Gr.refl W).alloc1 _).alloc1 _,qv _,by omega,by omega,by simp[go_sem],λj b=>?_,λo=>by simp[go_sem],by simp⟩;have h:=pN (W.alloc (.cells #[.slice (some ⟨W.heap.size+1,0,none⟩) n n] a)) _ z t j b
 rwa [World.size_alloc]at h
theorem RgS.ch {B R m f:Nat}{W b:World}{k:Nat}{xs:List (List UInt8)}{lv:Value}{T:Nat→Prop}(h:RgS B R m f W k xs lv)(c:Ch T W b)(e:¬T B)(g:0<m→¬T R):RgS B R m f b k xs lv:=by
 have cb:∀ {o v},W.cell? ⟨B,o,none⟩=some v→b.cell? ⟨B,o,none⟩=some v:=fun {o v} a=>(c.cell (p:=⟨B,o,none⟩) (ae a) e).trans a;have d:0<m→∀ {o v},W.cell? ⟨R,o,none⟩=some v→b.cell? ⟨R,o,none⟩=some v:=λhm {o v} a=>(c.cell (p:=⟨R,o,none⟩) (ae a) (g hm)).trans a;exact⟨cb h.c0,cb h.c1,cb h.c2,cb h.c3,h.hl,λo=>(c.frozen (p:=⟨B,o,none⟩) (show B<W.heap.size from ae h.c0) e).trans (h.fz o),
  λhm o=>(c.frozen (p:=⟨R,o,none⟩) (show R<W.heap.size from ae (h.all 0 hm).choose_spec) (g hm)).trans (h.fr hm o),h.hn,h.hm,h.hM,h.hf,
  λi hi=>d (by have:=h.hn;omega) (h.row i hi),λj l=>(h.all j l).imp λ_ n=>d (by omega) n,h.ne⟩
theorem zZ {B R m f:Nat}{W:World}{I:Nat}{xs:List (List UInt8)}{lv:Value}(h:RgS B R m f W I xs lv)(hx:xs.length=m)(e0:m<I) :
  Calls prog 145 #[.pointer (some ⟨B,0,none⟩)] W λe w'=>e=.returned (.tuple #[])∧∃c,W.heap.size≤c∧RgS B c (gsz m I) 0 w' I xs (.slice (some ⟨c,0,none⟩) (gsz m I) (gsz m I))∧Ch (λk=>k=B) W w':=by
 have h':=qq h;have e1:m≤65536:=qy h.hm h.hM;have b6:=h.hM;have c0:=h.c0;have c3:=h.c3;obtain⟨p,rfl⟩:∃p,lv=.slice p m m:=by
  rcases h.hl with⟨e,e2⟩ | ⟨_,e2⟩
  ·exact⟨none,by rw[e2,e]⟩
  ·exact⟨_,e2⟩
 obtain⟨i0,hi,a9,b0,b1⟩:=info_parts sA;obtain⟨n,hn⟩:∃n,gsz m I=n:=⟨_,rfl⟩;have N:m<n∧0<n∧n≤I:=by rw[←hn];unfold gsz;omega
 have c5:min (max (IntKind.i64.wrap (2*(m:Int))) 8) (I:Int)=(n:Int):=by
  rw[IntWalk.i64_in _ (by omega),←hn];unfold gsz;omega
 have c4:∀w:World,(Instr.makeSlice 86 (.int .i64 n) (.int .i64 n)).run prog w=.ok (.slice (some ⟨w.heap.size,0,none⟩) n n) (w.alloc (.cells (List.replicate n (Value.string ⟨#[]⟩)).toArray 9)):=λw=>by
  have hr:=run_make (P:=prog) w 86 9 i0 _ underlying86 hi a9 .i64 .i64 n n (by omega) (Int.le_refl _) (by rw[b1];omega) (by omega);simp only[Int.toNat_natCast]at hr;rw[hr,b0,Nat.mul_one];congr 3;rw[←toList_madeCells_one];simp[Value.cells]
 clear h hi a9 b0 b1;have a4:B<W.heap.size:=ae c0;have a5:B<W.heap.size+1:=by omega
 rw[hn];refine(callsIn_wide (n:=0)).1 ?_;refine callsIn_of_wp_marks func145 rfl trivial ?_ rfl;simp only[ntmps145,List.size_toArray,List.length_cons,List.length_nil,Nat.reduceAdd,Nat.reduceSub,Array.replicate_succ,Array.replicate_zero,List.push_toArray,List.append_toArray,List.nil_append,List.cons_append];refine(wpIn_wide (n:=0)).2 ?_;go_upto_region 0 with(fail);go_cut [2]from 5 to 17 (λv wx=>∃V c,v=.pointer (some ⟨V,0,none⟩)∧GrowF (.string ⟨#[]⟩) n 1 W wx V c)
 case first =>
  refine ji ?_;go_region_law (fail);all_goals
   go_wp2;go_meet;first
    | exact⟨_,_,rfl,(F6 W _ n 1 _ _ _ (Nat.mul_one n).symm).drew⟩
    | exact⟨_,_,rfl,(F7 W _ n 1 _ _ _ (Nat.mul_one n).symm).drew⟩
 case rest =>
  obtain⟨V,c,rfl,hF⟩:=hcut;have d3:=qq (h'.out.gr hF.gr);have b:=qq hF;clear c0 c3 c4 hF a4 a5 c5;go_wp2_with (go_at_call 180;refine(BR B _).mono ?_;rintro e w' ⟨rfl,rfl⟩);obtain⟨Y,H⟩:∃x,wc.alloc (.cells #[.pointer (some ⟨B,0,none⟩)] 104)=x:=⟨_,rfl⟩;rw[H];have S:=qq (show Y.heap.size=wc.heap.size+1 by rw[←H];simp);have b8:Y.cell? ⟨wc.heap.size,0,none⟩=some (.pointer (some ⟨B,0,none⟩)):=by rw[←H];simp[go_sem]
  have E:Gr wc Y:=by rw[←H];exact Gr.alloc _ _
  have r:=qq (show GrowF (.string ⟨#[]⟩) n 1 W Y V c from⟨b.out.gr.trans E,b.out.vl,b.out.rl,b.out.vr,E.cell b.out.vc,λj d=>E.cell (b.out.rc j d),λo=>(Below.frozen E (p:=⟨c,o,none⟩) b.out.rs).trans (b.out.rz o),qj b.out.rs (Below.size E)⟩);clear H;refine(wpIn_wide (n:=0)).1 ?_;refine iJ (gf:=223) rfl (enters_of func223 (by kernel_rfl) rfl) (yX (B:=B) (R:=R) (m:=m) (f:=f) (max:=I) (xs:=xs) (lv:=.slice p m m) wc.heap.size b8) (qv _) (λk M=>⟨by rw[S.out];(try dsimp only at M);omega,rfl⟩) (λ_=>rfl)
   (λq A=>Gr W A∧Y.heap.size≤A.heap.size∧A.cell? ⟨V,0,none⟩=some (.slice (some ⟨c,0,none⟩) n n)∧(∀o,A.frozen? ⟨c,o,none⟩=false)∧(∀j,j<n→∃u:List UInt8,A.cell? ⟨c,j,none⟩=some (.string ⟨u.toArray⟩))∧∀j (d:j<xs.length),j<q.length→A.cell? ⟨c,j,none⟩=some (.string ⟨xs[j].toArray⟩))
   (λ_ _ _=>False) (λk=>k=c)
   (λk M=>⟨by have:=r.out.rs;(try dsimp only at M);omega,by have:=b.out.rs;(try dsimp only at M ⊢);omega⟩) ?hI (λ_ _ _ _ h _=>h.elim) (λ_ _ h=>h'.out.gr h.1) ⟨r.out.gr,qv _,r.out.vc,r.out.rz,λj d=>⟨[],r.out.rc j (by omega)⟩,λj _ h=>absurd h (Nat.not_lt_zero _)⟩ ?round ?done (λ_ _ _ _ _ _ h _=>h.elim)
  case hI =>
   rintro q A B'⟨g,k0,k1,k2,k3,k4⟩ C;have e2:=S.out;have eW:=Below.size b.out.gr;have hr:¬(c=wc.heap.size∨Y.heap.size≤c):=(by have:=b.out.rs;omega);have hv:¬(V=wc.heap.size∨Y.heap.size≤V):=(by have:V<wc.heap.size:=ae b.out.vc;omega);have O:c<A.heap.size:=(by have:=r.out.rs;omega);exact⟨g.ch C (λk M=>by omega),qy k0 C.size,(C.cell (p:=⟨V,0,none⟩) (ae k1) hv).trans k1,λo=>(C.frozen (p:=⟨c,o,none⟩) O hr).trans (k2 o),
    λj d=>(k3 j d).imp λu X=>(C.cell (p:=⟨c,j,none⟩) O hr).trans X,λj d h=>(C.cell (p:=⟨c,j,none⟩) O hr).trans (k4 j d h)⟩
  case round =>
   intro l' q x rest A d9 d0 a8 hI;obtain⟨M,rfl⟩:=xB a8;obtain⟨g,k0,k1,k2,k3,k4⟩:=hI;obtain⟨y,hy⟩:∃y,xs[q.length]=y:=⟨_,rfl⟩;obtain⟨k,a2⟩:∃k,q.length=k:=⟨_,rfl⟩;have b9:k<n:=(by omega);have eW:=Below.size b.out.gr;have e2:=S.out;have O:c<wc.heap.size:=b.out.rs;have e4:V<wc.heap.size:=ae b.out.vc;have t:¬(c=l'):=(by omega);have a7:¬(V=l'):=(by omega);have c7:=b.out.vr;have z:c<A.heap.size:=(by omega);have a1:=b.out.rl;have d7:W.heap.size≤l':=(by omega);obtain⟨u,X⟩:=k3 k b9;rw[hy];rw[a2];unfold EZ;have b3:=qq (And.intro g (And.intro k0 (And.intro k1 (And.intro k2 (And.intro k3 k4)))));have c8:=qq (show ∀h:q.length<xs.length,xs[q.length]=y from λ_=>hy);have s:=qq a2;have d8:=qq M;clear a8 k0 k2 k3 k4 a2;gi_wp2;refine⟨Ch.refl _ _,λZ l=>?_⟩;obtain⟨g,k0,k1,k2,k3,k4⟩:=b3.out;have d1:Z.cell? ⟨V,0,none⟩=some (.slice (some ⟨c,0,none⟩) n n):=(l.cell (p:=⟨V,0,none⟩) (ae k1) a7).trans k1;have d2:Z.cell? ⟨c,k,none⟩=some (.string ⟨u.toArray⟩):=(l.cell (p:=⟨c,k,none⟩) z t).trans X;have dz:∀o,Z.frozen? ⟨c,o,none⟩=false:=λo=>(l.frozen (p:=⟨c,o,none⟩) z t).trans (k2 o);have hd:=qq (show(Gr W Z∧Y.heap.size≤Z.heap.size)∧((∀j,j<n→∃u:List UInt8,Z.cell? ⟨c,j,none⟩=some (.string ⟨u.toArray⟩))∧∀j (d:j<xs.length),j<q.length→Z.cell? ⟨c,j,none⟩=some (.string ⟨xs[j].toArray⟩))from
    ⟨⟨g.ch l (λk M=>by(try dsimp only at M);omega),qy k0 l.size⟩,λj d=>(k3 j d).imp λu X=>(l.cell (p:=⟨c,j,none⟩) z t).trans X,λj d h=>(l.cell (p:=⟨c,j,none⟩) z t).trans (k4 j d h)⟩)
   clear g k0 k1 k2 k3 k4 l X;gi_wp2;have b7:(⟨c,k,none⟩:Addr).block≠(⟨V,0,none⟩:Addr).block:=λe=>c7 e.symm;refine⟨Ch.setCell (T:=λk=>k=c) _ rfl _,hd.out.1.1.setCell a1 _,by rw[World.size_setCell];exact hd.out.1.2,ai d1 b7,λo=>by rw[ag];exact dz o,λj d=>?_,λj d h=>?_⟩
   ·by_cases F:j=k
    ·subst F;exact⟨y,af d2⟩
    ·obtain⟨u2,c6⟩:=hd.out.2.1 j d;exact⟨u2,ac c6 F⟩
   ·rw[qw,List.length_singleton,s.out]at h;by_cases F:j=k
    ·subst F;rw[af d2];have e:=c8.out (by rw[s.out];exact d);simp only[s.out]at e;rw[←e]
    ·exact ac (hd.out.2.2 j d (by rw[s.out];omega)) F
  case done =>
   rintro D A hD⟨g,k0,k1,k2,k3,k4⟩ hK;have hA:=h'.out.gr g;have e3:=b.out.vr;have d5:V<wc.heap.size:=ae b.out.vc;have a4:B<W.heap.size:=ae h'.out.c0;have a1:=b.out.rl;have d6:=b.out.vl;have d4:W.heap.size≤D:=(by have:=S.out;have:=Below.size b.out.gr;omega);have c1:=hA.c1;have c3:=hA.c3;have fz:=hA.fz;have U:=qq (And.intro g (And.intro k2 (And.intro k3 k4)));have a3:=qq hA;have b4:=qq hK;rw[eJ]at k4;have c9:=qq k4;clear hA g k0 k2 k3 k4 hK;go_wp2;have J:D≠B:=(by omega);have b5:((A.setCell ⟨B,3,none⟩ (.slice (some ⟨c,0,none⟩) n n)).setCell ⟨B,1,none⟩ (.int .i64 0)).heap[D]?=some (.deferred (some [])) :=
    (Below.heap_setCell _ ⟨B,1,none⟩ _ _ J).trans ((Below.heap_setCell _ ⟨B,3,none⟩ _ _ J).trans b4.out)
   refine⟨by simp,.inl ⟨_,_,rfl,run_takeDeferred b5,?_⟩⟩;refine⟨.tuple #[],results_none rfl _ _ _,rfl,c,a1,?_,?_⟩
   ·obtain⟨g,k2,k3,_⟩:=U.out;have L:=Ch.putObj (T:=λk=>k=D) ((A.setCell ⟨B,3,none⟩ (.slice (some ⟨c,0,none⟩) n n)).setCell ⟨B,1,none⟩ (.int .i64 0)) rfl (.deferred none);have a6:c≠D:=(by have:=r.out.rs;omega);have a0:c≠B:=(by omega);have cb:∀ {o v},((A.setCell ⟨B,3,none⟩ (.slice (some ⟨c,0,none⟩) n n)).setCell ⟨B,1,none⟩ (.int .i64 0)).cell? ⟨B,o,none⟩=some v→_:=fun {o v} hh=>(L.cell (p:=⟨B,o,none⟩) (ae hh) (λe=>J e.symm)).trans hh;have cr:∀ {o v},A.cell? ⟨c,o,none⟩=some v→_:=fun {o v} hh =>
     (L.cell (p:=⟨c,o,none⟩) (by have:=ae hh;simpa using this) a6).trans (ai (v:=.int .i64 0) (a:=⟨B,1,none⟩) (ai (v:=.slice (some ⟨c,0,none⟩) n n) (a:=⟨B,3,none⟩) hh (λe=>a0 e.symm)) (λe=>a0 e.symm))
    have b2:B<A.heap.size:=ae c1;have z:c<A.heap.size:=ae (k3 0 N.2.1).choose_spec;refine⟨cb (ac (ac a3.out.c0 (by decide)) (by decide)),cb (af (ac c1 (by decide))),cb (ac (ac a3.out.c2 (by decide)) (by decide)),cb (ac (af c3) (by decide)),.inr ⟨N.2.1,rfl⟩,λo=>?_,λ_ o=>?_,by omega,N.2.2,b6,.inl N.2.1,λi hi=>?_,λj d=>?_,λ_=>a0⟩
    ·refine(L.frozen (p:=⟨B,o,none⟩) (by simpa using b2) (λe=>J e.symm)).trans ?_;rw[ag,ag];exact fz o
    ·refine(L.frozen (p:=⟨c,o,none⟩) (by simpa using z) a6).trans ?_;rw[ag,ag];exact k2 o
    ·rw[show(0+i) % n=i by rw[Nat.zero_add];exact Nat.mod_eq_of_lt (by omega)];exact cr (c9.out i hi hi)
    ·exact(k3 j d).imp λu X=>cr X
   ·have c1:Ch (λk=>k=B) W ((A.setCell ⟨B,3,none⟩ (.slice (some ⟨c,0,none⟩) n n)).setCell ⟨B,1,none⟩ (.int .i64 0)) :=
     ((U.out.1.to_ch _).trans (Ch.setCell (T:=λk=>k=B) _ (a:=⟨B,3,none⟩) rfl _)).trans (Ch.setCell (T:=λk=>k=B) _ (a:=⟨B,1,none⟩) rfl _)
    exact c1.drop_new (Ch.putObj (T:=λk=>k=D) _ rfl _) (λj d=>.inr (by(try dsimp only at d);omega))
theorem RgS.push {B R m f:Nat}{W w:World}{y:Nat}{xs:List (List UInt8)}{x:List UInt8}{lv:Value}(h:RgS B R m f W y xs lv)(A:xs.length<m)(g:Gr (W.setCell ⟨B,2,none⟩ (.int .i64 ((xs.length:Int)+1))) w) :
  RgS B R m f (w.setCell ⟨R,(f+xs.length) % m,none⟩ (.string ⟨x.toArray⟩)) y (xs++[x]) lv:=by
 have d:0<m:=by omega
 have hf:f<m:=by rcases h.hf with e | e <;> omega
 have q:=h.ne d;have c:∀ {o p:Nat},(⟨R,o,none⟩:Addr).block≠(⟨B,p,none⟩:Addr).block:=fun {_ _}=>q;have b:∀ {o p:Nat},(⟨B,o,none⟩:Addr).block≠(⟨R,p,none⟩:Addr).block:=fun {_ _} e=>q e.symm;refine⟨ai (g.cell (ac h.c0 (by decide))) c,ai (g.cell (ac h.c1 (by decide))) c,?_,ai (g.cell (ac h.c3 (by decide))) c,h.hl,λo=>?_,λhm o=>?_,by simp;omega,h.hm,h.hM,h.hf,λi hi=>?_,λj z=>?_,h.ne⟩
 ·have:=ai (v:=.string ⟨x.toArray⟩) (a:=⟨R,(f+xs.length) % m,none⟩) (g.cell (af h.c2)) (c (p:=2));simpa using this
 ·rw[ag];exact(Below.frozen g (by simpa using ae h.c0)).trans (ag.trans (h.fz o))
 ·rw[ag];exact(Below.frozen g (by simpa using ae (h.all 0 d).choose_spec)).trans (ag.trans (h.fr hm o))
 ·rw[qw,List.length_singleton]at hi;by_cases l:i<xs.length
  ·have e:(xs++[x])[i]=xs[i]:=(by rw[List.getElem_append_left l]);rw[e];have C:=h.row i l;have r:(f+i) % m≠(f+xs.length) % m:=by
    intro e2;rcases Nat.lt_or_ge (f+i) m with s | s
    ·rcases Nat.lt_or_ge (f+xs.length) m with k | k
     ·rw[Nat.mod_eq_of_lt s,Nat.mod_eq_of_lt k]at e2;omega
     ·rw[Nat.mod_eq_of_lt s,Nat.mod_eq_sub_mod k,Nat.mod_eq_of_lt (by omega)]at e2;omega
    ·have k:m≤f+xs.length:=(by omega);rw[Nat.mod_eq_sub_mod s,Nat.mod_eq_of_lt (by omega),Nat.mod_eq_sub_mod k,Nat.mod_eq_of_lt (by omega)]at e2;omega
   exact ac (g.cell (ai C b)) r
  ·obtain rfl:i=xs.length:=(by omega);have e:(xs++[x])[xs.length]=x:=(by simp);rw[e];obtain⟨u,t⟩:=h.all ((f+xs.length) % m) (Nat.mod_lt _ d);exact af (g.cell (ai t b))
 ·obtain⟨u,t⟩:=h.all j z;by_cases n:j=(f+xs.length) % m
  ·subst n;exact⟨x,af (g.cell (ai t b))⟩
  ·exact⟨u,ac (g.cell (ai t b)) n⟩
theorem vW {B R m f:Nat}{W:World}{a:Nat}{xs:List (List UInt8)}{lv:Value}(x:List UInt8)(h:RgS B R m f W a xs lv)(hf:a≤xs.length) :
  Calls prog 119 #[.pointer (some ⟨B,0,none⟩),.string ⟨x.toArray⟩] W λe w'=>e=.returned (.bool false)∧Gr W w':=by
 have c0:=h.c0;have c2:=h.c2;have b:(a:Int)≤xs.length:=by omega
 clear h;go_enter func119,ntmps119;go_wp2;go_quiet (fail);go_wp2;go_ret;exact⟨rfl,below_drewNm _ _⟩
def F8 (B R m mx:Nat)(xs:List (List UInt8))(x:List UInt8)(W w':World):Prop :=
 ∃R' m' f' lv',RgS B R' m' f' w' mx (xs++[x]) lv'∧Ch (λk=>k=B∨(0<m∧k=R)) W w'∧((R'=R∧m'=m)∨W.heap.size≤R')
theorem vX {B R m f:Nat}{W:World}{M:Nat}{xs:List (List UInt8)}{lv:Value}(x:List UInt8)(h:RgS B R m f W M xs lv)(hf:xs.length<M) :
  Calls prog 119 #[.pointer (some ⟨B,0,none⟩),.string ⟨x.toArray⟩] W λe w'=>e=.returned (.bool true) ∧
   F8 B R m M xs x W w':=by
 have S:=qq h;have c0:=h.c0;have c2:=h.c2;have c3:=h.c3;have a6:¬(M:Int)≤xs.length:=by omega
 obtain⟨p,rfl⟩:∃p,lv=.slice p m m:=by
  rcases h.hl with⟨e,e2⟩ | ⟨_,e2⟩
  ·exact⟨none,by rw[e2,e]⟩
  ·exact⟨_,e2⟩
 have a7:=h.hn;have a8:=h.hM;clear h;go_enter func119,ntmps119;go_wp2;go_quiet (fail);obtain⟨N,D⟩:∃N,W.drewN nq=N:=⟨_,rfl⟩;have O:Gr W N:=D▸below_drewNm _ _;obtain⟨b,X⟩:∃b,((xs.length:Int)==(m:Int))=b:=⟨_,rfl⟩;replace c2:=O.cell c2;replace c3:=O.cell c3;have P:=qq O;go_wp2;rw[D];clear D c0;go_quiet (fail);go_upto_if 27 with(fail);obtain⟨we,t⟩:∃we,N.drewN nq=we:=⟨_,rfl⟩;have F:=qq (P.out.trans (show Gr N we from t▸below_drewNm _ _));go_cut [] (λwx=>∃d l E,RgS B d l E wx M xs (.slice (some ⟨d,0,none⟩) l l)∧xs.length<l∧Ch (λk=>k=B) W wx∧((d=R∧l=m)∨W.heap.size≤d))
 case first =>
  rw[t];clear t c2 c3;cases b with
  | true =>
   have H:xs.length=m:=(by have:=eq_of_beq X;omega);go_wp2_with fail;refine(zZ (S.out.gr F.out) H (by omega)).mono ?_;rintro e wg⟨rfl,d,V,n,hc⟩;go_wp2;go_meet;exact⟨d,_,0,n,by unfold gsz;omega,(F.out.to_ch _).trans hc,.inr (qy (Below.size F.out) V)⟩
  | false =>
   have H:¬((xs.length:Int)=m):=qk.1 X;have n:=S.out.gr F.out;have hl:=n.hl;go_wp2;go_meet;obtain⟨_,e⟩:=hl.resolve_left (λe=>by have:=e.1;omega);rw[e]at n;exact⟨R,m,f,n,by omega,F.out.to_ch _,.inl ⟨rfl,rfl⟩⟩
 case rest =>
  obtain⟨d,l,E,n,a0,I,L⟩:=hcut;have c:=qq n;have J:=qq I;have z:=qq L;have c2:=n.c2;have fz:=n.fz;clear n I L S F t X;go_upto_region 6 with(fail);obtain⟨v,g⟩:∃x,wc.setCell ⟨B,2,none⟩ (.int .i64 ((xs.length:Int)+1))=x:=⟨_,rfl⟩;rw[g];have s:0<l:=by omega
  have a1:l≤65536:=qy c.out.hm c.out.hM;have Y:E<l:=by rcases c.out.hf with e | e <;> omega
  have a3:=c.out.ne s;have e1:v.cell? ⟨B,1,none⟩=some (.int .i64 E):=by rw[←g];exact ac c.out.c1 (by decide)
  have e2:v.cell? ⟨B,2,none⟩=some (.int .i64 ((xs.length:Int)+1)):=by rw[←g];exact af c2
  have e3:v.cell? ⟨B,3,none⟩=some (.slice (some ⟨d,0,none⟩) l l):=by rw[←g];exact ac c.out.c3 (by decide)
  have a2:xs.length≤65536:=by omega
  obtain⟨q,hq⟩:∃q,(E+xs.length) % l=q:=⟨_,rfl⟩;have a4:q<l:=hq▸Nat.mod_lt _ s;haveI:Nonempty (Later (Gr v)):=⟨⟨v,Gr.refl v⟩⟩;have t2:∀x:Later (Gr v),x.w.cell? ⟨B,2,none⟩=some (.int .i64 ((xs.length:Int)+1)):=λx=>x.ok.cell e2;have t3:∀x:Later (Gr v),x.w.cell? ⟨B,3,none⟩=some (.slice (some ⟨d,0,none⟩) l l):=λx=>x.ok.cell e3;have A:=qq (kg (R:=d) (m:=l) (i:=xs.length) e1 e3 s a1 Y a2);simp only[hq]at A;have b0:IntKind.i64.wrap ((xs.length:Int)+1 - 1)=xs.length:=by rw[show(xs.length:Int)+1 - 1=xs.length by omega];exact IntWalk.i64_in _ (by omega)
  have a5:(xs.length:Int)+1 - 1=xs.length:=by omega
  clear e1 e2 e3 c2 fz;refine ak (C:=Gr v) 12 (by kernel_rfl) (by kernel_rfl) (Gr.drew' _) ?_;simp only[List.take_succ_cons,List.take_zero,List.drop_succ_cons,List.drop_zero];repeat (go_big_quiet_step (with_reducible exact A.out _))
  refine wpQuiet_nil ?_;intro w9 r;have U:∀ {o p:Nat},(⟨B,o,none⟩:Addr).block≠(⟨d,p,none⟩:Addr).block:=fun {_ _} e=>a3 e.symm;obtain⟨u,hu⟩:=c.out.all q a4;have a9:w9.cell? ⟨d,q,none⟩=some (.string ⟨u.toArray⟩):=r.cell (g▸ai hu U);have b1:∀o,w9.frozen? ⟨d,o,none⟩=false:=λo=>by
   have hz:=c.out.fr s o;refine(Below.frozen r (p:=⟨d,o,none⟩) (by rw[←g];simpa using ae hu)).trans ?_;rw[←g,ag];exact hz
  have y:=qq r;clear t2 t3 hu r;go_wp2;go_ret;subst g;subst hq;refine⟨rfl,d,l,E,_,c.out.push a0 y.out,?_,z.out⟩;have k1:Ch (λk=>k=B∨(0<m∧k=R)) W w9:=(J.out.mono (λ_ e=>.inl e)).trans ((Ch.setCell _ (a:=⟨B,2,none⟩) (.inl rfl) _).trans (y.out.to_ch _));refine k1.drop_new (Ch.setCell (T:=λk=>k=d) _ rfl _) (λj hj=>?_);have Z:j=d:=hj;subst Z;rcases z.out with⟨e1,e2⟩ | e
  ·exact .inl (.inr ⟨by omega,e1⟩)
  ·exact .inr e
def mi (B mx:Nat)(T:Nat→Prop)(W:World)(xs:List (List UInt8)):Prop:=(∃R m f lv,RgS B R m f W mx xs lv∧T B∧(0<m→T R))∧∀k,T k→k<W.heap.size
theorem l7 (B i:Nat):Kin (mi B i) :=
 ⟨fun {T T' W x} ⟨⟨R,m,f,lv,h,a,b⟩,_⟩ d hl=>⟨⟨R,m,f,lv,h,d _ a,λe=>d _ (b e)⟩,hl⟩,
  fun {T S W j x} ⟨⟨R,m,f,lv,h,a,b⟩,hl⟩ c hs=>⟨⟨R,m,f,lv,h.ch c (hs _ a) (λe=>hs _ (b e)),a,b⟩,λk g=>qj (hl k g) c.size⟩,
  fun {T W x} h=>h.2⟩
theorem fQ {B a:Nat}{T:Nat→Prop}{W:World}{xs:List (List UInt8)}(h:mi B a T W xs) :
  Calls prog 83 #[.pointer (some ⟨B,0,none⟩)] W λe w'=>e=.returned (.int .i64 xs.length)∧W=w':=by
 obtain⟨⟨R,m,f,lv,h,_⟩,_⟩:=h;exact sx h
theorem de {B a:Nat}{T:Nat→Prop}{W:World}(h:mi B a T W []) :
  Calls prog 75 #[.pointer (some ⟨B,0,none⟩)] W λe w'=>e=.returned (.tuple #[.string ⟨#[]⟩,.bool false])∧W=w':=by
 obtain⟨⟨R,m,f,lv,h,_⟩,_⟩:=h;exact yV h
theorem qZ {B d:Nat}{T:Nat→Prop}{W:World}{a:List UInt8}{l:List (List UInt8)}(h:mi B d T W (a :: l)) :
  Calls prog 75 #[.pointer (some ⟨B,0,none⟩)] W λe w'=>e=.returned (.tuple #[.string ⟨a.toArray⟩,.bool true])∧Pst (mi B d) T W l w':=by
 obtain⟨⟨R,m,f,lv,h,g,i⟩,hl⟩:=h;have hm:0<m:=by have:=h.hn;simp at this;omega
 refine(yW h).mono ?_;rintro e w'⟨rfl,n,j⟩;have b:Ch T W w':=j.mono (λk c=>by rcases c with rfl | rfl;exact g;exact i hm);exact⟨rfl,(l7 B d).pst ⟨⟨R,m,_,lv,n,g,i⟩,λk c=>qj (hl k c) j.size⟩ b⟩
theorem oM {B a:Nat}{T:Nat→Prop}{W:World}{xs:List (List UInt8)}(x:List UInt8)(h:mi B a T W xs)(hf:a≤xs.length) :
  Calls prog 119 #[.pointer (some ⟨B,0,none⟩),.string ⟨x.toArray⟩] W λe w'=>e=.returned (.bool false)∧Gr W w':=by
 obtain⟨⟨R,m,f,lv,h,_⟩,_⟩:=h;exact vW x h hf
theorem CO {B g:Nat}{T:Nat→Prop}{W:World}{xs:List (List UInt8)}(x:List UInt8)(h:mi B g T W xs)(hf:xs.length<g) :
  Calls prog 119 #[.pointer (some ⟨B,0,none⟩),.string ⟨x.toArray⟩] W λe w'=>e=.returned (.bool true)∧Pst (mi B g) T W (xs++[x]) w':=by
 obtain⟨⟨R,m,f,lv,h,j,l⟩,hl⟩:=h;refine(vX x h hf).mono ?_;rintro e w'⟨rfl,o,q,p,d,i,n,c⟩;have b:Ch T W w':=n.mono (λk a=>by
  rcases a with rfl | ⟨h0,rfl⟩
  ·exact j
  ·exact l h0)
 refine⟨rfl,⟨⟨o,q,p,d,i,.inl j,λh0=>?_⟩,λk a=>?_⟩,b⟩
 ·rcases c with⟨e1,e2⟩ | e
  ·subst e1;subst e2;exact .inl (l h0)
  ·exact .inr ⟨e,ae (i.all 0 h0).choose_spec⟩
 ·rcases a with a | a
  ·exact qj (hl k a) n.size
  ·exact a.2
theorem En (q:Nat)(W:World)(d:1≤q)(a:q≤65536) :
  Calls prog 62 #[.int .i64 q] W λe w'=>e=.returned (.tuple #[.pointer (some ⟨W.heap.size,0,none⟩),.int .i64 0])∧mi W.heap.size q (λk=>k=W.heap.size) w' []∧Gr W w'∧w'.heap.size=W.heap.size+1:=by
 have a1:¬(q:Int)<1:=by omega
 have a2:¬(65536:Int)<q:=by omega
 go_enter func62,ntmps62;go_wp2;go_ret2;refine⟨rfl,⟨⟨W.heap.size+1,0,0,.slice none 0 0,⟨aa _ _ _ 0 _ rfl,aa _ _ _ 1 _ rfl,aa _ _ _ 2 _ rfl,aa _ _ _ 3 _ rfl,.inl ⟨rfl,rfl⟩,λo=>World.frozen?_alloc_at _ _ _ _ rfl,λh=>absurd h (Nat.lt_irrefl 0),qv _,qx _,a,.inr ⟨rfl,rfl⟩,λi hi=>absurd hi (Nat.not_lt_zero _),λj b=>absurd b (Nat.not_lt_zero _),λh=>absurd h (Nat.lt_irrefl 0)⟩,rfl,λh=>absurd h (Nat.lt_irrefl 0)⟩,λk c=>by subst c;simp⟩,Gr.alloc _ _,by simp⟩
def It.V (x:It):Value:=.agg #[.int .i64 x.kind,.int .i64 x.op,.string ⟨x.text.toArray⟩]
structure ItC (b j:Nat)(W:World)(x:It):Prop where
 k:W.cell? ⟨b,j*3,none⟩=some (.int .i64 x.kind)
 o:W.cell? ⟨b,j*3+1,none⟩=some (.int .i64 x.op)
 t:W.cell? ⟨b,j*3+2,none⟩=some (.string ⟨x.text.toArray⟩)
theorem ItC.gr {b j:Nat}{W a:World}{x:It}(h:ItC b j W x)(g:Gr W a):ItC b j a x:=⟨g.cell h.k,g.cell h.o,g.cell h.t⟩
theorem ItC.lt {b j:Nat}{W:World}{x:It}(h:ItC b j W x):b<W.heap.size:=ae h.k
theorem ItC.other {b j B o:Nat}{W:World}{x:It}{v:Value}(h:ItC b j W x)(hn:B≠b):ItC b j (W.setCell ⟨B,o,none⟩ v) x :=
 ⟨ai h.k hn,ai h.o hn,ai h.t hn⟩
def mj (W:World)(b j:Nat)(x:It):World:=((W.setCell ⟨b,j*3,none⟩ (.int .i64 x.kind)).setCell ⟨b,j*3+1,none⟩ (.int .i64 x.op)).setCell ⟨b,j*3+2,none⟩ (.string ⟨x.text.toArray⟩)
theorem ItC.put {b j:Nat}{W:World}{x:It}(h:ItC b j W x)(y:It):ItC b j (mj W b j y) y :=
 ⟨ac (ac (af h.k) (by omega)) (by omega),ac (af (ac h.o (by omega))) (by omega),af (ac (ac h.t (by omega)) (by omega))⟩
theorem ItC.putO {b j i:Nat}{W:World}{x:It}(h:ItC b j W x)(hn:j≠i)(y:It):ItC b j (mj W b i y) x :=
 ⟨ac (ac (ac h.k (by omega)) (by omega)) (by omega),ac (ac (ac h.o (by omega)) (by omega)) (by omega),ac (ac (ac h.t (by omega)) (by omega)) (by omega)⟩
theorem aQ {b j B o:Nat}{W:World}{v:Value}{y:It}(h:W.cell? ⟨B,o,none⟩=some v)(hn:b≠B):(mj W b j y).cell? ⟨B,o,none⟩=some v :=
 ai (ai (ai h hn) hn) hn
theorem dO {b j B o:Nat}{W:World}{y:It}:(mj W b j y).frozen? ⟨B,o,none⟩=W.frozen? ⟨B,o,none⟩:=by unfold mj;rw[ag,ag,ag]
theorem rg {b j:Nat}{T:Nat→Prop}(W:World)(y:It)(a:T b):Ch T W (mj W b j y):=((Ch.setCell _ a _).trans (Ch.setCell _ a _)).trans (Ch.setCell _ a _)
theorem pO {b j:Nat}{W:World}{y:It}:(mj W b j y).heap.size=W.heap.size:=by unfold mj;simp
structure RgI (B R m f:Nat)(W:World)(max:Nat)(xs:List It)(lv:Value):Prop where
 c0:W.cell? ⟨B,0,none⟩=some (.int .i64 max)
 c1:W.cell? ⟨B,1,none⟩=some (.int .i64 f)
 c2:W.cell? ⟨B,2,none⟩=some (.int .i64 xs.length)
 c3:W.cell? ⟨B,3,none⟩=some lv
 hl:(m=0∧lv=.slice none 0 0)∨(0<m∧lv=.slice (some ⟨R,0,none⟩) m m)
 fz:∀o,W.frozen? ⟨B,o,none⟩=false
 fr:0<m→∀o,W.frozen? ⟨R,o,none⟩=false
 hn:xs.length≤m
 hm:m≤max
 hM:max≤65536
 hf:f<m∨(m=0∧f=0)
 row:∀i (h:i<xs.length),ItC R ((f+i) % m) W xs[i]
 all:∀j,j<m→∃u:It,ItC R j W u
 ne:0<m→R≠B
theorem RgI.gr {B R m f:Nat}{W a:World}{max:Nat}{xs:List It}{lv:Value}(h:RgI B R m f W max xs lv)(g:Gr W a):RgI B R m f a max xs lv :=
 ⟨g.cell h.c0,g.cell h.c1,g.cell h.c2,g.cell h.c3,h.hl,λo=>(Below.frozen g (show B<W.heap.size from ae h.c0)).trans (h.fz o),
  λhm o=>(Below.frozen g (show R<W.heap.size from(h.all 0 hm).choose_spec.lt)).trans (h.fr hm o),h.hn,h.hm,h.hM,h.hf,λi hi=>(h.row i hi).gr g,λj b=>(h.all j b).imp λ_ c=>c.gr g,h.ne⟩
theorem nV (B R m f i:Nat)(W:World)(c1:W.cell? ⟨B,1,none⟩=some (.int .i64 f))(c3:W.cell? ⟨B,3,none⟩=some (.slice (some ⟨R,0,none⟩) m m))(hm:0<m)(a:m≤65536)(hf:f<m)(hi:i≤65536) :
  Calls prog 101 #[.pointer (some ⟨B,0,none⟩),.int .i64 i] W λe w'=>e=.returned (.int .i64 ((f+i) % m:Nat))∧Gr W w':=by
 have b:((m:Int)==0)=false:=qk.2 (by omega);go_enter func101,ntmps101;go_wp2;go_quiet (fail);go_wp2;go_ret;exact⟨by simp,below_drewNm _ _⟩
theorem kF {B R m f i:Nat}{W:World}(c1:W.cell? ⟨B,1,none⟩=some (.int .i64 f))(c3:W.cell? ⟨B,3,none⟩=some (.slice (some ⟨R,0,none⟩) m m))(hm:0<m)(a:m≤65536)(hf:f<m)(hi:i≤65536)(x:Later (Gr W)) :
  Calls prog 101 #[.pointer (some ⟨B,0,none⟩),.int .i64 i] x.w λe w'=>e=.returned (.int .i64 ((f+i) % m:Nat))∧∃y:Later (Gr W),w'=y.w :=
 Calls.later ((nV B R m f i x.w (x.ok.cell c1) (x.ok.cell c3) hm a hf hi).mono λ_ w' ⟨b,c⟩=>⟨b,x.ok.trans c⟩)
theorem tG {B R m f:Nat}{W:World}{max:Nat}{xs:List It}{lv:Value}(h:RgI B R m f W max xs lv) :
  Calls prog 84 #[.pointer (some ⟨B,0,none⟩)] W λe w'=>e=.returned (.int .i64 xs.length)∧W=w':=by
 have c2:=h.c2;clear h;go_enter func84,ntmps84;go_wp2;go_ret;exact⟨rfl,rfl⟩
theorem CP {B R m f:Nat}{W:World}{max:Nat}{xs:List It}{lv:Value}(h:RgI B R m f W max xs lv)(i:Nat)(hi:xs.length≤i) :
  Calls prog 100 #[.pointer (some ⟨B,0,none⟩),.int .i64 i] W λe w'=>e=.returned (.tuple #[it0.V,.bool false])∧Gr W w':=by
 have c2:=h.c2;have c:B<W.heap.size:=ae h.c0;have a:¬(i:Int)<0:=by omega
 have b:(xs.length:Int)≤i:=by omega
 clear h;go_enter func100,ntmps100;go_wp2;refine bodyPost_ret (v:=.tuple #[it0.V,.bool false]) (by simp[results,results100,go_sem,It.V,it0]) rfl ⟨rfl,?_⟩;exact((Gr.refl W).alloc1 _).alloc1 _
theorem tH {B R m f:Nat}{W:World}{max:Nat}{xs:List It}{lv:Value}(h:RgI B R m f W max xs lv)(i:Nat)(hi:i<xs.length) :
  Calls prog 100 #[.pointer (some ⟨B,0,none⟩),.int .i64 i] W λe w'=>e=.returned (.tuple #[xs[i].V,.bool true])∧Gr W w':=by
 have c2:=h.c2;have hn:=h.hn;have Y:B<W.heap.size:=ae h.c0;have A:m≤65536:=qy h.hm h.hM;have r:0<m:=by omega
 have hf:f<m:=by rcases h.hf with e | e <;> omega
 obtain⟨_,rfl⟩:0<m∧lv=.slice (some ⟨R,0,none⟩) m m:=by
  rcases h.hl with e | e
  ·omega
  ·exact e
 have c:=h.row i hi;have F:(f+i) % m<m:=Nat.mod_lt _ r;have s:=qq h;obtain⟨x,O⟩:∃x,xs[i]=x:=⟨_,rfl⟩;rw[O]at c ⊢;obtain⟨p,D⟩:∃p,(f+i) % m=p:=⟨_,rfl⟩;rw[D]at F c;have M:¬(i:Int)<0:=by omega
 have N:¬(xs.length:Int)≤i:=by omega
 have E:=qq D;have l:=qq c;have z:i≤65536:=by omega
 clear h c D;go_enter func100,ntmps100;go_upto_region 4 with(fail);obtain⟨d,a⟩:∃x,W.alloc (.cells #[.int .i64 0,.int .i64 0,.string ⟨#[]⟩] 81)=x:=⟨_,rfl⟩;rw[a];have n:Gr W d:=by rw[←a];exact Gr.alloc _ _
 have H:d.heap.size=W.heap.size+1:=by rw[←a];simp
 have J:d.cell? ⟨W.heap.size,0,none⟩=some (.int .i64 0):=by rw[←a];exact aa _ _ _ 0 _ rfl
 have d1:d.cell? ⟨W.heap.size,1,none⟩=some (.int .i64 0):=by rw[←a];exact aa _ _ _ 1 _ rfl
 have d2:d.cell? ⟨W.heap.size,2,none⟩=some (.string ⟨#[]⟩):=by rw[←a];exact aa _ _ _ 2 _ rfl
 have L:∀o,d.frozen? ⟨W.heap.size,o,none⟩=false:=λo=>by rw[←a];exact World.frozen?_alloc_at _ _ _ _ rfl
 have j:=l.out.gr n;haveI:Nonempty (Later (Gr d)):=⟨⟨d,Gr.refl d⟩⟩;have P:∀x:Later (Gr d),x.w.cell? ⟨B,3,none⟩=some (.slice (some ⟨R,0,none⟩) m m):=λx=>x.ok.cell (n.cell s.out.c3);have S:∀y:Later (Gr d),y.w.cell? ⟨R,p*3,none⟩=some (.int .i64 x.kind):=λy=>y.ok.cell j.k;have I:∀y:Later (Gr d),y.w.cell? ⟨R,p*3+1,none⟩=some (.int .i64 x.op):=λy=>y.ok.cell j.o;have T:∀y:Later (Gr d),y.w.cell? ⟨R,p*3+2,none⟩=some (.string ⟨x.text.toArray⟩):=λy=>y.ok.cell j.t;have b:=kF (R:=R) (m:=m) (n.cell s.out.c1) (n.cell s.out.c3) r A hf z;simp only[E.out]at b;have b:=qq b;clear c2 j;have u:=qq n;refine ak (C:=Gr d) 9 (by kernel_rfl) (by kernel_rfl) (Gr.drew' _) ?_;simp only[List.take_succ_cons,List.take_zero,List.drop_succ_cons,List.drop_zero];repeat (go_big_quiet_step (with_reducible exact b.out _))
 refine wpQuiet_nil ?_;intro U g;have e0:=g.cell J;have e1:=g.cell d1;have e2:=g.cell d2;have X:∀o,U.frozen? ⟨W.heap.size,o,none⟩=false:=λo=>(Below.frozen g (p:=⟨W.heap.size,o,none⟩) (by rw[H];exact Nat.lt_succ_self _)).trans (L o);have q:=qq g;clear P S I T J d1 d2 L g;go_wp2;refine bodyPost_ret (v:=.tuple #[x.V,.bool true]) (by simp[results,results100,go_sem,It.V,e0,e1,e2]) rfl ⟨rfl,?_⟩;exact(((u.out.trans q.out).setCell (p:=⟨W.heap.size,0,none⟩) (qv _) _).setCell (p:=⟨W.heap.size,1,none⟩) (qv _) _).setCell (p:=⟨W.heap.size,2,none⟩) (qv _) _
theorem Aa {B R m f:Nat}{W:World}{max:Nat}{lv:Value}(h:RgI B R m f W max [] lv) :
  Calls prog 76 #[.pointer (some ⟨B,0,none⟩)] W λe w'=>e=.returned (.tuple #[it0.V,.bool false])∧Gr W w':=by
 have h0:=qq (λj (g:Gr W j)=>CP (h.gr g) 0 (qv _));clear h;go_enter func76,ntmps76;go_wp2_with fail;refine(h0.out _ (Gr.alloc _ _)).mono ?_;rintro e i⟨rfl,a⟩;have d:=a.cell (aa W [.int .i64 0,.int .i64 0,.string ⟨#[]⟩] 81 0 _ rfl);have d1:=a.cell (aa W [.int .i64 0,.int .i64 0,.string ⟨#[]⟩] 81 1 _ rfl);have d2:=a.cell (aa W [.int .i64 0,.int .i64 0,.string ⟨#[]⟩] 81 2 _ rfl);have k:∀o,i.frozen? ⟨W.heap.size,o,none⟩=false:=λo=>(Below.frozen a (p:=⟨W.heap.size,o,none⟩) (by simp)).trans (World.frozen?_alloc_at _ _ _ _ rfl);have c:W.heap.size<i.heap.size:=ae d;have b:=qq ((Gr.alloc W _).trans a);clear a;unfold It.V it0;dsimp only;go_wp2;refine bodyPost_ret (v:=.tuple #[.agg #[.int .i64 (0:Nat),.int .i64 0,.string ⟨[].toArray⟩],.bool false]) (by simp[results,results76,go_sem,d,d1,d2,c]) rfl ⟨rfl,?_⟩;exact(((b.out.setCell (p:=⟨W.heap.size,0,none⟩) (qv _) _).setCell (p:=⟨W.heap.size,1,none⟩) (qv _) _).setCell (p:=⟨W.heap.size,2,none⟩) (qv _) _).alloc1 _
theorem RgI.ch {B R m f:Nat}{W b:World}{n:Nat}{xs:List It}{lv:Value}{T:Nat→Prop}(h:RgI B R m f W n xs lv)(c:Ch T W b)(g:¬T B)(l:0<m→¬T R):RgI B R m f b n xs lv:=by
 have cb:∀ {o v},W.cell? ⟨B,o,none⟩=some v→b.cell? ⟨B,o,none⟩=some v:=fun {o v} a=>(c.cell (p:=⟨B,o,none⟩) (ae a) g).trans a;have d:0<m→∀ {o v},W.cell? ⟨R,o,none⟩=some v→b.cell? ⟨R,o,none⟩=some v:=λhm {o v} a=>(c.cell (p:=⟨R,o,none⟩) (ae a) (l hm)).trans a;have e:0<m→∀ {j x},ItC R j W x→ItC R j b x:=λhm {j x} a=>⟨d hm a.k,d hm a.o,d hm a.t⟩;exact⟨cb h.c0,cb h.c1,cb h.c2,cb h.c3,h.hl,λo=>(c.frozen (p:=⟨B,o,none⟩) (show B<W.heap.size from ae h.c0) g).trans (h.fz o),
  λhm o=>(c.frozen (p:=⟨R,o,none⟩) (show R<W.heap.size from(h.all 0 hm).choose_spec.lt) (l hm)).trans (h.fr hm o),h.hn,h.hm,h.hM,h.hf,
  λi hi=>e (by have:=h.hn;omega) (h.row i hi),λj q=>(h.all j q).imp λ_ r=>e (by omega) r,h.ne⟩
theorem RgI.pop {B R m f:Nat}{W W2 p:World}{max:Nat}{a:It}{l:List It}{lv:Value}(h:RgI B R m f W max (a :: l) lv)(d:mj W R f it0=W2)(g:Gr W2 p) :
  RgI B R m ((f+1) % m) ((p.setCell ⟨B,1,none⟩ (.int .i64 ((f+1) % m:Nat))).setCell ⟨B,2,none⟩ (.int .i64 l.length)) max l lv:=by
 have hn:=h.hn;simp only[List.length_cons]at hn;have c:0<m:=by omega
 have hf:f<m:=by rcases h.hf with e | e <;> omega
 have b:=h.ne c;subst d;refine⟨?_,?_,?_,?_,h.hl,λo=>?_,λhm o=>?_,by omega,h.hm,h.hM,.inl (Nat.mod_lt _ c),λi hi=>?_,λj r=>?_,h.ne⟩
 ·exact ac (ac (g.cell (aQ h.c0 b)) (by decide)) (by decide)
 ·exact ac (af (g.cell (aQ h.c1 b))) (by decide)
 ·exact af (ac (g.cell (aQ h.c2 b)) (by decide))
 ·exact ac (ac (g.cell (aQ h.c3 b)) (by decide)) (by decide)
 ·rw[ag,ag];exact(Below.frozen g (by rw[pO];exact(show B<W.heap.size from ae h.c0))).trans (dO.trans (h.fz o))
 ·rw[ag,ag];exact(Below.frozen g (by rw[pO];exact(h.all 0 c).choose_spec.lt)).trans (dO.trans (h.fr hm o))
 ·have s:=h.row (i+1) (by simp;omega);have e:((f+1) % m+i) % m=(f+(i+1)) % m:=by rw[Nat.mod_add_mod,show f+1+i=f+(i+1) by omega]
  rw[e];have n:(f+(i+1)) % m≠f:=by
   intro e2;have t:i+1<m:=(by omega);rcases Nat.lt_or_ge (f+(i+1)) m with d | d
   ·rw[Nat.mod_eq_of_lt d]at e2;omega
   ·rw[Nat.mod_eq_sub_mod d,Nat.mod_eq_of_lt (by omega)]at e2;omega
  exact(((s.putO n it0).gr g).other (Ne.symm b)).other (Ne.symm b)
 ·obtain⟨u,q⟩:=h.all j r;by_cases k:j=f
  ·subst k;exact⟨it0,(((q.put it0).gr g).other (Ne.symm b)).other (Ne.symm b)⟩
  ·exact⟨u,(((q.putO k it0).gr g).other (Ne.symm b)).other (Ne.symm b)⟩
theorem Ab {B R m f:Nat}{W:World}{max:Nat}{a:It}{l:List It}{lv:Value}(h:RgI B R m f W max (a :: l) lv) :
  Calls prog 76 #[.pointer (some ⟨B,0,none⟩)] W λe w'=>e=.returned (.tuple #[a.V,.bool true])∧RgI B R m ((f+1) % m) w' max l lv∧Ch (λk=>k=B∨k=R) W w':=by
 have h0:=qq (λW' (g:Gr W W')=>tH (h.gr g) 0 (Nat.zero_lt_succ _));have Z:=qq h;have hn:=h.hn;simp only[List.length_cons]at hn;have a6:m≤65536:=qy h.hm h.hM;have z:0<m:=by omega
 have hf:f<m:=by rcases h.hf with e | e <;> omega
 obtain⟨_,rfl⟩:0<m∧lv=.slice (some ⟨R,0,none⟩) m m:=by
  rcases h.hl with e | e
  ·omega
  ·exact e
 have H:=h.ne z;clear h;go_enter func76,ntmps76;go_wp2_with fail;refine(h0.out _ (Gr.alloc _ _)).mono ?_;rintro e i⟨rfl,s⟩;have S:=s.cell (aa W [.int .i64 0,.int .i64 0,.string ⟨#[]⟩] 81 0 _ rfl);have d1:=s.cell (aa W [.int .i64 0,.int .i64 0,.string ⟨#[]⟩] 81 1 _ rfl);have d2:=s.cell (aa W [.int .i64 0,.int .i64 0,.string ⟨#[]⟩] 81 2 _ rfl);have J:∀o,i.frozen? ⟨W.heap.size,o,none⟩=false:=λo=>(Below.frozen s (p:=⟨W.heap.size,o,none⟩) (by simp)).trans (World.frozen?_alloc_at _ _ _ _ rfl);have a5:W.heap.size<i.heap.size:=ae S;have L:=qq ((Gr.alloc W _).trans s);have a4:(a :: l)[0]=a:=rfl;unfold It.V;rw[a4];clear s h0;go_upto_region 4 with(fail);obtain⟨q,n⟩:∃x,(i.alloc (.cells #[.int .i64 a.kind,.int .i64 a.op,.string ⟨a.text.toArray⟩] 81)).alloc (.cells #[.int .i64 0,.int .i64 0,.string ⟨#[]⟩] 81)=x:=⟨_,rfl⟩;rw[n];have r:Gr i q:=by rw[←n];exact(Gr.alloc _ _).alloc1 _
 have X:=L.out.trans r;have p0:=r.cell S;have p1:=r.cell d1;have p2:=r.cell d2;have pz:∀o,q.frozen? ⟨W.heap.size,o,none⟩=false:=λo=>(Below.frozen r (p:=⟨W.heap.size,o,none⟩) a5).trans (J o);have a0:q.cell? ⟨i.heap.size,0,none⟩=some (.int .i64 a.kind):=by rw[←n];exact(Gr.alloc _ _).cell (aa _ _ _ 0 _ rfl)
 have a1:q.cell? ⟨i.heap.size,1,none⟩=some (.int .i64 a.op):=by rw[←n];exact(Gr.alloc _ _).cell (aa _ _ _ 1 _ rfl)
 have a2:q.cell? ⟨i.heap.size,2,none⟩=some (.string ⟨a.text.toArray⟩):=by rw[←n];exact(Gr.alloc _ _).cell (aa _ _ _ 2 _ rfl)
 have n0:q.cell? ⟨i.heap.size+1,0,none⟩=some (.int .i64 0):=by rw[←n];simp[go_sem]
 have n1:q.cell? ⟨i.heap.size+1,1,none⟩=some (.int .i64 0):=by rw[←n];simp[go_sem]
 have n2:q.cell? ⟨i.heap.size+1,2,none⟩=some (.string ⟨#[]⟩):=by rw[←n];simp[go_sem]
 have N:=Z.out.gr X;have a3:=qq N;have b7:R<W.heap.size:=(Z.out.all 0 z).choose_spec.lt;have b6:B<W.heap.size:=ae Z.out.c0;have M:=qq X;have c1:=N.c1;have c3:=N.c3;haveI:Nonempty (Later (Gr q)):=⟨⟨q,Gr.refl q⟩⟩;have t1:∀x:Later (Gr q),x.w.cell? ⟨B,1,none⟩=some (.int .i64 f):=λx=>x.ok.cell c1;have t3:∀x:Later (Gr q),x.w.cell? ⟨B,3,none⟩=some (.slice (some ⟨R,0,none⟩) m m):=λx=>x.ok.cell c3;have a8:∀x:Later (Gr q),x.w.cell? ⟨i.heap.size+1,0,none⟩=some (.int .i64 0):=λx=>x.ok.cell n0;have a9:∀x:Later (Gr q),x.w.cell? ⟨i.heap.size+1,1,none⟩=some (.int .i64 0):=λx=>x.ok.cell n1;have b3:∀x:Later (Gr q),x.w.cell? ⟨i.heap.size+1,2,none⟩=some (.string ⟨#[]⟩):=λx=>x.ok.cell n2;clear N n r S d1 d2 J X n0 n1 n2;refine ak (C:=Gr q) 10 (by kernel_rfl) (by kernel_rfl) (Gr.drew' _) ?_;simp only[List.take_succ_cons,List.take_zero,List.drop_succ_cons,List.drop_zero];repeat (go_big_quiet_step (fail))
 refine wpQuiet_nil ?_;intro d c;have F:=qq (a3.out.gr c);obtain⟨u,O⟩:=F.out.all f hf;have u0:=O.k;have u1:=O.o;have u2:=O.t;have U:∀o,d.frozen? ⟨R,o,none⟩=false:=F.out.fr z;have hg:=qq (M.out.trans c);have q0:=c.cell p0;have q1:=c.cell p1;have q2:=c.cell p2;have qz:∀o,d.frozen? ⟨W.heap.size,o,none⟩=false:=λo=>(Below.frozen c (p:=⟨W.heap.size,o,none⟩) (show W.heap.size<q.heap.size from ae p0)).trans (pz o);have b0:=c.cell a0;have b1:=c.cell a1;have b2:=c.cell a2;clear t1 t3 a8 a9 b3 c c1 c3 p0 p1 p2 pz a0 a1 a2 O;have a7:(l.length:Int)+1 - 1=l.length:=by omega
 go_upto_region 5 with(fail);obtain⟨W2,b⟩:∃x,mj d R f it0=x:=⟨_,rfl⟩;have D:((d.setCell ⟨R,f*3,none⟩ (.int .i64 0)).setCell ⟨R,f*3+1,none⟩ (.int .i64 0)).setCell ⟨R,f*3+2,none⟩ (.string ⟨#[]⟩)=W2:=b;rw[D];have d1:W2.cell? ⟨B,1,none⟩=some (.int .i64 f):=b▸aQ F.out.c1 H;have d2:W2.cell? ⟨B,2,none⟩=some (.int .i64 ((l.length:Int)+1)):=b▸aQ F.out.c2 H;have d3:W2.cell? ⟨B,3,none⟩=some (.slice (some ⟨R,0,none⟩) m m):=b▸aQ F.out.c3 H;have J:∀o,W2.frozen? ⟨B,o,none⟩=false:=λo=>b▸dO.trans (F.out.fz o);have I:R≠i.heap.size:=by omega
 have P:R≠W.heap.size:=by omega
 have wB:W.heap.size≠B:=by omega
 have b9:i.heap.size≠B:=by omega
 have r0:W2.cell? ⟨W.heap.size,0,none⟩=some (.int .i64 0):=b▸aQ q0 P;have r1:W2.cell? ⟨W.heap.size,1,none⟩=some (.int .i64 0):=b▸aQ q1 P;have r2:W2.cell? ⟨W.heap.size,2,none⟩=some (.string ⟨#[]⟩):=b▸aQ q2 P;have rz:∀o,W2.frozen? ⟨W.heap.size,o,none⟩=false:=λo=>b▸dO.trans (qz o);have s0:W2.cell? ⟨i.heap.size,0,none⟩=some (.int .i64 a.kind):=b▸aQ b0 I;have s1:W2.cell? ⟨i.heap.size,1,none⟩=some (.int .i64 a.op):=b▸aQ b1 I;have s2:W2.cell? ⟨i.heap.size,2,none⟩=some (.string ⟨a.text.toArray⟩):=b▸aQ b2 I;have A:=qq b;have dR:=qq (show ∀w':World,(w'.cell? ⟨B,1,none⟩=some (.int .i64 f)∧w'.cell? ⟨B,3,none⟩=some (.slice (some ⟨R,0,none⟩) m m))→Calls prog 101 #[.pointer (some ⟨B,0,none⟩),.int .i64 1] w' λe d=>e=.returned (.int .i64 ((f+1) % m:Nat))∧Gr w' d from
  λw' hw=>nV B R m f 1 w' hw.1 hw.2 z a6 hf (by omega))
 have dZ:=qq (show ∀d,Gr W2 d→∀o,d.frozen? ⟨B,o,none⟩=false from λd c o=>(Below.frozen c (show B<W2.heap.size from ae d1)).trans (J o));have aR:=qq (show ∀d,Gr W2 d→(d.cell? ⟨W.heap.size,0,none⟩=some (.int .i64 0)∧d.cell? ⟨W.heap.size,1,none⟩=some (.int .i64 0)∧d.cell? ⟨W.heap.size,2,none⟩=some (.string ⟨#[]⟩)∧(∀o,d.frozen? ⟨W.heap.size,o,none⟩=false)) ∧
   (d.cell? ⟨i.heap.size,0,none⟩=some (.int .i64 a.kind)∧d.cell? ⟨i.heap.size,1,none⟩=some (.int .i64 a.op)∧d.cell? ⟨i.heap.size,2,none⟩=some (.string ⟨a.text.toArray⟩))from
  λd g=>⟨⟨g.cell r0,g.cell r1,g.cell r2,λo=>(Below.frozen g (p:=⟨W.heap.size,o,none⟩) (show W.heap.size<W2.heap.size from ae r0)).trans (rz o)⟩,g.cell s0,g.cell s1,g.cell s2⟩)
 clear b D J q0 q1 q2 qz b0 b1 b2 u0 u1 u2 U r0 r1 r2 rz s0 s1 s2;have b8:(l.length:Int)<65537:=by omega
 have b4:IntKind.i64.wrap ((l.length:Int)+1 - 1)=l.length:=by rw[a7];exact IntWalk.i64_in _ (by omega)
 have b5:IntKind.i64.wrap (l.length:Int)=l.length:=IntWalk.i64_in _ (by omega);go_region_law (first | (go_simp;go_at_call 101;refine(dR.out W2.drew ⟨d1,d3⟩).mono ?_;rintro e wd ⟨rfl,Y⟩;have y:Gr W2 wd:=Gr.trans (Gr.drew (Gr.refl _)) Y;have E:=qq y;replace d1:=Y.cell d1;replace d2:=Y.cell d2;have z1:=dZ.out _ y 1;have z2:=dZ.out _ y 2));all_goals
  obtain⟨⟨y0,y1,y2,yz⟩,x0,x1,x2⟩:=aR.out _ y;go_wp2;refine bodyPost_ret (v:=.tuple #[a.V,.bool true]) (by simp[results,results76,go_sem,It.V,y0,y1,y2,wB]) rfl ⟨rfl,?_,?_⟩
  ·have hp:=F.out.pop A.out E.out;refine hp.ch (T:=λk=>k=W.heap.size) (((Ch.setCell (T:=λk=>k=W.heap.size) _ (a:=⟨W.heap.size,0,none⟩) rfl _).trans (Ch.setCell (T:=λk=>k=W.heap.size) _ (a:=⟨W.heap.size,1,none⟩) rfl _)).trans (Ch.setCell (T:=λk=>k=W.heap.size) _ (a:=⟨W.heap.size,2,none⟩) rfl _)) (λe=>wB e.symm) (λ_ e=>P e)
  ·have k1:Ch (λk=>k=B∨k=R) W wd:=(hg.out.to_ch _).trans ((A.out▸rg d it0 (.inr rfl):Ch (λk=>k=B∨k=R) d W2).trans (E.out.to_ch _));have k2:=k1.trans ((Ch.setCell (T:=λk=>k=B∨k=R) wd (a:=⟨B,1,none⟩) (.inl rfl) (.int .i64 ((f+1) % m:Nat))).trans (Ch.setCell (T:=λk=>k=B∨k=R) _ (a:=⟨B,2,none⟩) (.inl rfl) (.int .i64 l.length)));exact k2.drop_new (((Ch.setCell (T:=λk=>k=W.heap.size) _ (a:=⟨W.heap.size,0,none⟩) rfl _).trans (Ch.setCell (T:=λk=>k=W.heap.size) _ (a:=⟨W.heap.size,1,none⟩) rfl _)).trans (Ch.setCell (T:=λk=>k=W.heap.size) _ (a:=⟨W.heap.size,2,none⟩) rfl _)) (λj hj=>.inr (Nat.le_of_eq (show j=W.heap.size from hj).symm))
