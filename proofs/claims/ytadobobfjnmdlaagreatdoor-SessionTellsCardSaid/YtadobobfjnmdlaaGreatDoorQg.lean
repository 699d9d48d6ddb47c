/-
  Rings of what waits in memory: all that are there. (Begun from XQc by mk_ri2.py.)
-/
import Derived.Test.YtadobobfjnmdlaaGreatDoorQd
set_option linter.unnecessarySimpa false
set_option linter.unusedVariables false
set_option linter.unusedSimpArgs false
set_option maxHeartbeats 16000000
set_option maxRecDepth 100000
open Go.Proofs.Tryz
namespace Go.Proofs.YtadobobfjnmdlaaGreatDoor
open Go.RowKit Go.Shelf
attribute [local go_sem] Oper.semAt_some
def Ad (x:It):List Value:=[.int .i64 x.kind,.int .i64 x.op,.string ⟨x.text.toArray⟩]
theorem tI:(prog.info? 81).map (λi=>(i.zero,i.size,i.bytes))=some (some (.agg #[.int .i64 0,.int .i64 0,.string ⟨#[]⟩]),3,32):=by kernel_rfl
def Fk (x:Nat×It):Array Value:=#[.int .i64 x.1,x.2.V]
theorem CQ (B:Nat)(W:World) :
  Calls prog 124 #[.pointer (some ⟨B,0,none⟩)] W λe w'=>e=.returned (.func (.func 152) #[] #[.pointer (some ⟨W.heap.size,0,none⟩)])∧W.alloc (.cells #[.pointer (some ⟨B,0,none⟩)] 107)=w':=by
 go_enter func124,ntmps124;go_wp2;go_ret;exact⟨rfl,rfl⟩
theorem Ae {B R m f:Nat}{W0:World}{max:Nat}{xs:List It}{lv:Value}(X:Nat)(hv:W0.cell? ⟨X,0,none⟩=some (.pointer (some ⟨B,0,none⟩))) :
  xT prog 152 #[.pointer (some ⟨X,0,none⟩)] Fk (fW 0 xs) (λk=>k=X) (λA=>RgI B R m f A max xs lv) W0:=by
 intro W l J Jx U d0 hT hU hJ a2 a1 hY h0;have Z:W.cell? ⟨X,0,none⟩=some (.pointer (some ⟨B,0,none⟩)):=(World.cell?_of_block (hT X rfl)).trans hv;have n:=a1 _ _ h0;have c9:xs.length≤65536:=qy n.hn (qy n.hm n.hM);obtain⟨i0,hi,b6,b7,b8⟩:=info_parts tI;have a0:=qq hJ;have c3:=qq a2;have b4:=qq hY;have b3:=qq hU;have b1:=qq h0;have M:=qq n;have b0:=qq Z;clear hJ a2 hY hU h0 hT hv a1 n;have c7:∀f,Fence.wide.fn f:=λ_=>trivial;have c6:Fence.wide.depth=none:=rfl;refine callsIn_of_wp func152 rfl trivial ?_ rfl;simp only[ntmps152,List.size_toArray,List.length_cons,List.length_nil,Nat.reduceAdd,Nat.reduceSub,Array.replicate_succ,Array.replicate_zero,List.push_toArray,List.append_toArray,List.nil_append,List.cons_append];gi_wp2_with (fail);refine(callsIn_wide.2 (tG M.out)).mono ?_;rintro e w1⟨rfl,rfl⟩;clear Z;gi_wp2;gi_loopw [3,11] (λvl i wr=>∃k:Nat,k≤xs.length∧i=.int .i64 k∧wr.ownsRow W.heap.size 81 3 vl k (dF Ad (xs.take k))∧Gr W wr) (λ_ i _=>xs.length - (intOf i).toNat)
 case atStart=>exact⟨0,qx _,rfl,World.ownsRow_nil _ _ _ _,Gr.refl _⟩
 case round =>
  obtain⟨k,hk,rfl,y,hg⟩:=hrel;have Z:=hg.cell b0.out;obtain⟨pv,cv,rfl⟩:=aJ y;have b:=qq y;have r:=qq hg;clear y hg;by_cases a:k<xs.length
  ·gi_wp2_with (fail);refine(callsIn_wide.2 (tH (M.out.gr r.out) k a)).mono ?_;rintro e T⟨rfl,d⟩;obtain⟨x,S⟩:∃x,xs[k]=x:=⟨_,rfl⟩;rw[S];have L:=qq S;clear S;have a7:∀O O2,((T.alloc O).alloc O2).ownsRow W.heap.size 81 3 (.slice pv k cv) k (dF Ad (xs.take k)):=λO O2=>World.ownsRow.alloc (World.ownsRow.alloc (dG b.out d) O) O2;have c5:=qy (Below.size r.out) (Below.size d);have k2:∀j u,[Value.int .i64 x.kind,.int .i64 x.op,.string ⟨x.text.toArray⟩][j]?=some u→((T.alloc (.cells #[.int .i64 x.kind,.int .i64 x.op,.string ⟨x.text.toArray⟩] 81)).alloc (.cells #[.int .i64 x.kind,.int .i64 x.op,.string ⟨x.text.toArray⟩] 81)).cell? ((⟨T.heap.size+1,0,none⟩:Addr).add j)=some u:=λj u P=>by
    have:=lD (T.alloc (.cells #[.int .i64 x.kind,.int .i64 x.op,.string ⟨x.text.toArray⟩] 81)) [.int .i64 x.kind,.int .i64 x.op,.string ⟨x.text.toArray⟩] 81 j u P
    rwa [World.size_alloc]at this
   have k3:∀u∈[Value.int .i64 x.kind,.int .i64 x.op,.string ⟨x.text.toArray⟩],u.oneCell'=true:=(by simp[Value.oneCell']);have k4:k+1≤maxLen:=(by unfold maxLen;omega);have k5:(k+1)*32≤140737488355328:=(by omega);have k6:W.heap.size≤((T.alloc (.cells #[.int .i64 x.kind,.int .i64 x.op,.string ⟨x.text.toArray⟩] 81)).alloc (.cells #[.int .i64 x.kind,.int .i64 x.op,.string ⟨x.text.toArray⟩] 81)).heap.size:=(by simp;omega);have a5:=qq (r.out.trans d);unfold It.V;clear Z d;gi_wp2_with (gi_at_builtin;refine wpListIn_append_own _ rfl _ _ 142 rfl W.heap.size 81 i0 (.agg #[.int .i64 0,.int .i64 0,.string ⟨#[]⟩]) 3 32 underlying142 hi b6 b7 b8 rfl (by decide) _ _ _ rfl (a7 _ _) ⟨T.heap.size+1,0,none⟩ 1 1 [.int .i64 x.kind,.int .i64 x.op,.string ⟨x.text.toArray⟩] rfl rfl k2 k3 k4 k5 k6 ?_);intro b9 w3 z c _;have C:∃j:Nat,j≤xs.length∧Value.int .i64 ((k:Int)+1)=.int .i64 j∧w3.ownsRow W.heap.size 81 3 b9 j (dF Ad (xs.take j))∧Gr W w3:=by
    refine⟨k+1,by omega,by simp,?_,?_⟩
    ·rw[List.take_succ_eq_append_getElem a,nP,l4,L.out];exact z
    ·refine((a5.out.alloc1 _).alloc1 _).ch (dx c) (λj P=>?_);exact((b.out.lt j P).1)
   have H:=qq C;clear C z c k2 k3 k4 k5 k6 a7;gi_wp2;go_roundw
   case rel=>exact H.out
   case measure=>simp[intOf];omega
  ·obtain rfl:k=xs.length:=(by omega);have I:=b.out;rw[List.take_length]at I;have c4:=qq I;have a8:=qq (Below.size r.out);have b2:=qq (a0.out _ _ _ b1.out (r.out.to_ch _));have q:∀k (h:k<xs.length),∃g,pv=some ⟨g,0,none⟩∧W.heap.size≤g∧g<wr.heap.size∧ItC g k wr xs[k]:=λk h=>by
    obtain⟨g,cap,e,h1,h2,h3⟩:=kD I (by omega);cases e;refine⟨g,rfl,h1,h2,?_⟩;have e0:=ew (f:=Ad) (k:=3) (λ_=>rfl) xs k 0 h (by decide);have e1:=ew (f:=Ad) (k:=3) (λ_=>rfl) xs k 1 h (by decide);have e2:=ew (f:=Ad) (k:=3) (λ_=>rfl) xs k 2 h (by decide);exact⟨(h3 (k*3) (by omega)).trans e0,(h3 (k*3+1) (by omega)).trans e1,(h3 (k*3+2) (by omega)).trans e2⟩
   have F:=qq q;clear I q Z;gi_wp2;gi_loopw [27] (λi w'=>∃k:Nat,k≤xs.length∧i=.int .i64 k∧J ((fW 0 xs).take k) w'∧W.heap.size≤w'.heap.size∧Ch (λj=>j<W.heap.size) wr w') (λi _=>xs.length - (intOf i).toNat)
   case atStart=>exact⟨0,qx _,rfl,b2.out,a8.out,Ch.refl _ _⟩
   case round =>
    obtain⟨k,hk,rfl,P,a9,a3⟩:=hrel;have a6:=qq P;have N:=qq a3;clear P a3;by_cases a:k<xs.length
    ·obtain⟨g,rfl,c8,d,s⟩:=F.out k a;obtain⟨x,S⟩:∃x,xs[k]=x:=⟨_,rfl⟩;have keep:∀ {o v},_→wr.cell? ⟨g,o,none⟩=some v:=fun {o v} hh=>(N.out.cell (p:=⟨g,o,none⟩) d (by(try dsimp only);omega)).trans hh;rw[S]at s;have c0:=keep s.k;have c1:=keep s.o;have c2:=keep s.t;have Y:=Gr.alloc wr (.cells #[.int .i64 x.kind,.int .i64 x.op,.string ⟨x.text.toArray⟩] 81);have D:=b4.out _ _ _ _ (gI xs k a) (qy a9 (Below.size Y)) (a0.out _ _ _ a6.out (Y.to_ch _));rw[S]at D;have L:=qq S;unfold Fk It.V at D;dsimp only at D;obtain⟨fn,tmps,assign,body,hy,hR⟩:=D;clear s keep S;gi_wp2;refine hR.mono ?_;rintro e A (⟨rfl,w,E⟩ | ⟨rfl,w,E⟩)
     ·rw[←L.out,pn xs k a]at w;have b5:=qq w;have hA:=qq (qy a9 (qy (Below.size Y) E.size));have a4:=qq (N.out.trans ((Y.to_ch _).trans (E.mono (λj P=>(b3.out j P).1))));clear c0 c1 c2 Y E w hy hR;gi_wp2;go_roundw
      case rel=>exact⟨k+1,by omega,by simp,b5.out,hA.out,a4.out⟩
      case measure=>simp[intOf];omega
     ·gi_wp2;refine bodyPost_ret (results_none rfl _ _ _) rfl ?_;exact⟨rfl,.inr ⟨_,⟨(fW 0 xs).drop (k+1),by rw[←L.out,List.append_assoc];exact(gI xs k a).symm⟩,w⟩⟩
    ·obtain rfl:k=xs.length:=(by omega);gi_wp2;go_end0;refine⟨rfl,.inl ?_⟩;have:=a6.out
     rwa [List.take_of_length_le (by rw[eJ];exact qv _)]at this
structure GrowI (n:Nat)(W wx:World)(V R':Nat):Prop where
 gr:Gr W wx
 vl:W.heap.size≤V
 rl:W.heap.size≤R'
 vr:V≠R'
 vc:wx.cell? ⟨V,0,none⟩=some (.slice (some ⟨R',0,none⟩) n n)
 rc:∀j,j<n→ItC R' j wx it0
 rz:∀o,wx.frozen? ⟨R',o,none⟩=false
 rs:R'<wx.heap.size
theorem GrowI.drew {n V b:Nat}{W c:World}(h:GrowI n W c V b):GrowI n W c.drew V b:=⟨h.gr.drew,h.vl,h.rl,h.vr,h.vc,λj a=>⟨(h.rc j a).k,(h.rc j a).o,(h.rc j a).t⟩,h.rz,h.rs⟩
theorem pP (W:World)(n:Nat)(t:TypeId)(j:Nat)(h:j<n):ItC W.heap.size j (W.alloc (.cells (madeCells #[.int .i64 0,.int .i64 0,.string ⟨#[]⟩] (n*3)) t)) it0:=by
 have key:∀k,k<3→(W.alloc (.cells (madeCells #[.int .i64 0,.int .i64 0,.string ⟨#[]⟩] (n*3)) t)).cell? ⟨W.heap.size,j*3+k,none⟩=#[Value.int .i64 0,.int .i64 0,.string ⟨#[]⟩][k]?:=λk b=>by
  have a:j*3+k<n*3:=by omega
  have:=aa W (madeCells #[.int .i64 0,.int .i64 0,.string ⟨#[]⟩] (n*3)).toList t (j*3+k) (#[Value.int .i64 0,.int .i64 0,.string ⟨#[]⟩][(j*3+k) % 3]!) (by
   simp[madeCells,a])
  rw[show(j*3+k) % 3=k by omega]at this;rw[Array.toArray_toList]at this;rw[this]
  match k,b with
  | 0,_=>rfl
  | 1,_=>rfl
  | 2,_=>rfl
 exact⟨key 0 (by decide),key 1 (by decide),key 2 (by decide)⟩
theorem Fm (W:World)(n:Nat)(t b:TypeId):GrowI n W ((W.alloc (.cells (madeCells #[.int .i64 0,.int .i64 0,.string ⟨#[]⟩] (n*3)) t)).alloc (.cells #[.slice (some ⟨W.heap.size,0,none⟩) n n] b)) (W.heap.size+1) W.heap.size:=by
 refine⟨((Gr.refl W).alloc1 _).alloc1 _,by omega,qv _,by omega,by simp[go_sem],λj a=>?_,λo=>by simp[go_sem],by simp;omega⟩;exact(pP W n t j a).gr (Gr.alloc _ _)
theorem Fo (W:World)(n:Nat)(t a:TypeId):GrowI n W ((W.alloc (.cells #[.slice (some ⟨W.heap.size+1,0,none⟩) n n] a)).alloc (.cells (madeCells #[.int .i64 0,.int .i64 0,.string ⟨#[]⟩] (n*3)) t)) W.heap.size (W.heap.size+1):=by
 refine⟨((Gr.refl W).alloc1 _).alloc1 _,qv _,by omega,by omega,by simp[go_sem],λj b=>?_,λo=>by simp[go_sem],by simp⟩;have h:=pP (W.alloc (.cells #[.slice (some ⟨W.heap.size+1,0,none⟩) n n] a)) n t j b
 rwa [World.size_alloc]at h
theorem ItC.ch {b j:Nat}{T:Nat→Prop}{W d:World}{x:It}(h:ItC b j W x)(c:Ch T W d)(a:¬T b):ItC b j d x :=
 ⟨(c.cell (p:=⟨b,j*3,none⟩) h.lt a).trans h.k,(c.cell (p:=⟨b,j*3+1,none⟩) h.lt a).trans h.o,(c.cell (p:=⟨b,j*3+2,none⟩) h.lt a).trans h.t⟩
theorem Af {B R m f:Nat}{W:World}{L:Nat}{xs:List It}{lv:Value}(h:RgI B R m f W L xs lv)(hx:xs.length=m)(e8:m<L) :
  Calls prog 102 #[.pointer (some ⟨B,0,none⟩)] W λe w'=>e=.returned (.tuple #[])∧∃c,W.heap.size≤c∧RgI B c (gsz m L) 0 w' L xs (.slice (some ⟨c,0,none⟩) (gsz m L) (gsz m L))∧Ch (λk=>k=B) W w':=by
 have h':=qq h;have e9:m≤65536:=qy h.hm h.hM;have c4:=h.hM;have c0:=h.c0;have c3:=h.c3;obtain⟨p,rfl⟩:∃p,lv=.slice p m m:=by
  rcases h.hl with⟨e,e2⟩ | ⟨_,e2⟩
  ·exact⟨none,by rw[e2,e]⟩
  ·exact⟨_,e2⟩
 obtain⟨i0,hi,b3,b4,b5⟩:=info_parts tI;obtain⟨n,hn⟩:∃n,gsz m L=n:=⟨_,rfl⟩;have S:m<n∧0<n∧n≤L:=by rw[←hn];unfold gsz;omega
 have c8:min (max (IntKind.i64.wrap (2*(m:Int))) 8) (L:Int)=(n:Int):=by
  rw[IntWalk.i64_in _ (by omega),←hn];unfold gsz;omega
 have c7:∀w:World,(Instr.makeSlice 142 (.int .i64 n) (.int .i64 n)).run prog w=.ok (.slice (some ⟨w.heap.size,0,none⟩) n n) (w.alloc (.cells (madeCells #[.int .i64 0,.int .i64 0,.string ⟨#[]⟩] (n*3)) 81)):=λw=>by
  have hr:=run_make (P:=prog) w 142 81 i0 _ underlying142 hi b3 .i64 .i64 n n (by omega) (Int.le_refl _) (by rw[b5];omega) (by omega);simp only[Int.toNat_natCast]at hr;rw[hr,b4];rfl
 clear h hi b3 b4 b5;have a7:B<W.heap.size:=ae c0;have a8:B<W.heap.size+1:=by omega
 rw[hn];refine(callsIn_wide (n:=0)).1 ?_;refine callsIn_of_wp_marks func102 rfl trivial ?_ rfl;simp only[ntmps102,List.size_toArray,List.length_cons,List.length_nil,Nat.reduceAdd,Nat.reduceSub,Array.replicate_succ,Array.replicate_zero,List.push_toArray,List.append_toArray,List.nil_append,List.cons_append];refine(wpIn_wide (n:=0)).2 ?_;go_upto_region 0 with(fail);go_cut [2]from 5 to 17 (λv wx=>∃V c,v=.pointer (some ⟨V,0,none⟩)∧GrowI n W wx V c)
 case first =>
  refine ji ?_;go_region_law (fail);all_goals
   go_wp2;go_meet;first
    | exact⟨_,_,rfl,(Fm W n _ _).drew⟩
    | exact⟨_,_,rfl,(Fo W n _ _).drew⟩
 case rest =>
  obtain⟨V,c,rfl,hF⟩:=hcut;have d9:=qq (h'.out.gr hF.gr);have b:=qq hF;clear c0 c3 c7 hF a7 a8 c8;go_wp2_with (go_at_call 124;refine(CQ B _).mono ?_;rintro e w' ⟨rfl,rfl⟩);obtain⟨Z,J⟩:∃x,wc.alloc (.cells #[.pointer (some ⟨B,0,none⟩)] 107)=x:=⟨_,rfl⟩;rw[J];have U:=qq (show Z.heap.size=wc.heap.size+1 by rw[←J];simp);have c5:Z.cell? ⟨wc.heap.size,0,none⟩=some (.pointer (some ⟨B,0,none⟩)):=by rw[←J];simp[go_sem]
  have H:Gr wc Z:=by rw[←J];exact Gr.alloc _ _
  have r:=qq (show GrowI n W Z V c from⟨b.out.gr.trans H,b.out.vl,b.out.rl,b.out.vr,H.cell b.out.vc,λj d=>(b.out.rc j d).gr H,λo=>(Below.frozen H (p:=⟨c,o,none⟩) b.out.rs).trans (b.out.rz o),qj b.out.rs (Below.size H)⟩);clear J;refine(wpIn_wide (n:=0)).1 ?_;refine iJ (gf:=152) rfl (enters_of func152 (by kernel_rfl) rfl) (Ae (B:=B) (R:=R) (m:=m) (f:=f) (max:=L) (xs:=xs) (lv:=.slice p m m) wc.heap.size c5) (qv _) (λk O=>⟨by rw[U.out];(try dsimp only at O);omega,rfl⟩) (λ_=>rfl)
   (λq A=>Gr W A∧Z.heap.size≤A.heap.size∧A.cell? ⟨V,0,none⟩=some (.slice (some ⟨c,0,none⟩) n n)∧(∀o,A.frozen? ⟨c,o,none⟩=false)∧(∀j,j<n→∃u:It,ItC c j A u)∧∀j (d:j<xs.length),j<q.length→ItC c j A xs[j])
   (λ_ _ _=>False) (λk=>k=c)
   (λk O=>⟨by have:=r.out.rs;(try dsimp only at O);omega,by have:=b.out.rs;(try dsimp only at O ⊢);omega⟩) ?hI (λ_ _ _ _ h _=>h.elim) (λ_ _ h=>h'.out.gr h.1) ⟨r.out.gr,qv _,r.out.vc,r.out.rz,λj d=>⟨it0,r.out.rc j d⟩,λj _ h=>absurd h (Nat.not_lt_zero _)⟩ ?round ?done (λ_ _ _ _ _ _ h _=>h.elim)
  case hI =>
   rintro q A B'⟨g,k0,k1,k2,k3,k4⟩ E;have e2:=U.out;have eW:=Below.size b.out.gr;have hr:¬(c=wc.heap.size∨Z.heap.size≤c):=(by have:=b.out.rs;omega);have hv:¬(V=wc.heap.size∨Z.heap.size≤V):=(by have:V<wc.heap.size:=ae b.out.vc;omega);have b1:c<A.heap.size:=(by have:=r.out.rs;omega);exact⟨g.ch E (λk O=>by omega),qy k0 E.size,(E.cell (p:=⟨V,0,none⟩) (ae k1) hv).trans k1,λo=>(E.frozen (p:=⟨c,o,none⟩) b1 hr).trans (k2 o),
    λj d=>(k3 j d).imp λu Y=>Y.ch E hr,λj d h=>(k4 j d h).ch E hr⟩
  case round =>
   intro l' q x rest A e7 d5 b2 hI;obtain⟨O,rfl⟩:=xB b2;obtain⟨g,k0,k1,k2,k3,k4⟩:=hI;obtain⟨y,hy⟩:∃y,xs[q.length]=y:=⟨_,rfl⟩;obtain⟨k,a3⟩:∃k,q.length=k:=⟨_,rfl⟩;have c6:k<n:=(by omega);have eW:=Below.size b.out.gr;have e2:=U.out;have b1:c<wc.heap.size:=b.out.rs;have f1:V<wc.heap.size:=ae b.out.vc;have C:¬(c=l'):=(by omega);have b0:¬(V=l'):=(by omega);have d0:=b.out.vr;have a0:c<A.heap.size:=(by omega);have a2:=b.out.rl;have e5:W.heap.size≤l':=(by omega);obtain⟨u,Y⟩:=k3 k c6;rw[hy];rw[a3];unfold Fk It.V;have b7:=qq (And.intro g (And.intro k0 (And.intro k1 (And.intro k2 (And.intro k3 k4)))));have d3:=qq (show ∀h:q.length<xs.length,xs[q.length]=y from λ_=>hy);have z:=qq a3;have e6:=qq O;clear b2 k0 k2 k3 k4 a3;gi_wp2;refine⟨Ch.alloc _ _ _,λs F=>?_⟩;have a4:¬(A.heap.size=l'):=(by omega);have y0:s.cell? ⟨A.heap.size,0,none⟩=some (.int .i64 y.kind):=(F.cell (p:=⟨A.heap.size,0,none⟩) (by simp) a4).trans (aa _ _ _ 0 _ rfl);have y1:s.cell? ⟨A.heap.size,1,none⟩=some (.int .i64 y.op):=(F.cell (p:=⟨A.heap.size,1,none⟩) (by simp) a4).trans (aa _ _ _ 1 _ rfl);have y2:s.cell? ⟨A.heap.size,2,none⟩=some (.string ⟨y.text.toArray⟩):=(F.cell (p:=⟨A.heap.size,2,none⟩) (by simp) a4).trans (aa _ _ _ 2 _ rfl);have l:Ch (λx=>x=l') A s:=(Ch.alloc _ _ _).trans F;obtain⟨g,k0,k1,k2,k3,k4⟩:=b7.out;have d1:s.cell? ⟨V,0,none⟩=some (.slice (some ⟨c,0,none⟩) n n):=(l.cell (p:=⟨V,0,none⟩) (ae k1) b0).trans k1;have d2:ItC c k s u:=Y.ch l C;have d6:=d2.k;have d7:=d2.o;have d8:=d2.t;have dz:∀o,s.frozen? ⟨c,o,none⟩=false:=λo=>(l.frozen (p:=⟨c,o,none⟩) a0 C).trans (k2 o);have hd:=qq (show(Gr W s∧Z.heap.size≤s.heap.size)∧((∀j,j<n→∃u:It,ItC c j s u)∧∀j (d:j<xs.length),j<q.length→ItC c j s xs[j])from
    ⟨⟨g.ch l (λk O=>by(try dsimp only at O);omega),qy k0 l.size⟩,λj d=>(k3 j d).imp λu Y=>Y.ch l C,λj d h=>(k4 j d h).ch l C⟩)
   have a5:=qq d2;clear g k0 k1 k2 k3 k4 l F Y d2;gi_wp2;have e0:Ch (λk=>k=c) s (mj s c k y):=rg s y rfl;refine⟨e0,(hd.out.1.1).ch e0 (λj d=>(show j=c from d)▸a2),by rw[World.size_setCell,World.size_setCell,World.size_setCell];exact hd.out.1.2,aQ d1 (λe=>d0 e.symm),λo=>by rw[ag,ag,ag];exact dz o,λj d=>?_,λj d h=>?_⟩
   ·by_cases I:j=k
    ·subst I;exact⟨y,a5.out.put y⟩
    ·obtain⟨u2,c9⟩:=hd.out.2.1 j d;exact⟨u2,c9.putO I y⟩
   ·rw[qw,List.length_singleton,z.out]at h;by_cases I:j=k
    ·subst I;have e:=d3.out (by rw[z.out];exact d);simp only[z.out]at e;rw[e];exact a5.out.put y
    ·exact(hd.out.2.2 j d (by rw[z.out];omega)).putO I y
  case done =>
   rintro D A hD⟨g,k0,k1,k2,k3,k4⟩ hK;have hA:=h'.out.gr g;have f0:=b.out.vr;have e3:V<wc.heap.size:=ae b.out.vc;have a7:B<W.heap.size:=ae h'.out.c0;have a2:=b.out.rl;have e4:=b.out.vl;have e1:W.heap.size≤D:=(by have:=U.out;have:=Below.size b.out.gr;omega);have c1:=hA.c1;have c3:=hA.c3;have fz:=hA.fz;have X:=qq (And.intro g (And.intro k2 (And.intro k3 k4)));have a6:=qq hA;have b8:=qq hK;rw[eJ]at k4;have d4:=qq k4;clear hA g k0 k2 k3 k4 hK;go_wp2;have M:D≠B:=(by omega);have b9:((A.setCell ⟨B,3,none⟩ (.slice (some ⟨c,0,none⟩) n n)).setCell ⟨B,1,none⟩ (.int .i64 0)).heap[D]?=some (.deferred (some [])) :=
    (Below.heap_setCell _ ⟨B,1,none⟩ _ _ M).trans ((Below.heap_setCell _ ⟨B,3,none⟩ _ _ M).trans b8.out)
   refine⟨by simp,.inl ⟨_,_,rfl,run_takeDeferred b9,?_⟩⟩;refine⟨.tuple #[],results_none rfl _ _ _,rfl,c,a2,?_,?_⟩
   ·obtain⟨g,k2,k3,_⟩:=X.out;have N:=Ch.putObj (T:=λk=>k=D) ((A.setCell ⟨B,3,none⟩ (.slice (some ⟨c,0,none⟩) n n)).setCell ⟨B,1,none⟩ (.int .i64 0)) rfl (.deferred none);have a9:c≠D:=(by have:=r.out.rs;omega);have a1:c≠B:=(by omega);have cb:∀ {o v},((A.setCell ⟨B,3,none⟩ (.slice (some ⟨c,0,none⟩) n n)).setCell ⟨B,1,none⟩ (.int .i64 0)).cell? ⟨B,o,none⟩=some v→_:=fun {o v} hh=>(N.cell (p:=⟨B,o,none⟩) (ae hh) (λe=>M e.symm)).trans hh;have cr:∀ {j x},ItC c j A x→_:=fun {j x} hh=>((hh.other (B:=B) (o:=3) (v:=.slice (some ⟨c,0,none⟩) n n) a1.symm).other (B:=B) (o:=1) (v:=.int .i64 0) a1.symm).ch N a9;have b6:B<A.heap.size:=ae c1;have a0:c<A.heap.size:=(k3 0 S.2.1).choose_spec.lt;refine⟨cb (ac (ac a6.out.c0 (by decide)) (by decide)),cb (af (ac c1 (by decide))),cb (ac (ac a6.out.c2 (by decide)) (by decide)),cb (ac (af c3) (by decide)),.inr ⟨S.2.1,rfl⟩,λo=>?_,λ_ o=>?_,by omega,S.2.2,c4,.inl S.2.1,λi hi=>?_,λj d=>?_,λ_=>a1⟩
    ·refine(N.frozen (p:=⟨B,o,none⟩) (by simpa using b6) (λe=>M e.symm)).trans ?_;rw[ag,ag];exact fz o
    ·refine(N.frozen (p:=⟨c,o,none⟩) (by simpa using a0) a9).trans ?_;rw[ag,ag];exact k2 o
    ·rw[show(0+i) % n=i by rw[Nat.zero_add];exact Nat.mod_eq_of_lt (by omega)];exact cr (d4.out i hi hi)
    ·exact(k3 j d).imp λu Y=>cr Y
   ·have c1:Ch (λk=>k=B) W ((A.setCell ⟨B,3,none⟩ (.slice (some ⟨c,0,none⟩) n n)).setCell ⟨B,1,none⟩ (.int .i64 0)) :=
     ((X.out.1.to_ch _).trans (Ch.setCell (T:=λk=>k=B) _ (a:=⟨B,3,none⟩) rfl _)).trans (Ch.setCell (T:=λk=>k=B) _ (a:=⟨B,1,none⟩) rfl _)
    exact c1.drop_new (Ch.putObj (T:=λk=>k=D) _ rfl _) (λj d=>.inr (by(try dsimp only at d);omega))
theorem RgI.push {B R m f:Nat}{W q:World}{r:Nat}{xs:List It}{x:It}{lv:Value}(h:RgI B R m f W r xs lv)(t:xs.length<m)(g:Gr (W.setCell ⟨B,2,none⟩ (.int .i64 ((xs.length:Int)+1))) q) :
  RgI B R m f (mj q R ((f+xs.length) % m) x) r (xs++[x]) lv:=by
 have b:0<m:=by omega
 have hf:f<m:=by rcases h.hf with e | e <;> omega
 have a:=h.ne b;refine⟨aQ (g.cell (ac h.c0 (by decide))) a,aQ (g.cell (ac h.c1 (by decide))) a,?_,aQ (g.cell (ac h.c3 (by decide))) a,h.hl,λo=>?_,λhm o=>?_,by simp;omega,h.hm,h.hM,h.hf,λi hi=>?_,λj s=>?_,h.ne⟩
 ·have:=aQ (j:=(f+xs.length) % m) (y:=x) (g.cell (af h.c2)) a;simpa using this
 ·rw[dO];exact(Below.frozen g (by simpa using ae h.c0)).trans (ag.trans (h.fz o))
 ·rw[dO];exact(Below.frozen g (by simpa using(h.all 0 b).choose_spec.lt)).trans (ag.trans (h.fr hm o))
 ·rw[qw,List.length_singleton]at hi;by_cases d:i<xs.length
  ·have e:(xs++[x])[i]=xs[i]:=(by rw[List.getElem_append_left d]);rw[e];have v:=h.row i d;have l:(f+i) % m≠(f+xs.length) % m:=by
    intro e2;rcases Nat.lt_or_ge (f+i) m with n | n
    ·rcases Nat.lt_or_ge (f+xs.length) m with c | c
     ·rw[Nat.mod_eq_of_lt n,Nat.mod_eq_of_lt c]at e2;omega
     ·rw[Nat.mod_eq_of_lt n,Nat.mod_eq_sub_mod c,Nat.mod_eq_of_lt (by omega)]at e2;omega
    ·have c:m≤f+xs.length:=(by omega);rw[Nat.mod_eq_sub_mod n,Nat.mod_eq_of_lt (by omega),Nat.mod_eq_sub_mod c,Nat.mod_eq_of_lt (by omega)]at e2;omega
   exact((v.other a.symm).gr g).putO l x
  ·obtain rfl:i=xs.length:=(by omega);have e:(xs++[x])[xs.length]=x:=(by simp);rw[e];obtain⟨u,p⟩:=h.all ((f+xs.length) % m) (Nat.mod_lt _ b);exact((p.other a.symm).gr g).put x
 ·obtain⟨u,p⟩:=h.all j s;by_cases k:j=(f+xs.length) % m
  ·subst k;exact⟨x,((p.other a.symm).gr g).put x⟩
  ·exact⟨u,((p.other a.symm).gr g).putO k x⟩
theorem vY {B R m f:Nat}{W:World}{a:Nat}{xs:List It}{lv:Value}(x:It)(h:RgI B R m f W a xs lv)(hf:a≤xs.length) :
  Calls prog 80 #[.pointer (some ⟨B,0,none⟩),x.V] W λe w'=>e=.returned (.bool false)∧Gr W w':=by
 have c0:=h.c0;have c2:=h.c2;have c:(a:Int)≤xs.length:=by omega
 have b:B<W.heap.size:=ae c0;clear h;unfold It.V;go_enter func80,ntmps80;go_wp2;go_quiet (fail);go_wp2;go_ret;exact⟨rfl,Gr.trans (Gr.alloc W _) (below_drewNm _ _)⟩
theorem vZ (w:World):∀n,(w.drewN n).heap.size=w.heap.size
 | 0=>rfl
 | n+1=>by rw[World.drewN]
structure ItX (b:Nat)(W:World)(x:It):Prop where
 k:W.cell? ⟨b,0,none⟩=some (.int .i64 x.kind)
 o:W.cell? ⟨b,1,none⟩=some (.int .i64 x.op)
 t:W.cell? ⟨b,2,none⟩=some (.string ⟨x.text.toArray⟩)
theorem ItX.lt {b:Nat}{W:World}{x:It}(h:ItX b W x):b<W.heap.size:=ae h.k
theorem ItX.ch {b:Nat}{T:Nat→Prop}{W d:World}{x:It}(h:ItX b W x)(c:Ch T W d)(a:¬T b):ItX b d x :=
 ⟨(c.cell (p:=⟨b,0,none⟩) h.lt a).trans h.k,(c.cell (p:=⟨b,1,none⟩) h.lt a).trans h.o,(c.cell (p:=⟨b,2,none⟩) h.lt a).trans h.t⟩
def F9 (B R m mx:Nat)(xs:List It)(x:It)(W w':World):Prop :=
 ∃R' m' f' lv',RgI B R' m' f' w' mx (xs++[x]) lv'∧Ch (λk=>k=B∨(0<m∧k=R)) W w'∧((R'=R∧m'=m)∨W.heap.size≤R')
theorem wh {B R m f:Nat}{W:World}{mx:Nat}{xs:List It}{lv:Value}(x:It)(h:RgI B R m f W mx xs lv)(hf:xs.length<mx) :
  Calls prog 80 #[.pointer (some ⟨B,0,none⟩),x.V] W λe w'=>e=.returned (.bool true) ∧
   F9 B R m mx xs x W w':=by
 have h':=qq h;have c0:=h.c0;have c2:=h.c2;have c3:=h.c3;have b3:¬(mx:Int)≤xs.length:=by omega
 obtain⟨p,rfl⟩:∃p,lv=.slice p m m:=by
  rcases h.hl with⟨e,e2⟩ | ⟨_,e2⟩
  ·exact⟨none,by rw[e2,e]⟩
  ·exact⟨_,e2⟩
 have b4:=h.hn;have b5:=h.hM;have b1:B<W.heap.size:=ae c0;clear h;unfold It.V;go_enter func80,ntmps80;go_wp2;go_quiet (fail);obtain⟨A,s⟩:∃A,(W.alloc (.cells #[.int .i64 x.kind,.int .i64 x.op,.string ⟨x.text.toArray⟩] 81)).drewN nq=A:=⟨_,rfl⟩;have gd:Gr W A:=s▸Gr.trans (Gr.alloc W _) (below_drewNm _ _);have b6:A.heap.size=W.heap.size+1:=by rw[←s,vZ];simp
 have gx:Gr (W.alloc (.cells #[.int .i64 x.kind,.int .i64 x.op,.string ⟨x.text.toArray⟩] 81)) A:=s▸below_drewNm _ _;have x0:A.cell? ⟨W.heap.size,0,none⟩=some (.int .i64 x.kind):=gx.cell (aa _ _ _ 0 _ rfl);have x1:A.cell? ⟨W.heap.size,1,none⟩=some (.int .i64 x.op):=gx.cell (aa _ _ _ 1 _ rfl);have x2:A.cell? ⟨W.heap.size,2,none⟩=some (.string ⟨x.text.toArray⟩):=gx.cell (aa _ _ _ 2 _ rfl);obtain⟨b,hb⟩:∃b,((xs.length:Int)==(m:Int))=b:=⟨_,rfl⟩;replace c2:=gd.cell c2;replace c3:=gd.cell c3;have a0:=qq gd;go_wp2;rw[s];clear s c0 gx;go_quiet (fail);go_upto_if 27 with(fail);obtain⟨we,I⟩:∃we,A.drewN nq=we:=⟨_,rfl⟩;have r:Gr A we:=I▸below_drewNm _ _;have P:=qq (a0.out.trans r);have J:=qq (show ItX W.heap.size we x from⟨r.cell x0,r.cell x1,r.cell x2⟩);clear x0 x1 x2 r;go_cut [] (λwx=>∃g l O,RgI B g l O wx mx xs (.slice (some ⟨g,0,none⟩) l l)∧xs.length<l∧Ch (λk=>k=B) W wx∧((g=R∧l=m)∨W.heap.size≤g)∧ItX W.heap.size wx x∧g≠W.heap.size)
 case first =>
  rw[I];clear I c2 c3;cases b with
  | true =>
   have S:xs.length=m:=(by have:=eq_of_beq hb;omega);go_wp2_with fail;refine(Af (h'.out.gr P.out) S (by omega)).mono ?_;rintro e wg⟨rfl,g,a1,z,hc⟩;go_wp2;go_meet;exact⟨g,_,0,z,by unfold gsz;omega,(P.out.to_ch _).trans hc,.inr (qy (Below.size P.out) a1),J.out.ch hc (by(try dsimp only);omega),by have:=J.out.lt;omega⟩
  | false =>
   have S:¬((xs.length:Int)=m):=qk.1 hb;have z:=h'.out.gr P.out;have hl:=z.hl;go_wp2;go_meet;obtain⟨_,e⟩:=hl.resolve_left (λe=>by have:=e.1;omega);rw[e]at z;exact⟨R,m,f,z,by omega,P.out.to_ch _,.inl ⟨rfl,rfl⟩,J.out,by have:=(h'.out.all 0 (by omega)).choose_spec.lt;omega⟩
 case rest =>
  obtain⟨g,l,O,z,a5,U,Z,hX,b2⟩:=hcut;have c:=qq z;have X:=qq U;have M:=qq Z;have c2:=z.c2;have fz:=z.fz;have a2:=qq hX;clear z U Z h' P I hb hX J;go_upto_region 6 with(fail);obtain⟨n,d⟩:∃x,wc.setCell ⟨B,2,none⟩ (.int .i64 ((xs.length:Int)+1))=x:=⟨_,rfl⟩;rw[d];have F:0<l:=by omega
  have a6:l≤65536:=qy c.out.hm c.out.hM;have a3:O<l:=by rcases c.out.hf with e | e <;> omega
  have Y:=c.out.ne F;have e1:n.cell? ⟨B,1,none⟩=some (.int .i64 O):=by rw[←d];exact ac c.out.c1 (by decide)
  have e2:n.cell? ⟨B,2,none⟩=some (.int .i64 ((xs.length:Int)+1)):=by rw[←d];exact af c2
  have e3:n.cell? ⟨B,3,none⟩=some (.slice (some ⟨g,0,none⟩) l l):=by rw[←d];exact ac c.out.c3 (by decide)
  have a7:xs.length≤65536:=by omega
  obtain⟨q,hq⟩:∃q,(O+xs.length) % l=q:=⟨_,rfl⟩;have a8:q<l:=hq▸Nat.mod_lt _ F;have D:ItX W.heap.size n x:=a2.out.ch (d▸Ch.setCell (T:=λk=>k=B) _ (a:=⟨B,2,none⟩) rfl _) (by(try dsimp only);omega);have v0:∀y:Later (Gr n),y.w.cell? ⟨W.heap.size,0,none⟩=some (.int .i64 x.kind):=λy=>y.ok.cell D.k;have v1:∀y:Later (Gr n),y.w.cell? ⟨W.heap.size,1,none⟩=some (.int .i64 x.op):=λy=>y.ok.cell D.o;have v2:∀y:Later (Gr n),y.w.cell? ⟨W.heap.size,2,none⟩=some (.string ⟨x.text.toArray⟩):=λy=>y.ok.cell D.t;haveI:Nonempty (Later (Gr n)):=⟨⟨n,Gr.refl n⟩⟩;have t2:∀x:Later (Gr n),x.w.cell? ⟨B,2,none⟩=some (.int .i64 ((xs.length:Int)+1)):=λx=>x.ok.cell e2;have t3:∀x:Later (Gr n),x.w.cell? ⟨B,3,none⟩=some (.slice (some ⟨g,0,none⟩) l l):=λx=>x.ok.cell e3;have N:=qq (kF (R:=g) (m:=l) (i:=xs.length) e1 e3 F a6 a3 a7);simp only[hq]at N;have b7:IntKind.i64.wrap ((xs.length:Int)+1 - 1)=xs.length:=by rw[show(xs.length:Int)+1 - 1=xs.length by omega];exact IntWalk.i64_in _ (by omega)
  have a9:(xs.length:Int)+1 - 1=xs.length:=by omega
  clear e1 e2 e3 c2 fz;refine ak (C:=Gr n) 12 (by kernel_rfl) (by kernel_rfl) (Gr.drew' _) ?_;simp only[List.take_succ_cons,List.take_zero,List.drop_succ_cons,List.drop_zero];repeat (go_big_quiet_step (with_reducible exact N.out _))
  refine wpQuiet_nil ?_;intro w9 E;have b0:∀ {o p:Nat},(⟨B,o,none⟩:Addr).block≠(⟨g,p,none⟩:Addr).block:=fun {_ _} e=>Y e.symm;obtain⟨u,hu⟩:=c.out.all q a8;have H:=(d▸hu.other (B:=B) (o:=2) (v:=.int .i64 ((xs.length:Int)+1)) Y.symm:ItC g q n u).gr E;have u0:=H.k;have u1:=H.o;have u2:=H.t;have b8:∀o,w9.frozen? ⟨g,o,none⟩=false:=λo=>by
   have hz:=c.out.fr F o;refine(Below.frozen E (p:=⟨g,o,none⟩) (by rw[←d];simpa using hu.lt)).trans ?_;rw[←d,ag];exact hz
  have L:=qq E;clear t2 t3 hu E H v0 v1 v2 D;go_wp2;go_ret;subst d;subst hq;refine⟨rfl,g,l,O,_,c.out.push a5 L.out,?_,M.out⟩;have k1:Ch (λk=>k=B∨(0<m∧k=R)) W w9:=(X.out.mono (λ_ e=>.inl e)).trans ((Ch.setCell _ (a:=⟨B,2,none⟩) (.inl rfl) _).trans (L.out.to_ch _));refine k1.drop_new (rg (T:=λk=>k=g) w9 x rfl) (λj hj=>?_);have a4:j=g:=hj;subst a4;rcases M.out with⟨e1,e2⟩ | e
  ·exact .inl (.inr ⟨by omega,e1⟩)
  ·exact .inr e
def ml (B mx:Nat)(T:Nat→Prop)(W:World)(xs:List It):Prop:=(∃R m f lv,RgI B R m f W mx xs lv∧T B∧(0<m→T R))∧∀k,T k→k<W.heap.size
theorem l8 (B i:Nat):Kin (ml B i) :=
 ⟨fun {T T' W x} ⟨⟨R,m,f,lv,h,a,b⟩,_⟩ d hl=>⟨⟨R,m,f,lv,h,d _ a,λe=>d _ (b e)⟩,hl⟩,
  fun {T S W j x} ⟨⟨R,m,f,lv,h,a,b⟩,hl⟩ c hs=>⟨⟨R,m,f,lv,h.ch c (hs _ a) (λe=>hs _ (b e)),a,b⟩,λk g=>qj (hl k g) c.size⟩,
  fun {T W x} h=>h.2⟩
theorem kG {B a:Nat}{T:Nat→Prop}{W:World}{xs:List It}(h:ml B a T W xs) :
  Calls prog 84 #[.pointer (some ⟨B,0,none⟩)] W λe w'=>e=.returned (.int .i64 xs.length)∧W=w':=by
 obtain⟨⟨R,m,f,lv,h,_⟩,_⟩:=h;exact tG h
theorem ff {B a:Nat}{T:Nat→Prop}{W:World}(h:ml B a T W []) :
  Calls prog 76 #[.pointer (some ⟨B,0,none⟩)] W λe w'=>e=.returned (.tuple #[it0.V,.bool false])∧Gr W w':=by
 obtain⟨⟨R,m,f,lv,h,_⟩,_⟩:=h;exact Aa h
theorem rh {B d:Nat}{T:Nat→Prop}{W:World}{a:It}{l:List It}(h:ml B d T W (a :: l)) :
  Calls prog 76 #[.pointer (some ⟨B,0,none⟩)] W λe w'=>e=.returned (.tuple #[a.V,.bool true])∧Pst (ml B d) T W l w':=by
 obtain⟨⟨R,m,f,lv,h,g,i⟩,hl⟩:=h;have hm:0<m:=by have:=h.hn;simp at this;omega
 refine(Ab h).mono ?_;rintro e w'⟨rfl,n,j⟩;have b:Ch T W w':=j.mono (λk c=>by rcases c with rfl | rfl;exact g;exact i hm);exact⟨rfl,(l8 B d).pst ⟨⟨R,m,_,lv,n,g,i⟩,λk c=>qj (hl k c) j.size⟩ b⟩
theorem oN {B a:Nat}{T:Nat→Prop}{W:World}{xs:List It}(x:It)(h:ml B a T W xs)(hf:a≤xs.length) :
  Calls prog 80 #[.pointer (some ⟨B,0,none⟩),x.V] W λe w'=>e=.returned (.bool false)∧Gr W w':=by
 obtain⟨⟨R,m,f,lv,h,_⟩,_⟩:=h;exact vY x h hf
theorem CR {B g:Nat}{T:Nat→Prop}{W:World}{xs:List It}(x:It)(h:ml B g T W xs)(hf:xs.length<g) :
  Calls prog 80 #[.pointer (some ⟨B,0,none⟩),x.V] W λe w'=>e=.returned (.bool true)∧Pst (ml B g) T W (xs++[x]) w':=by
 obtain⟨⟨R,m,f,lv,h,j,l⟩,hl⟩:=h;refine(wh x h hf).mono ?_;rintro e w'⟨rfl,o,q,p,d,i,n,c⟩;have b:Ch T W w':=n.mono (λk a=>by
  rcases a with rfl | ⟨h0,rfl⟩
  ·exact j
  ·exact l h0)
 refine⟨rfl,⟨⟨o,q,p,d,i,.inl j,λh0=>?_⟩,λk a=>?_⟩,b⟩
 ·rcases c with⟨e1,e2⟩ | e
  ·subst e1;subst e2;exact .inl (l h0)
  ·exact .inr ⟨e,(i.all 0 h0).choose_spec.lt⟩
 ·rcases a with a | a
  ·exact qj (hl k a) n.size
  ·exact a.2
theorem Eo (q:Nat)(W:World)(d:1≤q)(a:q≤65536) :
  Calls prog 63 #[.int .i64 q] W λe w'=>e=.returned (.tuple #[.pointer (some ⟨W.heap.size,0,none⟩),.int .i64 0])∧ml W.heap.size q (λk=>k=W.heap.size) w' []∧Gr W w'∧w'.heap.size=W.heap.size+1:=by
 have a1:¬(q:Int)<1:=by omega
 have a2:¬(65536:Int)<q:=by omega
 go_enter func63,ntmps63;go_wp2;go_ret2;refine⟨rfl,⟨⟨W.heap.size+1,0,0,.slice none 0 0,⟨aa _ _ _ 0 _ rfl,aa _ _ _ 1 _ rfl,aa _ _ _ 2 _ rfl,aa _ _ _ 3 _ rfl,.inl ⟨rfl,rfl⟩,λo=>World.frozen?_alloc_at _ _ _ _ rfl,λh=>absurd h (Nat.lt_irrefl 0),qv _,qx _,a,.inr ⟨rfl,rfl⟩,λi hi=>absurd hi (Nat.not_lt_zero _),λj b=>absurd b (Nat.not_lt_zero _),λh=>absurd h (Nat.lt_irrefl 0)⟩,rfl,λh=>absurd h (Nat.lt_irrefl 0)⟩,λk c=>by subst c;simp⟩,Gr.alloc _ _,by simp⟩
