/-
  The reader of frames in memory: whether a head may be.
-/
import Derived.Test.YtadobobfjnmdlaaGreatDoorQp
set_option linter.unnecessarySimpa false
set_option linter.unusedVariables false
set_option linter.unusedSimpArgs false
set_option maxHeartbeats 16000000
set_option maxRecDepth 100000
open Go.Proofs.Tryz
namespace Go.Proofs.YtadobobfjnmdlaaGreatDoor
open Go.RowKit Go.Shelf
attribute [local go_sem] Oper.semAt_some
theorem Ao (n:Nat)(W:World)(y:Later (Gr W)):Calls prog 257 #[.int .i64 n] y.w λe w'=>e=.returned (.bool (opH n))∧∃z:Later (Gr W),w'=z.w :=
 Calls.later ((ED n y.w).mono λ_ w' ⟨a,b⟩=>⟨a,b▸y.ok⟩)
theorem pT (b:Nat)(W:World)(h:Hd)(c0:W.cell? ⟨b,0,none⟩=some (.bool true)) :
  Calls prog 225 #[.pointer (some ⟨b,0,none⟩),h.V] W λe w'=>e=.returned (.bool (mF true h))∧Gr W w':=by
 obtain⟨fin,rsv,op,masked,k0,k1,k2,k3,len,least⟩:=h;have j:=λw=>Ao op w;obtain⟨L,D⟩:∃v,opH op=v:=⟨_,rfl⟩;rw[D]at j;obtain⟨sm,f⟩:∃v,(decide (op<8)||(fin&&decide (len≤125)))=v:=⟨_,rfl⟩;have m:=qq (show mF true ⟨fin,rsv,op,masked,k0,k1,k2,k3,len,least⟩=(rsv==0&&(L&&(masked==true&&(sm&&(least&&decide (len≤9223372036854775807)))))) by unfold mF;dsimp only;rw[D,f]);have u:=qq j;have O:b<W.heap.size:=ae c0;clear j D;unfold Hd.V;dsimp only;obtain⟨k,g⟩:∃k,W.alloc (.cells #[.bool fin,.int .i64 rsv,.int .i64 op,.bool masked,.int .u8 k0.toNat,.int .u8 k1.toNat,.int .u8 k2.toNat,.int .u8 k3.toNat,.int .u64 len,.bool least] 152)=k:=⟨_,rfl⟩;have A:Gr W k:=by rw[←g];exact Gr.alloc _ _
 have M:k.cell? ⟨W.heap.size,0,none⟩=some (.bool fin):=by rw[←g];exact aa _ _ _ 0 _ rfl
 have d1:k.cell? ⟨W.heap.size,1,none⟩=some (.int .i64 rsv):=by rw[←g];exact aa _ _ _ 1 _ rfl
 have d2:k.cell? ⟨W.heap.size,2,none⟩=some (.int .i64 op):=by rw[←g];exact aa _ _ _ 2 _ rfl
 have d3:k.cell? ⟨W.heap.size,3,none⟩=some (.bool masked):=by rw[←g];exact aa _ _ _ 3 _ rfl
 have H:k.cell? ⟨W.heap.size,8,none⟩=some (.int .u64 len):=by rw[←g];exact aa _ _ _ 8 _ rfl
 have I:k.cell? ⟨W.heap.size,9,none⟩=some (.bool least):=by rw[←g];exact aa _ _ _ 9 _ rfl
 have e0:=A.cell c0;have i:=qq A;clear A c0;go_enter func225,ntmps225;go_upto_region 1 with(fail);clear g;go_cut [5] (λv N=>v=.bool sm∧N=k)
 case first =>
  by_cases J:op<8
  ·have B:(op:Int)<8:=(by omega);rw[decide_eq_true J,Bool.true_or]at f;subst f;go_wp2;go_meet;exact⟨rfl,rfl⟩
  ·have B:¬(op:Int)<8:=(by omega);rw[decide_eq_false J,Bool.false_or]at f;cases fin with
   | false =>
    rw[Bool.false_and]at f;subst f;go_wp2;go_meet;exact⟨rfl,rfl⟩
   | true =>
    rw[Bool.true_and]at f;have t:decide ((len:Int)≤125)=sm:=(by rw[←f];simp only[decide_eq_decide];omega);go_wp2;go_meet;exact⟨rfl,rfl⟩
 case rest =>
  obtain⟨rfl,rfl⟩:=hcut;haveI:Nonempty (Later (Gr wc)):=⟨⟨wc,Gr.refl wc⟩⟩;have n:∀y:Later (Gr wc),y.w.cell? ⟨b,0,none⟩=some (.bool true):=λy=>y.ok.cell e0;have o:∀y:Later (Gr wc),y.w.cell? ⟨W.heap.size,1,none⟩=some (.int .i64 rsv):=λy=>y.ok.cell d1;have p:∀y:Later (Gr wc),y.w.cell? ⟨W.heap.size,2,none⟩=some (.int .i64 op):=λy=>y.ok.cell d2;have q:∀y:Later (Gr wc),y.w.cell? ⟨W.heap.size,3,none⟩=some (.bool masked):=λy=>y.ok.cell d3;have r:∀y:Later (Gr wc),y.w.cell? ⟨W.heap.size,8,none⟩=some (.int .u64 len):=λy=>y.ok.cell H;have s:∀y:Later (Gr wc),y.w.cell? ⟨W.heap.size,9,none⟩=some (.bool least):=λy=>y.ok.cell I;have d:=qq (u.out wc);clear M d1 d2 d3 H I e0 u f;by_cases E:rsv=0
  ·subst E;cases L with
   | true =>
    cases masked with
    | true =>
     cases sm with
     | true =>
      cases least with
      | true =>
       have t:decide ((len:Int)≤9223372036854775807)=decide (len≤9223372036854775807):=(by simp only[decide_eq_decide];omega);obtain⟨vl,l⟩:∃v,decide (len≤9223372036854775807)=v:=⟨_,rfl⟩;rw[l]at t;have x:=qq l;clear l;go_upto_region 2 with(fail);refine ah (C:=Gr wc) (by kernel_rfl) (by kernel_rfl) (Gr.drew' _) ?_;(repeat (go_big_quiet_step (with_reducible exact d.out _)));refine wpQuiet_nil ?_;intro z a;have c:=qq (i.out.trans a);clear n o p q r s a;go_wp2;go_ret;exact⟨by rw[m.out,x.out];rfl,c.out⟩
      | false =>
       go_upto_region 2 with(fail);refine ah (C:=Gr wc) (by kernel_rfl) (by kernel_rfl) (Gr.drew' _) ?_;(repeat (go_big_quiet_step (with_reducible exact d.out _)));refine wpQuiet_nil ?_;intro z a;have c:=qq (i.out.trans a);clear n o p q r s a;go_wp2;go_ret;exact⟨by rw[m.out];rfl,c.out⟩
     | false =>
      go_upto_region 2 with(fail);refine ah (C:=Gr wc) (by kernel_rfl) (by kernel_rfl) (Gr.drew' _) ?_;(repeat (go_big_quiet_step (with_reducible exact d.out _)));refine wpQuiet_nil ?_;intro z a;have c:=qq (i.out.trans a);clear n o p q r s a;go_wp2;go_ret;exact⟨by rw[m.out];rfl,c.out⟩
    | false =>
     go_upto_region 2 with(fail);refine ah (C:=Gr wc) (by kernel_rfl) (by kernel_rfl) (Gr.drew' _) ?_;(repeat (go_big_quiet_step (with_reducible exact d.out _)));refine wpQuiet_nil ?_;intro z a;have c:=qq (i.out.trans a);clear n o p q r s a;go_wp2;go_ret;exact⟨by rw[m.out];rfl,c.out⟩
   | false =>
    go_upto_region 2 with(fail);refine ah (C:=Gr wc) (by kernel_rfl) (by kernel_rfl) (Gr.drew' _) ?_;(repeat (go_big_quiet_step (with_reducible exact d.out _)));refine wpQuiet_nil ?_;intro z a;have c:=qq (i.out.trans a);clear n o p q r s a;go_wp2;go_ret;exact⟨by rw[m.out];rfl,c.out⟩
  ·have P:((rsv:Int)==0)=false:=qk.2 (by omega);have F:=qq (qk.2 E);clear E;go_upto_region 2 with(fail);refine ah (C:=Gr wc) (by kernel_rfl) (by kernel_rfl) (Gr.drew' _) ?_;(repeat (go_big_quiet_step (with_reducible exact d.out _)));refine wpQuiet_nil ?_;intro z a;have c:=qq (i.out.trans a);clear n o p q r s a;go_wp2;go_ret;exact⟨by rw[m.out,F.out];rfl,c.out⟩
def Fev.V:Fev→Value
 | .begin' f o n=>.agg #[.int .i64 1,.int .i64 o,.bool f,.int .i64 n,.string ⟨#[]⟩]
 | .piece s=>.agg #[.int .i64 2,.int .i64 0,.bool false,.int .i64 0,.string ⟨s.toArray⟩]
 | .fin=>.agg #[.int .i64 3,.int .i64 0,.bool false,.int .i64 0,.string ⟨#[]⟩]
 | .fail=>.agg #[.int .i64 4,.int .i64 0,.bool false,.int .i64 0,.string ⟨#[]⟩]
def oO:Value:=.agg #[.int .i64 0,.int .i64 0,.bool false,.int .i64 0,.string ⟨#[]⟩]
def Ew:Option Fev→Value
 | none=>.tuple #[oO,.bool false]
 | some e=>.tuple #[e.V,.bool true]
structure EvZ (rb:Nat)(W:World):Prop where
 k:W.cell? ⟨rb,0,none⟩=some (.int .i64 0)
 o:W.cell? ⟨rb,1,none⟩=some (.int .i64 0)
 f:W.cell? ⟨rb,2,none⟩=some (.bool false)
 l:W.cell? ⟨rb,3,none⟩=some (.int .i64 0)
 t:W.cell? ⟨rb,4,none⟩=some (.string ⟨#[]⟩)
 fz:∀o,W.frozen? ⟨rb,o,none⟩=false
theorem EvZ.lt {rb:Nat}{W:World}(h:EvZ rb W):rb<W.heap.size:=ae h.k
theorem EvZ.ch {rb:Nat}{T:Nat→Prop}{W b:World}(h:EvZ rb W)(d:Ch T W b)(c:¬T rb):EvZ rb b :=
 have a:∀ {j v},W.cell? ⟨rb,j,none⟩=some v→b.cell? ⟨rb,j,none⟩=some v:=fun {j v} e=>(d.cell (p:=⟨rb,j,none⟩) (ae e) c).trans e
 ⟨a h.k,a h.o,a h.f,a h.l,a h.t,λo=>(d.frozen (p:=⟨rb,o,none⟩) h.lt c).trans (h.fz o)⟩
theorem EvZ.gr {rb:Nat}{W a:World}(h:EvZ rb W)(g:Gr W a):EvZ rb a:=h.ch (g.to_ch (λ_=>False)) id
theorem fR (W:World)(t:TypeId):EvZ W.heap.size (W.alloc (.cells #[.int .i64 0,.int .i64 0,.bool false,.int .i64 0,.string ⟨#[]⟩] t)) :=
 ⟨aa _ _ _ 0 _ rfl,aa _ _ _ 1 _ rfl,aa _ _ _ 2 _ rfl,aa _ _ _ 3 _ rfl,aa _ _ _ 4 _ rfl,λ_=>World.frozen?_alloc_at _ _ _ _ rfl⟩
theorem ch5 {rb:Nat}(W:World)(b c d e f:Value):Ch (λk=>k=rb) W (((((W.setCell ⟨rb,0,none⟩ b).setCell ⟨rb,1,none⟩ c).setCell ⟨rb,2,none⟩ d).setCell ⟨rb,3,none⟩ e).setCell ⟨rb,4,none⟩ f) :=
 ((((Ch.setCell (T:=λk=>k=rb) _ (a:=⟨rb,0,none⟩) rfl _).trans (Ch.setCell (T:=λk=>k=rb) _ (a:=⟨rb,1,none⟩) rfl _)).trans (Ch.setCell (T:=λk=>k=rb) _ (a:=⟨rb,2,none⟩) rfl _)).trans (Ch.setCell (T:=λk=>k=rb) _ (a:=⟨rb,3,none⟩) rfl _)).trans (Ch.setCell (T:=λk=>k=rb) _ (a:=⟨rb,4,none⟩) rfl _)
def gc (b:Nat)(W:World)(x:Fr×Option Fev)(e:Ending)(W':World):Prop:=e=.returned (Ew x.2)∧FrS b W' x.1∧Ch (λj=>j=b) W W'
theorem FrS.told5 {b rb:Nat}{W W2:World}{r:Fr}(k:FrS b W2 r)(g:Ch (λj=>j=b) W W2)(l:b<W.heap.size)(i:W.heap.size≤rb)(a c d e f:Value) :
  FrS b (((((W2.setCell ⟨rb,0,none⟩ a).setCell ⟨rb,1,none⟩ c).setCell ⟨rb,2,none⟩ d).setCell ⟨rb,3,none⟩ e).setCell ⟨rb,4,none⟩ f) r∧Ch (λj=>j=b) W (((((W2.setCell ⟨rb,0,none⟩ a).setCell ⟨rb,1,none⟩ c).setCell ⟨rb,2,none⟩ d).setCell ⟨rb,3,none⟩ e).setCell ⟨rb,4,none⟩ f) :=
 ⟨k.ch (ch5 W2 a c d e f) (by(try dsimp only);omega),g.drop_new (ch5 W2 a c d e f) (λj h=>.inr (by rw[show j=rb from h];exact i))⟩
theorem oP {b:Nat}{W:World}{r:Fr}(k:FrS b W r)(s:nZ r)(m:ej r.inp=none) :
  Calls prog 181 #[.pointer (some ⟨b,0,none⟩)] W (gc b W (r,none)):=by
 obtain⟨g,f⟩:∃g,W.alloc (.cells #[.int .i64 0,.int .i64 0,.bool false,.int .i64 0,.string ⟨#[]⟩] 159)=g:=⟨_,rfl⟩;have h:Gr W g:=f▸Gr.alloc _ _;have t:=qq (f▸fR W _:EvZ W.heap.size g);have k1:=k.gr h;have c2:=k1.c2;have q:=k.lt;obtain⟨p,n⟩:∃p,r.inp=p:=⟨_,rfl⟩;have a:=jT r.inp g s.1;unfold l9 at a;rw[m]at a;rw[n]at c2 a;have a:=qq a;have l:=qq k1;have i:=qq h;clear k k1 h m n;go_enter func181,ntmps181;go_wp2_with fail;refine(a.out).mono ?_;rintro e u⟨rfl,d⟩;obtain⟨o,w,x,y,z,A⟩:=t.out.gr d;have j:W.heap.size<u.heap.size:=ae o;have c:=qq d;clear d c2;unfold Hd.V hd0;dsimp only;go_wp2;refine bodyPost_ret (v:=.tuple #[oO,.bool false]) (by simp[results,results181,go_sem,oO,o,w,x,y,z,j]) rfl ⟨rfl,?_⟩;have hf:=(l.out.gr c.out).told5 ((i.out.to_ch _).trans (c.out.to_ch _)) q (qv _) (.int .i64 0) (.int .i64 0) (.bool false) (.int .i64 0) (.string ⟨#[]⟩);exact⟨hf.1.gr (Gr.alloc _ _),hf.2.trans (Ch.alloc _ _ _)⟩
theorem Ex {h:Hd}(e:mF true h=true):h.len≤9223372036854775807:=by
 unfold mF at e;simp at e;omega
theorem De {s:List UInt8}{h:Hd}{n:Nat}(e:ej s=some (h,n)):n≤s.length:=by
 unfold ej at e;split at e
 ·cases e
 ·cases e;omega
theorem FrS.setAll {b:Nat}{W:World}{r:Fr}(k:FrS b W r)(st:Nat)(q:List UInt8)(h:Hd)(n:Nat) :
  FrS b (((((((((((((W.setCell ⟨b,1,none⟩ (.int .i64 st)).setCell ⟨b,2,none⟩ (.string ⟨q.toArray⟩)).setCell ⟨b,3,none⟩ (.bool h.fin)).setCell ⟨b,4,none⟩ (.int .i64 h.rsv)).setCell ⟨b,5,none⟩ (.int .i64 h.op)).setCell ⟨b,6,none⟩ (.bool h.masked)).setCell ⟨b,7,none⟩ (.int .u8 h.k0.toNat)).setCell ⟨b,8,none⟩ (.int .u8 h.k1.toNat)).setCell ⟨b,9,none⟩ (.int .u8 h.k2.toNat)).setCell ⟨b,10,none⟩ (.int .u8 h.k3.toNat)).setCell ⟨b,11,none⟩ (.int .u64 h.len)).setCell ⟨b,12,none⟩ (.bool h.least)).setCell ⟨b,13,none⟩ (.int .i64 n)) ⟨st,q,h,n⟩:=by
 obtain⟨c0,c1,c2,⟨a,c,d,e,f,g,i,j,l,m⟩,c13,fz⟩:=k;refine⟨?_,?_,?_,⟨?_,?_,?_,?_,?_,?_,?_,?_,?_,?_⟩,?_,λo=>by simp only[ag];exact fz o⟩
 ·simp[go_sem,c0]
 ·simp[go_sem,c1]
 ·simp[go_sem,c2]
 ·simp[go_sem,a]
 ·simp[go_sem,c]
 ·simp[go_sem,d]
 ·simp[go_sem,e]
 ·simp[go_sem,f]
 ·simp[go_sem,g]
 ·simp[go_sem,i]
 ·simp[go_sem,j]
 ·simp[go_sem,l]
 ·simp[go_sem,m]
 ·simp[go_sem,c13]
theorem Ga {b:Nat}(W:World)(g h i k l m n p q c d e f:Value) :
  Ch (λj=>j=b) W (((((((((((((W.setCell ⟨b,1,none⟩ g).setCell ⟨b,2,none⟩ h).setCell ⟨b,3,none⟩ i).setCell ⟨b,4,none⟩ k).setCell ⟨b,5,none⟩ l).setCell ⟨b,6,none⟩ m).setCell ⟨b,7,none⟩ n).setCell ⟨b,8,none⟩ p).setCell ⟨b,9,none⟩ q).setCell ⟨b,10,none⟩ c).setCell ⟨b,11,none⟩ d).setCell ⟨b,12,none⟩ e).setCell ⟨b,13,none⟩ f):=by
 have s:∀(w:World) (o:Nat) (v:Value),Ch (λj=>j=b) w (w.setCell ⟨b,o,none⟩ v):=λw o v=>Ch.setCell (T:=λj=>j=b) w (a:=⟨b,o,none⟩) rfl v;exact((((((((((((s _ _ _).trans (s _ _ _)).trans (s _ _ _)).trans (s _ _ _)).trans (s _ _ _)).trans (s _ _ _)).trans (s _ _ _)).trans (s _ _ _)).trans (s _ _ _)).trans (s _ _ _)).trans (s _ _ _)).trans (s _ _ _)).trans (s _ _ _)
theorem oQ {b:Nat}{W:World}{r:Fr}{h:Hd}{n:Nat}(k:FrS b W r)(O:nZ r)(N:ej r.inp=some (h,n))(hm:mF true h=false) :
  Calls prog 181 #[.pointer (some ⟨b,0,none⟩)] W (gc b W ({ r with st:=2,inp:=[] },some .fail)):=by
 obtain⟨B,q⟩:∃B,W.alloc (.cells #[.int .i64 0,.int .i64 0,.bool false,.int .i64 0,.string ⟨#[]⟩] 159)=B:=⟨_,rfl⟩;have E:Gr W B:=q▸Gr.alloc _ _;have S:=qq (q▸fR W _:EvZ W.heap.size B);have k1:=k.gr E;have c2:=k1.c2;have hb:=k.lt;have a4:=qq O;have a3:=qq N;obtain⟨p,P⟩:∃p,r.inp=p:=⟨_,rfl⟩;have d:=jT r.inp B O.1;unfold l9 at d;rw[N]at d;rw[P]at c2 d;have a7:=qq P;have d:=qq d;have l:=qq k1;have F:=qq E;have g:=qq (λw c=>pT b w h c);rw[hm]at g;have a6:=qq hm;obtain⟨fin,rsv,op,masked,x0,x1,x2,x3,len,least⟩:=h;clear k k1 E N P hm O;unfold Hd.V at d g;dsimp only at d g;go_enter func181,ntmps181;go_wp2_with fail;refine(d.out).mono ?_;rintro e C⟨rfl,f⟩;have g2:=F.out.trans f;have U:=qq (l.out.gr f);have z:=qq (S.out.gr f);have H:=qq g2;have e0:=(l.out.gr f).c0;have a1:b<C.heap.size:=(l.out.gr f).lt;have a5:W.heap.size<C.heap.size:=(S.out.gr f).lt;clear f c2 S d g2 l q;obtain⟨w3,y⟩:∃w3,C.alloc (.cells #[.bool fin,.int .i64 rsv,.int .i64 op,.bool masked,.int .u8 x0.toNat,.int .u8 x1.toNat,.int .u8 x2.toNat,.int .u8 x3.toNat,.int .u64 len,.bool least] 152)=w3:=⟨_,rfl⟩;have I:Gr C w3:=y▸Gr.alloc _ _;have s:HdO C.heap.size 0 w3 ⟨fin,rsv,op,masked,x0,x1,x2,x3,len,least⟩:=by
  rw[←y];exact⟨aa _ _ _ 0 _ rfl,aa _ _ _ 1 _ rfl,aa _ _ _ 2 _ rfl,aa _ _ _ 3 _ rfl,aa _ _ _ 4 _ rfl,aa _ _ _ 5 _ rfl,aa _ _ _ 6 _ rfl,aa _ _ _ 7 _ rfl,aa _ _ _ 8 _ rfl,aa _ _ _ 9 _ rfl⟩
 have J:=qq I;have m:=qq s;obtain⟨d0,d1,d2,d3,Y,Z,d6,d7,d8,d9⟩:=s;simp only[Nat.zero_add]at d1 d2 d3 Y Z d6 d7 d8 d9;have o:=qq (g.out w3 (I.cell e0));clear I g e0;go_wp2_with fail;refine(o.out).mono ?_;rintro e w4⟨rfl,i⟩;have D:=J.out.trans i;have k4:=U.out.gr D;have X:=qq k4;have A:=z.out.gr D;have a0:=qq i;have L:=qq (H.out.trans D);have t:=m.out.ch (i.to_ch (λ_=>False)) id;have u:=qq t;have a2:b<w4.heap.size:=k4.lt;have x:W.heap.size<w4.heap.size:=A.lt;obtain⟨z0,z1,z2,z3,z4,zf⟩:=A;have M:b≠W.heap.size:=by omega
 have R:W.heap.size≠b:=by omega
 have c1:=k4.c1;have c2:=k4.c2;have fz:=k4.fz;clear d0 d1 d2 d3 Y Z d6 d7 d8 d9 o i D k4 z;clear t u m;go_wp2;refine bodyPost_ret (v:=.tuple #[Fev.V .fail,.bool true]) (by simp[results,results181,go_sem,Fev.V,z0,z1,z2,z3,z4,x,M,R]) rfl ⟨rfl,?_⟩;exact((X.out.setSt 2).setInp []).told5 ((L.out.to_ch _).trans ((Ch.setCell (T:=λj=>j=b) _ (a:=⟨b,1,none⟩) rfl _).trans (Ch.setCell (T:=λj=>j=b) _ (a:=⟨b,2,none⟩) rfl _))) hb (qv _) _ _ _ _ _
theorem tO {b:Nat}{W:World}{r:Fr}{h:Hd}{n:Nat}(k:FrS b W r)(hk:nZ r)(hh:ej r.inp=some (h,n))(hm:mF true h=true)(hn:n≤r.inp.length) :
  Calls prog 181 #[.pointer (some ⟨b,0,none⟩)] W (gc b W ({ r with st:=1,inp:=r.inp.drop n,h:=h,told:=0 },some (.begin' h.fin h.op h.len))):=by
 obtain⟨S,x⟩:∃S,W.alloc (.cells #[.int .i64 0,.int .i64 0,.bool false,.int .i64 0,.string ⟨#[]⟩] 159)=S:=⟨_,rfl⟩;have g1:Gr W S:=x▸Gr.alloc _ _;have hz:=qq (x▸fR W _:EvZ W.heap.size S);have k1:=k.gr g1;have c2:=k1.c2;have hb:=k.lt;have b4:=qq hk;have b3:=qq hh;obtain⟨p,hp⟩:∃p,r.inp=p:=⟨_,rfl⟩;have a:=jT r.inp S hk.1;unfold l9 at a;rw[hh]at a;rw[hp]at c2 a;have t:=qq hp;have a:=qq a;have l:=qq k1;have B:=qq g1;have f:=qq (λw c=>pT b w h c);rw[hm]at f;have b6:=qq hm;obtain⟨fin,rsv,op,masked,x0,x1,x2,x3,len,least⟩:=h;clear k k1 g1 hh hp hm hk;unfold Hd.V at a f;dsimp only at a f;go_enter func181,ntmps181;go_wp2_with fail;refine(a.out).mono ?_;rintro e A⟨rfl,d⟩;have g2:=B.out.trans d;have R:=qq (l.out.gr d);have N:=qq (hz.out.gr d);have C:=qq g2;have e0:=(l.out.gr d).c0;have b1:b<A.heap.size:=(l.out.gr d).lt;have b5:W.heap.size<A.heap.size:=(hz.out.gr d).lt;clear d c2 hz a g2 l x;obtain⟨w3,y⟩:∃w3,A.alloc (.cells #[.bool fin,.int .i64 rsv,.int .i64 op,.bool masked,.int .u8 x0.toNat,.int .u8 x1.toNat,.int .u8 x2.toNat,.int .u8 x3.toNat,.int .u64 len,.bool least] 152)=w3:=⟨_,rfl⟩;have g3:Gr A w3:=y▸Gr.alloc _ _;have I:HdO A.heap.size 0 w3 ⟨fin,rsv,op,masked,x0,x1,x2,x3,len,least⟩:=by
  rw[←y];exact⟨aa _ _ _ 0 _ rfl,aa _ _ _ 1 _ rfl,aa _ _ _ 2 _ rfl,aa _ _ _ 3 _ rfl,aa _ _ _ 4 _ rfl,aa _ _ _ 5 _ rfl,aa _ _ _ 6 _ rfl,aa _ _ _ 7 _ rfl,aa _ _ _ 8 _ rfl,aa _ _ _ 9 _ rfl⟩
 have D:=qq g3;have m:=qq I;obtain⟨d0,d1,d2,d3,d4,d5,d6,d7,d8,d9⟩:=I;simp only[Nat.zero_add]at d1 d2 d3 d4 d5 d6 d7 d8 d9;have s:=qq (f.out w3 (g3.cell e0));clear g3 f e0;go_wp2_with fail;refine(s.out).mono ?_;rintro e w4⟨rfl,i⟩;have g4:=D.out.trans i;have k4:=R.out.gr g4;have z:=qq k4;have O:=N.out.gr g4;have L:=qq i;have E:=qq (C.out.trans g4);have J:=m.out.ch (i.to_ch (λ_=>False)) id;have o:=qq J;have b9:b<w4.heap.size:=k4.lt;have q:W.heap.size<w4.heap.size:=O.lt;obtain⟨T,U,X,Y,Z,zf⟩:=O;have F:b≠W.heap.size:=by omega
 have u:W.heap.size≠b:=by omega
 have c1:=k4.c1;have c2:=k4.c2;have fz:=k4.fz;clear d0 d1 d2 d3 d4 d5 d6 d7 d8 d9 s i g4 k4 N;rw[t.out]at c2 hn;have hx:(⟨p.toArray⟩:ByteArray).extract n p.length=⟨(p.drop n).toArray⟩:=by rw[av];simp
 obtain⟨a0,a1,a2,a3,a4,a5,a6,a7,a8,a9⟩:=J;simp only[Nat.zero_add]at a1 a2 a3 a4 a5 a6 a7 a8 a9;obtain⟨f0,f1,f2,f3,f4,f5,f6,f7,f8,f9⟩:=z.out.h;have c13:=z.out.c13;have b8:b≠A.heap.size:=by omega
 have b0:A.heap.size≠b:=by omega
 go_upto_region 7 with(fail);go_cut [] (λwx=>FrS b wx ⟨1,p.drop n,⟨fin,rsv,op,masked,x0,x1,x2,x3,len,least⟩,0⟩∧Ch (λj=>j=b) w4 wx)
 case first =>
  clear T U X Y Z zf q F u b4 b3 t B C R D L E o m hb b1 b5 y;go_big_region;all_goals
   go_wp2;go_meet;exact⟨(z.out.setAll 1 (p.drop n) ⟨fin,rsv,op,masked,x0,x1,x2,x3,len,least⟩ 0).gr (Gr.drew' _),(Ga w4 _ _ _ _ _ _ _ _ _ _ _ _ _).trans (Ch.drew _ _)⟩
 case rest =>
  obtain⟨k5,g⟩:=hcut;have b7:=qq k5;have H:=qq g;have P:EvZ W.heap.size wc:=(EvZ.mk T U X Y Z zf).ch g u;have b2:=o.out.ch g b0;have M:W.heap.size<wc.heap.size:=P.lt;have c3:(len:Int)≤9223372036854775807:=by
   have h9:len≤9223372036854775807:=Ex b6.out;omega
  clear T U X Y Z zf a0 a1 a2 a3 a4 a5 a6 a7 a8 a9 f0 f1 f2 f3 f4 f5 f6 f7 f8 f9 c13 c1 c2 fz k5 g q;obtain⟨T,U,X,Y,Z,zf⟩:=P;obtain⟨a0,a1,a2,a3,a4,a5,a6,a7,a8,a9⟩:=b2;simp only[Nat.zero_add]at a1 a2 a3 a4 a5 a6 a7 a8 a9;have c4:IntKind.i64.wrap (len:Int)=len:=IntWalk.i64_in _ (by omega);go_wp2;refine bodyPost_ret (v:=.tuple #[Fev.V (.begin' fin op len),.bool true]) (by simp[results,results181,go_sem,Fev.V,T,U,X,Y,Z,M,F,u]) rfl ⟨rfl,?_⟩;have e:=b7.out.told5 ((E.out.to_ch _).trans H.out) hb (qv _) (.int .i64 1) (.int .i64 op) (.bool fin) (.int .i64 len) (.string ⟨#[]⟩);rw[←t.out]at e;exact e
theorem rk {b:Nat}{W:World}{r:Fr}(k:FrS b W r)(c:nZ r)(h0:r.st=0) :
  Calls prog 181 #[.pointer (some ⟨b,0,none⟩)] W (gc b W (az r)):=by
 unfold az;rw[if_neg (by omega),if_pos h0];cases a:ej r.inp with
 | none=>exact oP k c a
 | some x =>
  obtain⟨h,n⟩:=x;dsimp only;cases hm:mF true h with
  | false=>exact oQ k c a hm
  | true=>exact tO k c a hm (De a)
theorem tP (h:Hd)(a:Nat)(s:List UInt8)(W:World)(hs:s.length≤4611686018427387900)(y:Later (Gr W)) :
  Calls prog 78 #[.agg #[.int .u8 h.k0.toNat,.int .u8 h.k1.toNat,.int .u8 h.k2.toNat,.int .u8 h.k3.toNat],.int .i64 a,.string ⟨s.toArray⟩] y.w λe w'=>e=.returned (.string ⟨(df h a s).toArray⟩)∧∃z:Later (Gr W),w'=z.w :=
 Calls.later ((pS h a s y.w hs).mono λ_ w' ⟨b,c⟩=>⟨b,y.ok.trans c⟩)
theorem ww {b:Nat}{W:World}{r:Fr}(k:FrS b W r)(L:nZ r)(h0:r.h.len - r.told=0) :
  Calls prog 182 #[.pointer (some ⟨b,0,none⟩)] W (gc b W ({ r with st:=0 },some .fin)):=by
 obtain⟨d,l⟩:∃d,W.alloc (.cells #[.int .i64 0,.int .i64 0,.bool false,.int .i64 0,.string ⟨#[]⟩] 159)=d:=⟨_,rfl⟩;have m:Gr W d:=l▸Gr.alloc _ _;have P:=qq (l▸fR W _:EvZ W.heap.size d);have k1:=k.gr m;have I:=k.lt;have t:b≠W.heap.size:=by omega
 have z:W.heap.size≠b:=by omega
 have c1:=k1.c1;have c11:=k1.h.c8;have c13:=k1.c13;have fz:=k1.fz;have s:b<d.heap.size:=k1.lt;have A:=qq k1;have q:=qq m;obtain⟨_,u,f,_⟩:=L;obtain⟨ln,g⟩:∃n,r.h.len=n:=⟨_,rfl⟩;obtain⟨F,i⟩:∃n,r.told=n:=⟨_,rfl⟩;rw[g]at c11 h0 u f;rw[i]at c13 h0 f;have N:(ln:Int) - F=0:=by omega
 have O:IntKind.i64.wrap (ln:Int)=ln:=IntWalk.i64_in _ (by omega);have M:(ln:Int)≤9223372036854775807:=by omega
 haveI:Nonempty (Later (Gr d)):=⟨⟨d,Gr.refl d⟩⟩;have B:∀y:Later (Gr d),y.w.cell? ⟨b,11,none⟩=some (.int .u64 ln):=λy=>y.ok.cell c11;have D:∀y:Later (Gr d),y.w.cell? ⟨b,13,none⟩=some (.int .i64 F):=λy=>y.ok.cell c13;clear k k1 m g i;go_enter func182,ntmps182;go_upto_region 1 with(fail);refine ah (C:=Gr d) (by kernel_rfl) (by kernel_rfl) (Gr.drew' _) ?_;repeat (go_big_quiet_step (fail))
 refine wpQuiet_nil ?_;intro E c;have d1:=c.cell c1;have Y:∀o,E.frozen? ⟨b,o,none⟩=false:=λo=>(Below.frozen c (p:=⟨b,o,none⟩) s).trans (fz o);obtain⟨H,R,S,U,X,Z⟩:=P.out.gr c;have x:W.heap.size<E.heap.size:=ae H;have J:b<E.heap.size:=ae d1;have e:=qq c;clear B D c1 c11 c13 fz c;go_wp2;refine bodyPost_ret (v:=.tuple #[Fev.V .fin,.bool true]) (by simp[results,results182,go_sem,Fev.V,H,R,S,U,X,x,t,z]) rfl ⟨rfl,?_⟩;exact((A.out.gr e.out).setSt 0).told5 ((q.out.to_ch _).trans ((e.out.to_ch _).trans (Ch.setCell (T:=λj=>j=b) _ (a:=⟨b,1,none⟩) rfl _))) I (qv _) _ _ _ _ _
theorem tQ {b:Nat}{W:World}{r:Fr}(k:FrS b W r)(hk:nZ r)(h0:r.h.len - r.told≠0)(hm:min (r.h.len - r.told) r.inp.length=0) :
  Calls prog 182 #[.pointer (some ⟨b,0,none⟩)] W (gc b W (r,none)):=by
 obtain⟨d,j⟩:∃d,W.alloc (.cells #[.int .i64 0,.int .i64 0,.bool false,.int .i64 0,.string ⟨#[]⟩] 159)=d:=⟨_,rfl⟩;have z:Gr W d:=j▸Gr.alloc _ _;have U:=qq (j▸fR W _:EvZ W.heap.size d);have k1:=k.gr z;have Z:=k.lt;have B:b≠W.heap.size:=by omega
 have I:W.heap.size≠b:=by omega
 have c2:=k1.c2;have c11:=k1.h.c8;have c13:=k1.c13;have fz:=k1.fz;have A:b<d.heap.size:=k1.lt;have u:=qq k1;have q:=qq z;obtain⟨D,E,t,_⟩:=hk;obtain⟨p,H⟩:∃p,r.inp=p:=⟨_,rfl⟩;obtain⟨ln,f⟩:∃n,r.h.len=n:=⟨_,rfl⟩;obtain⟨x,i⟩:∃n,r.told=n:=⟨_,rfl⟩;rw[H]at c2 D hm;rw[f]at c11 h0 E t hm;rw[i]at c13 h0 t hm;obtain⟨e,c⟩:∃n,ln - x=n:=⟨_,rfl⟩;rw[c]at h0 hm;have a2:(ln:Int) - x=e:=by omega
 have R:((e:Int)==0)=false:=qk.2 (by omega);have a3:IntKind.i64.wrap (ln:Int)=ln:=IntWalk.i64_in _ (by omega);have S:IntKind.i64.wrap (e:Int)=e:=IntWalk.i64_in _ (by omega);have a1:(ln:Int)≤9223372036854775807:=by omega
 obtain⟨m,g⟩:∃m,min e p.length=m:=⟨_,rfl⟩;have a4:min (e:Int) (p.length:Int)=m:=by omega
 rw[g]at hm;haveI:Nonempty (Later (Gr d)):=⟨⟨d,Gr.refl d⟩⟩;have M:∀y:Later (Gr d),y.w.cell? ⟨b,11,none⟩=some (.int .u64 ln):=λy=>y.ok.cell c11;have N:∀y:Later (Gr d),y.w.cell? ⟨b,13,none⟩=some (.int .i64 x):=λy=>y.ok.cell c13;have a5:m≤p.length:=by omega
 have T:m≤e:=by omega
 have J:x+e≤9223372036854775807:=by omega
 have P:=qq (And.intro H (And.intro f (And.intro i (And.intro c g))));clear k k1 z f i H c g;go_enter func182,ntmps182;go_upto_region 1 with(fail);refine ah (C:=Gr d) (by kernel_rfl) (by kernel_rfl) (Gr.drew' _) ?_;repeat (go_big_quiet_step (fail))
 refine wpQuiet_nil ?_;intro O a;have d2:=a.cell c2;have Y:=a.cell c13;have dz:∀o,O.frozen? ⟨b,o,none⟩=false:=λo=>(Below.frozen a (p:=⟨b,o,none⟩) A).trans (fz o);have l:=U.out.gr a;have X:=u.out.gr a;have L:=qq X;have V:=qq l;have F:W.heap.size<O.heap.size:=l.lt;have a0:b<O.heap.size:=ae d2;have s:=qq (q.out.trans a);clear M N c2 c11 c13 fz a U u q j;obtain⟨z0,z1,z2,z3,z4,zf⟩:=l;subst hm;clear X;go_wp2;refine bodyPost_ret (v:=.tuple #[oO,.bool false]) (by simp[results,results182,go_sem,oO,z0,z1,z2,z3,z4,F,B,I]) rfl ⟨rfl,?_⟩;exact L.out.told5 (s.out.to_ch _) Z (qv _) _ _ _ _ _
theorem rm {b:Nat}{W:World}{r:Fr}(k:FrS b W r)(hk:nZ r)(h0:r.h.len - r.told≠0)(hm:min (r.h.len - r.told) r.inp.length≠0) :
  Calls prog 182 #[.pointer (some ⟨b,0,none⟩)] W (gc b W ({ r with inp:=r.inp.drop (min (r.h.len - r.told) r.inp.length),told:=r.told+min (r.h.len - r.told) r.inp.length },some (.piece (df r.h r.told (r.inp.take (min (r.h.len - r.told) r.inp.length)))))):=by
 obtain⟨t,H⟩:∃t,W.alloc (.cells #[.int .i64 0,.int .i64 0,.bool false,.int .i64 0,.string ⟨#[]⟩] 159)=t:=⟨_,rfl⟩;have g1:Gr W t:=H▸Gr.alloc _ _;have hz:=qq (H▸fR W _:EvZ W.heap.size t);have k1:=k.gr g1;have hb:=k.lt;have O:b≠W.heap.size:=by omega
 have F:W.heap.size≠b:=by omega
 have c2:=k1.c2;have c11:=k1.h.c8;have c13:=k1.c13;have fz:=k1.fz;have a3:b<t.heap.size:=k1.lt;have a0:=qq k1;have N:=qq g1;obtain⟨a6,a7,P,_⟩:=hk;obtain⟨p,X⟩:∃p,r.inp=p:=⟨_,rfl⟩;obtain⟨ln,i⟩:∃n,r.h.len=n:=⟨_,rfl⟩;obtain⟨g,s⟩:∃n,r.told=n:=⟨_,rfl⟩;rw[X]at c2 a6 hm;rw[i]at c11 h0 a7 P hm;rw[s]at c13 h0 P hm;obtain⟨D,c⟩:∃n,ln - g=n:=⟨_,rfl⟩;rw[c]at h0 hm;have a8:(ln:Int) - g=D:=by omega
 have R:((D:Int)==0)=false:=qk.2 (by omega);have b0:IntKind.i64.wrap (ln:Int)=ln:=IntWalk.i64_in _ (by omega);have U:IntKind.i64.wrap (D:Int)=D:=IntWalk.i64_in _ (by omega);have c3:(ln:Int)≤9223372036854775807:=by omega
 obtain⟨m,l⟩:∃m,min D p.length=m:=⟨_,rfl⟩;have b1:min (D:Int) (p.length:Int)=m:=by omega
 rw[l]at hm;haveI:Nonempty (Later (Gr t)):=⟨⟨t,Gr.refl t⟩⟩;have b7:∀y:Later (Gr t),y.w.cell? ⟨b,11,none⟩=some (.int .u64 ln):=λy=>y.ok.cell c11;have b8:∀y:Later (Gr t),y.w.cell? ⟨b,13,none⟩=some (.int .i64 g):=λy=>y.ok.cell c13;have c4:m≤p.length:=by omega
 have b9:m≤D:=by omega
 have b3:g+D≤9223372036854775807:=by omega
 have u:=qq (And.intro X (And.intro i (And.intro s (And.intro c l))));clear k k1 g1 i s X c l;go_enter func182,ntmps182;go_upto_region 1 with(fail);refine ah (C:=Gr t) (by kernel_rfl) (by kernel_rfl) (Gr.drew' _) ?_;repeat (go_big_quiet_step (fail))
 refine wpQuiet_nil ?_;intro e d;have d2:=d.cell c2;have M:=d.cell c13;have dz:∀o,e.frozen? ⟨b,o,none⟩=false:=λo=>(Below.frozen d (p:=⟨b,o,none⟩) a3).trans (fz o);have I:=hz.out.gr d;have k9:=a0.out.gr d;have J:=qq k9;have A:=qq I;have a9:W.heap.size<e.heap.size:=I.lt;have a4:b<e.heap.size:=ae d2;have x:=qq (N.out.trans d);clear b7 b8 c2 c11 c13 fz d hz a0 N H;have b2:((m:Int)==0)=false:=qk.2 (by omega);clear hm a8 R b0 U I;go_upto_region 8 with(fail);haveI:Nonempty (Later (Gr e)):=⟨⟨e,Gr.refl e⟩⟩;obtain⟨f0,f1,f2,f3,f4,f5,f6,f7,f8,f9⟩:=J.out.h;have u4:∀y:Later (Gr e),y.w.cell? ⟨b,7,none⟩=some (.int .u8 r.h.k0.toNat):=λy=>y.ok.cell f4;have u5:∀y:Later (Gr e),y.w.cell? ⟨b,8,none⟩=some (.int .u8 r.h.k1.toNat):=λy=>y.ok.cell f5;have u6:∀y:Later (Gr e),y.w.cell? ⟨b,9,none⟩=some (.int .u8 r.h.k2.toNat):=λy=>y.ok.cell f6;have u7:∀y:Later (Gr e),y.w.cell? ⟨b,10,none⟩=some (.int .u8 r.h.k3.toNat):=λy=>y.ok.cell f7;have u2:∀y:Later (Gr e),y.w.cell? ⟨b,2,none⟩=some (.string ⟨p.toArray⟩):=λy=>y.ok.cell d2;have a1:∀y:Later (Gr e),y.w.cell? ⟨b,13,none⟩=some (.int .i64 g):=λy=>y.ok.cell M;have b4:(⟨p.toArray⟩:ByteArray).extract 0 m=⟨(p.take m).toArray⟩:=by rw[av];simp
 have E:=qq (tP r.h g (p.take m) e (by rw[List.length_take];omega));obtain⟨q,hq⟩:∃q,df r.h g (p.take m)=q:=⟨_,rfl⟩;rw[hq]at E;have Y:=qq hq;clear f0 f1 f2 f3 f4 f5 f6 f7 f8 f9 hq d2 M k9;refine ah (C:=Gr e) (by kernel_rfl) (by kernel_rfl) (Gr.drew' _) ?_;repeat (go_big_quiet_step (with_reducible exact E.out _))
 refine wpQuiet_nil ?_;intro L f;have ka:=J.out.gr f;have Z:=A.out.gr f;have e2:L.cell? ⟨b,2,none⟩=some (.string ⟨p.toArray⟩):=u2 ⟨L,f⟩;have a2:L.cell? ⟨b,13,none⟩=some (.int .i64 g):=a1 ⟨L,f⟩;have ez:=ka.fz;have c1:b<L.heap.size:=ka.lt;have b5:=qq ka;have B:=qq Z;have z:=qq (x.out.trans f);have c5:(⟨p.toArray⟩:ByteArray).extract m p.length=⟨(p.drop m).toArray⟩:=by rw[av];simp
 have c0:IntKind.i64.wrap ((g:Int)+m)=(g:Int)+m:=IntWalk.i64_in _ (by omega);clear u2 u4 u5 u6 u7 a1 E ka Z f x J A dz a4 a9 b4;go_upto_region 9 with(fail);go_cut [] (λwx=>FrS b wx { r with inp:=p.drop m,told:=g+m }∧Ch (λj=>j=b) L wx)
 case first =>
  clear u Y B z hb O F b2 b1;go_big_region;all_goals
   go_wp2;go_meet;exact⟨((b5.out.setInp (p.drop m)).setTold (g+m)).gr (Gr.drew' _),((Ch.setCell (T:=λj=>j=b) _ (a:=⟨b,2,none⟩) rfl _).trans (Ch.setCell (T:=λj=>j=b) _ (a:=⟨b,13,none⟩) rfl _)).trans (Ch.drew _ _)⟩
 case rest =>
  obtain⟨kc,hc⟩:=hcut;obtain⟨z0,z1,z2,z3,z4,zf⟩:=B.out.ch hc F;have S:W.heap.size<wc.heap.size:=ae z0;have b6:=qq kc;have a5:=qq hc;clear kc hc e2 a2 ez;go_wp2;refine bodyPost_ret (v:=.tuple #[Fev.V (.piece q),.bool true]) (by simp[results,results182,go_sem,Fev.V,z0,z1,z2,z3,z4,S,O,F]) rfl ?_;obtain⟨X,i,s,c,l⟩:=u.out;rw[X,i,s,c,l,Y.out];exact⟨rfl,b6.out.told5 ((z.out.to_ch _).trans a5.out) hb (qv _) (.int .i64 2) (.int .i64 0) (.bool false) (.int .i64 0) (.string ⟨q.toArray⟩)⟩
theorem wy {b:Nat}{W:World}{r:Fr}(k:FrS b W r)(a:nZ r)(c:r.st≠2)(h0:r.st≠0) :
  Calls prog 182 #[.pointer (some ⟨b,0,none⟩)] W (gc b W (az r)):=by
 unfold az;rw[if_neg c,if_neg h0];by_cases h:r.h.len - r.told=0
 ·rw[if_pos h];exact ww k a h
 ·rw[if_neg h];by_cases hm:min (r.h.len - r.told) r.inp.length=0
  ·rw[if_pos hm];exact tQ k a h hm
  ·rw[if_neg hm];exact rm k a h hm
structure Evp where
 a0:Int
 a1:Int
 a2:Bool
 a3:Int
 a4:List UInt8
def Evp.V (x:Evp):Value:=.agg #[.int .i64 x.a0,.int .i64 x.a1,.bool x.a2,.int .i64 x.a3,.string ⟨x.a4.toArray⟩]
def evp:Option Fev→Evp
 | none=>⟨0,0,false,0,[]⟩
 | some (.begin' f o n)=>⟨1,o,f,n,[]⟩
 | some (.piece s)=>⟨2,0,false,0,s⟩
 | some .fin=>⟨3,0,false,0,[]⟩
 | some .fail=>⟨4,0,false,0,[]⟩
theorem gE (o:Option Fev):Ew o=.tuple #[(evp o).V,.bool o.isSome]:=by
 cases o with
 | none=>rfl
 | some e=>cases e <;> rfl
theorem wz {b:Nat}{W:World}{r:Fr}(k:FrS b W r)(I:nZ r) :
  Calls prog 147 #[.pointer (some ⟨b,0,none⟩)] W (gc b W (az r)):=by
 obtain⟨H,s⟩:∃H,W.alloc (.cells #[.int .i64 0,.int .i64 0,.bool false,.int .i64 0,.string ⟨#[]⟩] 159)=H:=⟨_,rfl⟩;have o:Gr W H:=s▸Gr.alloc _ _;have C:=s▸fR W 159;have k1:=k.gr o;have E:=k.lt;have M:b≠W.heap.size:=by omega
 have q:W.heap.size≠b:=by omega
 have c1:=k1.c1;have F:=qq k1;have g:=qq o;have t:=qq C;by_cases p:r.st=2
 ·have f:=qq (show az r=(r,none) by unfold az;rw[if_pos p]);rw[p]at c1;obtain⟨u,w,z,A,B,J⟩:=C;clear k k1 o;go_enter func147,ntmps147;go_wp2;refine bodyPost_ret (v:=.tuple #[oO,.bool false]) (by simp[results,results147,go_sem,oO,u,w,z,A,B]) rfl ?_;rw[f.out];exact⟨rfl,F.out.told5 (g.out.to_ch _) E (qv _) _ _ _ _ _⟩
 ·have D:((r.st:Int)==2)=false:=qk.2 (by omega);by_cases h0:r.st=0
  ·have c:=qq (rk k1 I h0);rw[h0]at c1;clear k k1 o C p D;go_enter func147,ntmps147;go_wp2_with fail;refine(c.out).mono ?_;rintro e N⟨rfl,k2,a⟩;obtain⟨u,w,z,A,B,J⟩:=t.out.ch a q;have n:=qq k2;have d:=qq a;rw[gE];obtain⟨x,i⟩:∃x,az r=x:=⟨_,rfl⟩;have j:=qq i;rw[i];obtain⟨y,l⟩:∃y,evp x.2=y:=⟨_,rfl⟩;have m:=qq l;rw[l];obtain⟨v,f⟩:∃v,x.2.isSome=v:=⟨_,rfl⟩;have h:=qq f;rw[f];unfold Evp.V;clear k2 a i l f c c1;go_wp2;refine bodyPost_ret (v:=.tuple #[y.V,.bool v]) (by simp[results,results147,go_sem,Evp.V,u,w,z,A,B]) rfl ⟨?_,?_⟩
   ·rw[gE,j.out,m.out,h.out]
   ·exact n.out.told5 ((g.out.to_ch _).trans d.out) E (qv _) _ _ _ _ _
  ·have c:=qq (wy k1 I p h0);have L:((r.st:Int)==0)=false:=qk.2 (by omega);clear k k1 o C p;go_enter func147,ntmps147;go_wp2_with fail;refine(c.out).mono ?_;rintro e N⟨rfl,k2,a⟩;obtain⟨u,w,z,A,B,J⟩:=t.out.ch a q;have n:=qq k2;have d:=qq a;rw[gE];obtain⟨x,i⟩:∃x,az r=x:=⟨_,rfl⟩;have j:=qq i;rw[i];obtain⟨y,l⟩:∃y,evp x.2=y:=⟨_,rfl⟩;have m:=qq l;rw[l];obtain⟨v,f⟩:∃v,x.2.isSome=v:=⟨_,rfl⟩;have h:=qq f;rw[f];unfold Evp.V;clear k2 a i l f c c1;go_wp2;refine bodyPost_ret (v:=.tuple #[y.V,.bool v]) (by simp[results,results147,go_sem,Evp.V,u,w,z,A,B]) rfl ⟨?_,?_⟩
   ·rw[gE,j.out,m.out,h.out]
   ·exact n.out.told5 ((g.out.to_ch _).trans d.out) E (qv _) _ _ _ _ _
theorem Ap (b:Nat)(W:World) :
  Calls prog 120 #[.pointer (some ⟨b,0,none⟩)] W λe w'=>e=.returned (.func (.func 146) #[] #[.pointer (some ⟨W.heap.size,0,none⟩)])∧W.alloc (.cells #[.pointer (some ⟨b,0,none⟩)] 116)=w':=by
 go_enter func120,ntmps120;go_wp2;go_ret;exact⟨rfl,rfl⟩
