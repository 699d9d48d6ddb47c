/-
  Plain laws of sessions: what stays within bounds; no program in sight.
-/
import Derived.Test.YtadobobfjnmdlaaGreatDoorHc
set_option linter.unnecessarySimpa false
set_option linter.unusedVariables false
set_option linter.unusedSimpArgs false
set_option maxHeartbeats 16000000
set_option maxRecDepth 100000
open Go.Proofs.Tryz
namespace Go.Proofs.YtadobobfjnmdlaaGreatDoor
theorem jN:∀(s l:List UInt8),l∈au s→l.length≤s.length
 | [],l,h=>by
  unfold au at h;rcases List.mem_singleton.1 h with rfl;exact qv _
 | c :: t,l,h=>by
  unfold au at h;split at h
  ·rcases List.mem_cons.1 h with rfl | h
   ·exact qx _
   ·have:=jN t.tail l h;rw[List.length_tail]at this;rw[List.length_cons];omega
  ·have a:=jN t;cases e:au t with
   | nil =>
    rw[e]at h;rcases List.mem_singleton.1 h with rfl;exact Nat.succ_le_succ (qx _)
   | cons x xs =>
    rw[e]at h a;rcases List.mem_cons.1 h with rfl | h
    ·have:=a x (List.mem_cons_self ..);rw[List.length_cons,List.length_cons];omega
    ·have:=a l (List.mem_cons_of_mem _ h);rw[List.length_cons];omega
 termination_by s=>s.length
 decreasing_by
  all_goals simp_wf
  all_goals (try omega)
theorem vO (l:List UInt8):(ax l).1.length≤l.length∧(ax l).2.1.length≤l.length:=by
 unfold ax;split
 ·exact⟨dY l [58],qy (pJ _) (eG l [58])⟩
 ·exact⟨qx _,qx _⟩
theorem l6 (n:Nat):∀(a:List (List UInt8)) (fs:List Fl),br a=some fs→(∀l∈a,l.length≤n)→fs.length=a.length∧∀f∈fs,f.1.length≤n∧f.2.length≤n
 | [],fs,h,_=>by
  cases h;exact⟨rfl,λf hf=>by cases hf⟩
 | l :: t,fs,h,hl=>by
  unfold br at h;split at h
  ·cases e:br t with
   | none=>rw[e]at h;cases h
   | some c =>
    rw[e]at h;cases h;obtain⟨d,i⟩:=l6 n t c e (λx j=>hl x (List.mem_cons_of_mem _ j));refine⟨by rw[List.length_cons,List.length_cons,d],λf hf=>?_⟩;rcases List.mem_cons.1 hf with rfl | hf
    ·have:=hl l (List.mem_cons_self ..);have k:=vO l;exact⟨by dsimp only;omega,by dsimp only;omega⟩
    ·exact i f hf
  ·cases h
structure RqB (n:Nat)(r:Rq):Prop where
 l:r.fs.length≤33
 f:∀f∈r.fs,f.1.length≤n∧f.2.length≤n
 m:r.m.length≤n
 p:r.p.length≤n
 q:r.q.length≤n
 b:r.b.length≤4096
theorem zN (l:List UInt8):(bV l).1.length≤l.length∧(bV l).2.1.length≤l.length:=by
 unfold bV;dsimp only;split
 ·exact⟨dY l [32],qy (dY _ [32]) (eG l [32])⟩
 ·exact⟨qx _,qx _⟩
theorem tw (l:List UInt8):(cJ l).1.length≤l.length∧(cJ l).2.1.length≤l.length:=by
 unfold cJ;dsimp only;split
 ·exact⟨dY l [63],eG l [63]⟩
 ·exact⟨qx _,qx _⟩
theorem zO {n:Nat}{a:List (List UInt8)}(hl:∀l∈a,l.length≤n){r:Rq}{k:Nat}{ch:Bool}(h:headQ a=.good r k ch):RqB n r:=by
 have j:=jH h;unfold headQ at h;split at h
 ·cases h
 ·rename_i f;cases e:br a.tail with
  | none=>rw[e]at h;cases h
  | some fs =>
   rw[e]at h;obtain⟨c,d⟩:=l6 n a.tail fs e (λl i=>hl l (List.mem_of_mem_tail i));have m:(a.headD []).length≤n:=by
    cases a with
    | nil=>exact qx _
    | cons x t=>exact hl x (List.mem_cons_self ..)
   have o:=zN (a.headD []);have p:=tw (bV (a.headD [])).2.1;rw[List.length_tail]at c;dsimp only at h
   repeat' split at h
   all_goals first
    | cases h;done
    |(cases h
      exact⟨by dsimp only;omega,d,by dsimp only;omega,by dsimp only;omega,by dsimp only;omega,qx _⟩)
theorem CkOk.data_le {c:Ck}(h:CkOk c):c.data.length≤4096:=h.data
theorem CC {n:Nat}{s:List UInt8}(hs:s.length≤n){r:Rq}{k:Nat}(h:bW s=.got r k):RqB n r:=by
 unfold bW at h;split at h
 ·cases e:headQ (au (s.take (Lib.index s ar).toNat))with
  | bad c=>rw[e]at h;cases h
  | good a m ch =>
   rw[e]at h;have h0:=zO (n:=n) (λl hl=>by
    have:=jN _ l hl;rw[List.length_take]at this;omega) e
   have hm:=(jH e).2;dsimp only at h;split at h
   ·split at h
    ·cases h
    ·split at h
     ·cases h;exact⟨h0.l,h0.f,h0.m,h0.p,h0.q,(kt _).data_le⟩
     ·cases h
   ·split at h
    ·cases h
    ·cases h;refine⟨h0.l,h0.f,h0.m,h0.p,h0.q,?_⟩;dsimp only;rw[List.length_take];omega
 ·split at h <;> cases h
structure PsB (n:Nat)(p:Ps):Prop where
 sum:p.inp.length+p.und.length≤n
 st:∃s,Stands p s∧s.length≤n
theorem EK:PsB 0 ps0:=⟨qv _,[],vG,qv _⟩
theorem PsB.le {n m:Nat}{p:Ps}(h:PsB n p)(hm:n≤m):PsB m p:=⟨qy h.sum hm,let ⟨s,h1,h2⟩:=h.st;⟨s,h1,qy h2 hm⟩⟩
theorem PsB.feed {n:Nat}{p:Ps}(h:PsB n p)(t:List UInt8):PsB (n+t.length) (fJ p t):=by
 obtain⟨s,a,c⟩:=h.st;refine⟨?_,s++t,a.feed t,by rw[qw];omega⟩;have:=h.sum;unfold fJ;split
 ·dsimp only;rw[qw];omega
 ·omega
theorem zP (p:Ps)(t:List UInt8):(eU p t).inp=p.inp∧(eU p t).und=p.und:=by
 unfold eU;cases headQ (au t) <;> exact⟨rfl,rfl⟩
theorem tz (p:Ps):(aE p).inp.length+(aE p).und.length=p.inp.length+p.und.length:=by
 unfold aE;split
 ·obtain⟨a,c⟩:=zP p (p.inp.take (Lib.index p.inp ar).toNat);split
  ·unfold cz;dsimp only;rw[a,c,qw,List.length_take,List.length_drop];omega
  ·rw[a,c]
 ·split <;> rfl
theorem vP (p:Ps):(aB p).1.inp.length+(aB p).1.und.length≤p.inp.length+p.und.length:=by
 unfold aB;split
 ·split
  ·exact qv _
  ·dsimp only;rw[List.length_drop];omega
 ·simp only[cz,qw,List.length_take,List.length_drop];omega
theorem PsB.next {n:Nat}{p:Ps}(h:PsB n p):PsB n (bu p).1∧(∀r,(bu p).2=some r→RqB n r)∧((bu p).2=none→(bu p).1.bad≤431):=by
 obtain⟨s,i,f⟩:=h.st;have hn:=i.next;have d:(bu p).1.inp.length+(bu p).1.und.length≤n:=by
  have j:(if p.head then p else aE p).inp.length+(if p.head then p else aE p).und.length=p.inp.length+p.und.length:=by
   split
   ·rfl
   ·exact tz p
  have:=h.sum;unfold bu;split
  ·exact h.sum
  ·dsimp only;generalize (if p.head then p else aE p)=x at j ⊢;have l:=vP x;split
   ·dsimp only;omega
   ·split
    ·dsimp only[ps0];rw[List.length_nil];omega
    ·dsimp only;omega
 unfold eT at hn;cases e:bW s with
 | more =>
  rw[e]at hn;exact⟨⟨d,s,hn.2.2,f⟩,λr a=>(by rw[hn.1]at a;cases a),λ_=>by rw[hn.2.1];decide⟩
 | bad c =>
  rw[e]at hn;exact⟨⟨d,s,hn.2.2,f⟩,λr a=>(by rw[hn.1]at a;cases a),λ_=>by rw[hn.2.1];rcases jI e with h | h | h <;> omega⟩
 | got r k =>
  rw[e]at hn;refine⟨⟨d,s.drop k,?_,by rw[List.length_drop];omega⟩,λm a=>?_,λa=>?_⟩
  ·rw[hn.2];exact .fresh rfl
  ·rw[hn.1]at a;cases a;exact CC f e
  ·rw[hn.1]at a;cases a
theorem PsB.rest {n:Nat}{p:Ps}(h:PsB n p):PsB n (eN p).1∧(eN p).2.length≤n:=by
 obtain⟨s,a,c⟩:=h.st;rw[a.rest];split
 ·exact⟨h,qx _⟩
 ·exact⟨EK.le (qx _),c⟩
open Go.RowKit Go.Shelf
attribute [local go_sem] Oper.semAt_some
theorem tA (e:Sev):∃(a c:Int) (t:ByteArray),er e=.agg #[.int .i64 a,.int .i64 c,.string t]:=by cases e <;> exact⟨_,_,_,rfl⟩
theorem zQ (c:Int):(aU c).length≤1000000:=by
 unfold aU
 repeat' split
 all_goals decide
theorem G.hi {T:Nat→Prop}{W a:World}(h:G W)(hi:Hi T)(c:Ch T W a):G a:=h.ch c (λg d e=>absurd (hi g e) (by omega))
theorem RqB.sm {n:Nat}{r:Rq}(h:RqB n r)(hn:n≤100000):RqSm r:=⟨qy h.l (by decide),λf hf=>⟨qy (h.f f hf).1 hn,qy (h.f f hf).2 hn⟩,qy h.m hn,qy h.p hn,qy h.q hn,qy h.b (by decide)⟩
theorem zR {b:Nat}{d:Value}{T:Nat→Prop}{W:World}{s:Ss}(h:bT b d T W s):∃a,W.cell? ⟨b,3,none⟩=some (.pointer (some ⟨a,0,none⟩))∧Calls prog 69 #[.pointer (some ⟨a,0,none⟩)] W λe w'=>e=.returned (.int .i64 s.p.bad)∧W=w':=by
 obtain⟨⟨c,a,f,cv,h,i⟩,hl⟩:=h;exact⟨a,h.c3,AV h.kp⟩
section
variable {b:Nat} {g:Nat} {lb:Array Value} {F T:Nat→Prop} {H:Rq→Rp} {W:World} {s:Ss}
theorem Ed (h:bT b (.func (.func g) #[] lb) T W s)(hG:G W)(hi:Hi T)(hH:Hnd g lb F H W)(hF:∀k,F k→¬T k)(a7:s.limit≤1099511627776)(hB:PsB 90000 s.p):Calls prog 41 #[.pointer (some ⟨b,0,none⟩)] W λe w'=>e=.returned (.tuple #[fT (cF H s).2,.bool (cF H s).2.isSome])∧Pst (bT b (.func (.func g) #[] lb)) T W (cF H s).1 w':=by
 have y:=qq h.2;obtain⟨⟨c,pb,bb,cv,h,hT⟩,hl⟩:=h;obtain⟨B,t⟩:∃B,W.alloc (.cells #[.int .i64 0,.int .i64 0,.string ⟨#[]⟩] 28)=B:=⟨_,rfl⟩;have g1:Gr W B:=t▸Gr.alloc W _;have D:=qq (show W.heap.size<B.heap.size by rw[←t];simp);have e0:B.cell? ⟨W.heap.size,0,none⟩=some (.int .i64 0):=by rw[←t];exact aa _ _ _ 0 _ rfl
 have e1:B.cell? ⟨W.heap.size,1,none⟩=some (.int .i64 0):=by rw[←t];exact aa _ _ _ 1 _ rfl
 have e2:B.cell? ⟨W.heap.size,2,none⟩=some (.string ⟨#[]⟩):=by rw[←t];exact aa _ _ _ 2 _ rfl
 have N:∀o,B.frozen? ⟨W.heap.size,o,none⟩=false:=λo=>by rw[←t];exact World.frozen?_alloc_at _ _ _ _ rfl
 have h1:=h.gr g1;have b6:=qq (λk (e:T k)=>qj (hl k e) (Below.size g1));have S:=hG.gr g1;have a3:=hH.gr g1;have hn:=qq (ya S h1.kp hB.sum);obtain⟨J,hr,x⟩:=hB.next;have c3:=h1.c3;have a5:=qq hT;have R:=qq g1;have b1:=qq h1;have a1:=qq S;have a4:=qq a3;obtain⟨u,o,Z⟩:∃u o,bu s.p=(u,o):=⟨_,_,rfl⟩;have b0:cF H s=match ((u,o):Ps×Option Rq)with
   |(p,some r)=>((aZ H { s with p:=p } r).1,some (aZ H { s with p:=p } r).2)
   |(p,none)=>if p.bad=0 then({ s with p:=p },none) else(cU { s with p:=p } ⟨p.bad,[],aU p.bad⟩ false true,some .done):=by rw[←Z];rfl
 rw[Z]at hn J hr x;dsimp only at hn J hr x;have hq:=qq b0;have b7:=qq hr;have U:=qq x;have a0:=qq J;clear h hT hl hG hH hB b0 Z hr x J g1 h1 S a3;go_enter func41,ntmps41;go_wp2_with fail;refine hn.out.mono ?_;rintro e A⟨rv,rfl,hf,hp⟩;try rw[t]
 have b4:=qq hf;obtain⟨pf,M,rfl,_⟩:=hf;unfold Rq.V;have h2:=b1.out.setP hp;have i:=qq (h2.pst b6.out (hp.2.mono (λk e=>a5.out k (by rw[show c k=2 from e];decide))) (cH a5.out (qv _)));have c1:=qq i;have a:W.heap.size<B.heap.size:=ae e0;have d:¬T (W.heap.size):=λe=>by have:=y.out _ e;omega
 replace e0:=(i.out.2.cell (p:=⟨W.heap.size,0,none⟩) a d).trans e0;replace e1:=(i.out.2.cell (p:=⟨W.heap.size,1,none⟩) a d).trans e1;replace e2:=(i.out.2.cell (p:=⟨W.heap.size,2,none⟩) a d).trans e2;replace N:∀o,A.frozen? ⟨W.heap.size,o,none⟩=false:=λo=>(i.out.2.frozen (p:=⟨W.heap.size,o,none⟩) a d).trans (N o);have O:=qq a;clear a;clear h2 hp c3 t;go_upto_region 2 with(fail);obtain⟨w3,l⟩:∃w3,A.alloc (.cells #[.string ⟨(rqO o).m.toArray⟩,.string ⟨(rqO o).p.toArray⟩,.string ⟨(rqO o).q.toArray⟩,.int .i64 (rqO o).v,.slice pf (rqO o).fs.length M,.string ⟨(rqO o).b.toArray⟩,.bool (rqO o).c] 78)=w3:=⟨_,rfl⟩;try rw[l]
 have C:Gr A w3:=l▸Gr.alloc A _;have b2:W.heap.size<A.heap.size:=ae e0;replace e0:=C.cell e0;replace e1:=C.cell e1;replace e2:=C.cell e2;replace N:∀o,w3.frozen? ⟨W.heap.size,o,none⟩=false:=λo=>(Below.frozen C (p:=⟨W.heap.size,o,none⟩) b2).trans (N o);have z:=qq ((aD b (.func (.func g) #[] lb)).behind i.out C);have b5:=qq (b4.out.gr C);have a2:=qq ((a1.out.hi hi i.out.2).gr C);have b3:=qq ((a4.out.ch i.out.2 hF).gr C);cases o with
 | some r =>
  have b9:=(b7.out r rfl).sm (by decide);have a6:=qq (uD z.out.1 a2.out b3.out r _ b5.out b9 a7 a0.out.sum);unfold Rq.V at a6;have r0:w3.cell? ⟨A.heap.size,0,none⟩=some (.string ⟨r.m.toArray⟩):=by rw[←l];exact aa _ _ _ 0 _ rfl
  have r1:w3.cell? ⟨A.heap.size,1,none⟩=some (.string ⟨r.p.toArray⟩):=by rw[←l];exact aa _ _ _ 1 _ rfl
  have r2:w3.cell? ⟨A.heap.size,2,none⟩=some (.string ⟨r.q.toArray⟩):=by rw[←l];exact aa _ _ _ 2 _ rfl
  have r3:w3.cell? ⟨A.heap.size,3,none⟩=some (.int .i64 r.v):=by rw[←l];exact aa _ _ _ 3 _ rfl
  have r4:w3.cell? ⟨A.heap.size,4,none⟩=some (.slice pf r.fs.length M):=by rw[←l];exact aa _ _ _ 4 _ rfl
  have r5:w3.cell? ⟨A.heap.size,5,none⟩=some (.string ⟨r.b.toArray⟩):=by rw[←l];exact aa _ _ _ 5 _ rfl
  have r6:w3.cell? ⟨A.heap.size,6,none⟩=some (.bool r.c):=by rw[←l];exact aa _ _ _ 6 _ rfl
  have I:=qq (show cF H s=((aZ H { s with p:=u } r).1,some (aZ H { s with p:=u } r).2)from hq.out);clear l C hn;go_wp2_with fail;refine a6.out.mono ?_;rintro e P⟨rfl,j⟩;obtain⟨n0,n1,nt,X⟩:=tA (aZ H { s with p:=u } r).2;rw[X];have a8:=qq X;have Y:=qq ((aD b (.func (.func g) #[] lb)).trans z.out j);clear X r0 r1 r2 r3 r4 r5 r6;have a:W.heap.size<w3.heap.size:=ae e0;have d:¬Add T B w3 (W.heap.size):=λe=>by
   have:=D.out;rcases e with e | e
   ·have:=y.out _ e;omega
   ·have:=e.1;omega
  replace e0:=(j.2.cell (p:=⟨W.heap.size,0,none⟩) a d).trans e0;replace e1:=(j.2.cell (p:=⟨W.heap.size,1,none⟩) a d).trans e1;replace e2:=(j.2.cell (p:=⟨W.heap.size,2,none⟩) a d).trans e2;replace N:∀o,P.frozen? ⟨W.heap.size,o,none⟩=false:=λo=>(j.2.frozen (p:=⟨W.heap.size,o,none⟩) a d).trans (N o);have O:=qq a;clear a;go_wp2;refine bodyPost_ret (v:=.tuple #[.agg #[.int .i64 n0,.int .i64 n1,.string nt],.bool true]) (by simp[results,results41,go_sem,er,fT,e0,e1,e2]) rfl ?_;rw[I.out];exact⟨by rw[←a8.out];rfl,cj (aD b (.func (.func g) #[] lb)) y.out R.out Y.out (ch3 P W.heap.size _ _ _) (λk e=>⟨by rw[show k=W.heap.size from e];exact qv _,by rw[show k=W.heap.size from e];exact D.out⟩)⟩
 | none =>
  have n:=qq (zR z.out.1);have L:cF H s=if u.bad=0 then({ s with p:=u },none) else(cU { s with p:=u } ⟨u.bad,[],aU u.bad⟩ false true,some .done):=hq.out;have E:=U.out rfl;by_cases hz:u.bad=0
  ·have I:=qq (L.trans (if_pos hz));rw[hz]at n;clear L hz l C hn E;obtain⟨c0,k3,n⟩:=n.out;have n:=qq n;go_wp2_with fail;refine n.out.mono ?_;rintro e P⟨rfl,rfl⟩;go_wp2;refine bodyPost_ret (v:=.tuple #[fT none,.bool false]) (by simp[results,results41,go_sem,er,fT,e0,e1,e2]) rfl ?_;rw[I.out];exact⟨rfl,cj (aD b (.func (.func g) #[] lb)) y.out R.out z.out (ch3 w3 W.heap.size _ _ _) (λk e=>⟨by rw[show k=W.heap.size from e];exact qv _,by rw[show k=W.heap.size from e];exact D.out⟩)⟩
  ·have I:=qq (L.trans (if_neg hz));have c2:((u.bad:Int)==0)=false:=beq_false_of_ne (by omega);have a9:=qq (λw (gw:Gr w3 w)=>mA ((aD b (.func (.func g) #[] lb)).gr z.out.1 gw) (a2.out.gr gw) ⟨u.bad,[],aU u.bad⟩ (.slice none 0 0) (bN w 0) ⟨qx _,(λf hf=>by cases hf),zQ _,(by dsimp only;omega),(by dsimp only;omega)⟩ false true);unfold Rp.V at a9;clear L hz l C hn E;obtain⟨c0,k3,n⟩:=n.out;have n:=qq n;have b8:=qq (oy (u.bad:Int) w3);go_wp2_with fail;refine n.out.mono ?_;rintro e P⟨rfl,rfl⟩;go_wp2_with fail;refine b8.out.mono ?_;rintro e P⟨rfl,rfl⟩;go_wp2_with fail;refine(a9.out _ (Gr.refl _)).mono ?_;rintro e P⟨rfl,j⟩;have Y:=qq ((aD b (.func (.func g) #[] lb)).trans z.out j);have a:W.heap.size<w3.heap.size:=ae e0;have d:¬Add T B w3 (W.heap.size):=λe=>by
    have:=D.out;rcases e with e | e
    ·have:=y.out _ e;omega
    ·have:=e.1;omega
   replace e0:=(j.2.cell (p:=⟨W.heap.size,0,none⟩) a d).trans e0;replace e1:=(j.2.cell (p:=⟨W.heap.size,1,none⟩) a d).trans e1;replace e2:=(j.2.cell (p:=⟨W.heap.size,2,none⟩) a d).trans e2;replace N:∀o,P.frozen? ⟨W.heap.size,o,none⟩=false:=λo=>(j.2.frozen (p:=⟨W.heap.size,o,none⟩) a d).trans (N o);have O:=qq a;clear a;clear j;go_wp2;refine bodyPost_ret (v:=.tuple #[er .done,.bool true]) (by simp[results,results41,go_sem,er,fT,e0,e1,e2]) rfl ?_;rw[I.out];exact⟨rfl,cj (aD b (.func (.func g) #[] lb)) y.out R.out Y.out (ch3 P W.heap.size _ _ _) (λk e=>⟨by rw[show k=W.heap.size from e];exact qv _,by rw[show k=W.heap.size from e];exact D.out⟩)⟩
end
def kE:Wev→Nat
 | .closing n=>n
 | .failing n=>n
 | _=>0
def nS:Wev→Nat
 | .ping t=>t.length
 | _=>0
theorem jO {j:Jn}{c:Nat}(h:j.bad≤1009)(a:c≤1009):(aF j c).bad≤1009:=by
 unfold aF;split
 ·exact a
 ·exact h
theorem tB {j:Jn}(h:j.bad≤1009)(l:Bool)(o n:Nat):(aG j l o n).bad≤1009:=by
 unfold aG
 repeat' split
 all_goals first | exact h | exact jO h (by decide)
theorem tC {j:Jn}(h:j.bad≤1009)(s:List UInt8):(aA j s).bad≤1009:=by
 unfold aA
 repeat' split
 all_goals first | exact h | exact jO h (by decide)
theorem zS {j:Jn}(h:j.bad≤1009):(aI j).1.bad≤1009:=by
 unfold aI
 repeat' split
 all_goals first | exact h | exact jO h (by decide)
theorem vQ (s:List UInt8):(dg s).1≤65535∧(dg s).2≤1009:=by
 have h0:=(s.getD 0 0).toNat_lt;have a:=(s.getD 1 0).toNat_lt;unfold dg
 repeat' split
 all_goals (refine⟨?_,?_⟩ <;> dsimp only <;> omega)
theorem oL {c:Wn}(h:c.j.bad≤1009)(e:Fev):(aq c e).1.j.bad≤1009∧∀x,(aq c e).2=some x→kE x≤65535∧nS x≤c.data.length:=by
 have q:=vQ c.data;have f:=λl o n=>tB h l o n;have k:=λs=>tC h s;have i:=zS h;have none:∀x,(none:Option Wev)=some x→kE x≤65535∧nS x≤c.data.length:=λx e=>by cases e
 have fail:∀n,n≤1009→∀x,some (Wev.failing n)=some x→kE x≤65535∧nS x≤c.data.length:=λn hn x e=>by cases e;exact⟨qy hn (by decide),qx _⟩
 have d:∀e,(bh c e).1.j.bad≤1009∧∀x,(bh c e).2=some x→kE x≤65535∧nS x≤c.data.length:=by
  intro e;unfold bh;split
  ·exact⟨h,none⟩
  ·split
   ·split
    ·exact⟨h,fail _ q.2⟩
    ·exact⟨h,λx e=>by cases e;exact⟨q.1,qx _⟩⟩
   ·split
    ·exact⟨h,λx e=>by cases e;exact⟨qx _,qv _⟩⟩
    ·exact⟨h,none⟩
 have a:∀e,(bw c e).1.j.bad≤1009∧∀x,(bw c e).2=some x→kE x≤65535∧nS x≤c.data.length:=by
  intro e;unfold bw;cases e with
  | begin' l o n =>
   dsimp only;split
   ·exact⟨f l o n,fail _ (f l o n)⟩
   ·exact⟨f l o n,none⟩
  | piece s =>
   dsimp only;split
   ·exact⟨k s,fail _ (k s)⟩
   ·exact⟨k s,none⟩
  | fin =>
   dsimp only;split
   ·exact⟨i,fail _ i⟩
   ·refine⟨i,λx e=>?_⟩;cases p:(aI c.j).2 with
    | none=>rw[p]at e;cases e
    | some m=>rw[p]at e;cases e;exact⟨qx _,qx _⟩
  | fail=>exact⟨h,none⟩
 unfold aq;cases e with
 | fail=>exact⟨h,fail _ (by decide)⟩
 | begin' l o n =>
  dsimp only;split
  ·exact⟨h,none⟩
  ·split
   ·exact d _
   ·split
    ·exact⟨h,none⟩
    ·exact a _
 | piece s =>
  dsimp only;split
  ·exact d _
  ·split
   ·exact⟨h,none⟩
   ·exact a _
 | fin =>
  dsimp only;split
  ·exact d _
  ·split
   ·exact⟨h,none⟩
   ·exact a _
theorem jP {n:Nat}:∀(m:Nat) (c:Wn),WnB n c→c.j.bad≤1009→(kN m c).1.j.bad≤1009∧∀x,(kN m c).2=some x→kE x≤65535∧nS x≤n
 | 0,c,_,h=>⟨h,λx e=>by cases e⟩
 | m+1,c,hB,h=>by
  unfold kN;split
  ·exact⟨h,λx e=>by cases e⟩
  ·cases hn:az c.r with
   | mk r o =>
    cases o with
    | none=>exact⟨h,λx e=>by cases e⟩
    | some e =>
     have hs:=hB.step hn;have a:=oL (c:={ c with r:=r }) h e;have k:c.data.length≤n:=(by have:=hB.d;omega);dsimp only;split
     ·rename_i c' x f;rw[f]at a;exact⟨a.1,λy i=>by cases i;exact⟨(a.2 _ rfl).1,qy (a.2 _ rfl).2 k⟩⟩
     ·rename_i c' f;rw[f]at a hs;exact jP m c' hs.1 a.1
structure WnC (n:Nat)(c:Wn):Prop where
 b:WnB n c
 j:c.j.bad≤1009
theorem EL (limit:Nat):WnC 0 (wn0 limit):=⟨FR limit,qx _⟩
theorem WnC.le {n m:Nat}{c:Wn}(h:WnC n c)(hm:n≤m):WnC m c:=⟨h.b.le hm,h.j⟩
theorem WnC.feed {n:Nat}{c:Wn}(h:WnC n c)(b:List UInt8):WnC (n+b.length) (aN c b):=⟨h.b.feed b,by
 have:=h.j;unfold aN;split <;> exact this⟩
theorem WnC.over {n:Nat}{c:Wn}(h:WnC n c):WnC n (ia c):=⟨h.b.over,h.j⟩
theorem WnC.shut {n:Nat}{c:Wn}(h:WnC n c):WnC n (cS c):=⟨h.b.shut,by
 have:=h.j;unfold cS;split <;> exact this⟩
theorem WnC.next {n:Nat}{c:Wn}(h:WnC n c):WnC n (bP c).1∧∀x,(bP c).2=some x→kE x≤65535∧nS x≤n :=
 ⟨⟨h.b.next,(jP _ c h.b h.j).1⟩,(jP _ c h.b h.j).2⟩
structure BxT (n:Nat)(x:Bx):Prop where
 p:∀s,x.pong=some s→s.length≤n
 m:∀i∈x.msgs,i.text.length≤n
 c:∀s,x.close=some s→s.length≤2
theorem F5 (q:Nat):BxT 0 (bx0 q):=⟨(λs e=>by cases e),(λi hi=>by cases hi),(λs e=>by cases e)⟩
theorem BxT.le {n m:Nat}{x:Bx}(h:BxT n x)(hm:n≤m):BxT m x:=⟨λs e=>qy (h.p s e) hm,λi hi=>qy (h.m i hi) hm,h.c⟩
theorem BxT.reply {n:Nat}{x:Bx}(h:BxT n x)(s:List UInt8):BxT n (bD x s).1:=by
 unfold bD
 repeat' split
 all_goals exact⟨h.p,h.m,h.c⟩
theorem BxT.pong {n:Nat}{x:Bx}(h:BxT n x)(s:List UInt8)(hs:s.length≤n):BxT n (dl x s).1:=by
 unfold dl;split
 ·exact h
 ·exact⟨λt e=>by cases e;exact hs,h.m,h.c⟩
theorem BxT.message {n:Nat}{x:Bx}(h:BxT n x)(op:Int)(s:List UInt8)(hs:s.length≤n):BxT n (bi x op s).1:=by
 unfold bi
 repeat' split
 ·exact h
 ·exact h
 ·refine⟨h.p,λi hi=>?_,h.c⟩;rcases List.mem_append.1 hi with hi | hi
  ·exact h.m i hi
  ·rw[List.mem_singleton.1 hi];exact hs
theorem zT (c:Nat):(i7 c).length≤2:=by
 unfold i7;split
 ·exact qx _
 ·split
  ·exact qv _
  ·exact qx _
theorem BxT.close {n:Nat}{x:Bx}(h:BxT n x)(s:List UInt8)(hs:s.length≤2):BxT n (cV x s).1:=by
 unfold cV;split
 ·exact h
 ·exact⟨h.p,h.m,λt e=>by cases e;exact hs⟩
theorem BxT.end' {n:Nat}{x:Bx}(h:BxT n x):BxT n (ii x):=⟨h.p,h.m,h.c⟩
theorem BxT.clear {n:Nat}{x:Bx}(a:BxT n x):BxT n (fO x):=⟨(λs e=>by cases e),(λi hi=>by cases hi),(λs e=>by cases e)⟩
theorem BxT.next {n:Nat}{x:Bx}(h:BxT n x):BxT n (aS x).1∧∀it,(aS x).2=some it→it.kind=1∨it.text.length≤n+2:=by
 obtain⟨q,reps,pong,msgs,close,closed,ends,told⟩:=x;obtain⟨d,c,f⟩:=h;dsimp only at d c f;unfold aS;dsimp only;cases reps with
 | cons a l=>exact⟨⟨d,c,f⟩,λit e=>by cases e;exact .inl rfl⟩
 | nil =>
  cases pong with
  | some a=>exact⟨⟨(λs e=>by cases e),c,f⟩,λit e=>by cases e;exact .inr (qy (d a rfl) (Nat.le_add_right _ _))⟩
  | none =>
   cases msgs with
   | cons a l=>exact⟨⟨d,λi hi=>c i (List.mem_cons_of_mem _ hi),f⟩,λit e=>by cases e;exact .inr (qy (c a (List.mem_cons_self ..)) (Nat.le_add_right _ _))⟩
   | nil =>
    cases close with
    | some a=>exact⟨⟨d,c,(λs e=>by cases e)⟩,λit e=>by cases e;exact .inr (qy (f a rfl) (Nat.le_add_left _ _))⟩
    | none =>
     dsimp only;split
     ·exact⟨⟨d,c,f⟩,λit e=>by cases e;exact .inr (qx _)⟩
     ·exact⟨⟨d,c,f⟩,λit e=>by cases e⟩
structure SsB (n:Nat)(s:Ss):Prop where
 lim:s.limit≤1099511627776
 p:PsB n s.p
 w:∀w,s.c=some w→WnC n w
 x:BxT n s.x
theorem CD {q limit:Nat}(h:limit≤1099511627776):SsB 0 (ss0 q limit) :=
 ⟨h,EK,(λw e=>by cases e),F5 q⟩
theorem SsB.le {n m:Nat}{s:Ss}(h:SsB n s)(hm:n≤m):SsB m s:=⟨h.lim,h.p.le hm,λw e=>(h.w w e).le hm,h.x.le hm⟩
theorem SsB.feed {n:Nat}{s:Ss}(h:SsB n s)(b:List UInt8):SsB (n+b.length) (cE s b):=by
 have a:=h.le (Nat.le_add_right n b.length);unfold cE;split
 ·exact⟨a.lim,h.p.feed b,a.w,a.x⟩
 ·split
  ·refine⟨a.lim,a.p,λw e=>?_,a.x⟩;dsimp only at e;cases d:s.c with
   | none=>rw[d]at e;cases e
   | some c=>rw[d]at e;cases e;exact(h.w c d).feed b
  ·exact a
theorem SsB.ends {n:Nat}{s:Ss}(h:SsB n s):SsB n (bJ s):=⟨h.lim,h.p,h.w,h.x.end'⟩
theorem SsB.puts {n:Nat}{s:Ss}(h:SsB n s)(x:Rp)(d a:Bool):SsB n (cU s x d a):=by
 have c:SsB n { s with x:=(bD s.x (putB x d a)).1 }:=⟨h.lim,h.p,h.w,h.x.reply _⟩;unfold cU;split
 ·exact c.ends
 ·exact c
theorem SsB.up {n:Nat}{s:Ss}(h:SsB n s):SsB n (Bi s):=by
 obtain⟨a,c⟩:=h.p.rest;refine⟨h.lim,a,λw e=>?_,h.x⟩;cases e;have:=(EL s.limit).feed (eN s.p).2;rw[Nat.zero_add]at this;exact this.le c
theorem SsB.answers {n:Nat}{s:Ss}{H:Rq→Rp}(h:SsB n s)(r:Rq):SsB n (aZ H s r).1:=by
 unfold aZ;split
 ·split
  ·exact(h.puts _ _ _).up
  ·exact h.puts _ _ _
 ·exact h.puts _ _ _
theorem SsB.asks {n:Nat}{s:Ss}{H:Rq→Rp}(h:SsB n s):SsB n (cF H s).1:=by
 have a:=h.p.next.1;unfold cF;split
 ·rename_i p r c;rw[c]at a;exact SsB.answers (s:={ s with p:=p }) ⟨h.lim,a,h.w,h.x⟩ r
 ·rename_i p c;rw[c]at a;have d:SsB n { s with p:=p }:=⟨h.lim,a,h.w,h.x⟩;split
  ·exact d
  ·exact SsB.puts (s:={ s with p:=p }) d ⟨p.bad,[],aU p.bad⟩ false true
theorem SsB.closes {n:Nat}{s:Ss}(h:SsB n s)(code:Nat):SsB n (du s code):=⟨h.lim,h.p,h.w,h.x.close _ (zT _)⟩
theorem SsB.gone {n:Nat}{s:Ss}(h:SsB n s)(a code:Nat):SsB n (dm s a code):=by
 unfold dm;split
 ·exact(h.closes _).ends
 ·exact h.ends
theorem SsB.setC {n:Nat}{s:Ss}(h:SsB n s){w:Wn}(a:WnC n w):SsB n { s with c:=some w }:=⟨h.lim,h.p,λw' e=>by cases e;exact a,h.x⟩
theorem Fe (n:Nat):WnC n (wn0 0):=(EL 0).le (qx _)
theorem SsB.wn {n:Nat}{s:Ss}(h:SsB n s):WnC n (ju s):=by
 unfold ju;cases a:s.c with
 | none=>exact Fe n
 | some c=>exact h.w c a
theorem SsB.says {n:Nat}{s:Ss}(h:SsB n s):SsB n (bM s).1:=by
 have d:=h.wn.next;unfold bM;cases e:bP (ju s)with
 | mk c o =>
  rw[e]at d;have a:=h.setC d.1;cases o with
  | none=>exact a
  | some x =>
   cases x with
   | message op t=>exact a
   | ping t=>exact⟨a.lim,a.p,a.w,h.x.pong t (d.2 _ rfl).2⟩
   | closing code=>exact a.gone _ _
   | failing code=>exact a.gone _ _
theorem SsB.fresh {n:Nat}{s:Ss}(h:SsB n s)(f:Bool):SsB n { s with fresh:=f }:=⟨h.lim,h.p,h.w,h.x⟩
theorem SsB.next {n:Nat}{s:Ss}{H:Rq→Rp}(h:SsB n s):SsB n (bj H s).1:=by
 unfold bj;split
 ·exact h
 ·dsimp only;have a:SsB n (cF H s).1:=h.asks;have c:SsB n (bM s).1:=h.says;by_cases q:s.st=1
  ·rw[if_pos q];split
   ·exact a.fresh _
   ·exact a
  ·rw[if_neg q];split
   ·exact c.fresh _
   ·exact c
theorem SsB.out {n:Nat}{s:Ss}(h:SsB n s):SsB n (bR s).1:=⟨h.lim,h.p,h.w,h.x.next.1⟩
theorem SsB.over {n:Nat}{s:Ss}(h:SsB n s):SsB n (dn s):=by
 refine⟨h.lim,h.p,λw e=>?_,h.x⟩;have e:s.c.map ia=some w:=e;cases a:s.c with
 | none=>rw[a]at e;cases e
 | some c=>rw[a]at e;cases e;exact(h.w c a).over
theorem SsB.finish {n:Nat}{s:Ss}(h:SsB n s):SsB n (bQ s):=by
 unfold bQ;split
 ·exact h
 ·split
  ·exact h.over.ends
  ·exact h.ends
theorem SsB.stop {n:Nat}{s:Ss}(h:SsB n s):SsB n (dD s):=by
 unfold dD;split
 ·exact h.ends
 ·split
  ·refine⟨h.lim,h.p,λw e=>?_,(h.closes 1001).x⟩;have e:s.c.map cS=some w:=e;cases a:s.c with
   | none=>rw[a]at e;cases e
   | some c=>rw[a]at e;cases e;exact(h.w c a).shut
  ·exact h
theorem SsB.lapse {n:Nat}{s:Ss}(h:SsB n s):SsB n (eD s):=by
 unfold eD;split
 ·exact h.over.ends
 ·exact h.stop
theorem SsB.fail {n:Nat}{s:Ss}(h:SsB n s):SsB n (ij s):=⟨h.lim,h.p,h.over.w,h.x.end'.clear⟩
theorem SsB.send {n:Nat}{s:Ss}(h:SsB n s)(op:Int)(t:List UInt8):SsB (n+t.length) (eQ s op t).1:=by
 have a:=h.le (Nat.le_add_right n t.length);unfold eQ;split
 ·exact a
 ·exact⟨a.lim,a.p,a.w,a.x.message op t (Nat.le_add_left _ _)⟩
