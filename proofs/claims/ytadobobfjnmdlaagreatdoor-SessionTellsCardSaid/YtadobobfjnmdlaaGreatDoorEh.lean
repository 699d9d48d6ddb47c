/-
  A session in memory: what a socket's other end says; the next event. (Printed by mk_eh.py.)
-/
import Derived.Test.YtadobobfjnmdlaaGreatDoorP61
set_option linter.unnecessarySimpa false
set_option linter.unusedVariables false
set_option linter.unusedSimpArgs false
set_option maxHeartbeats 16000000
set_option maxRecDepth 100000
open Go.Proofs.Tryz
namespace Go.Proofs.YtadobobfjnmdlaaGreatDoor
open Go.RowKit Go.Shelf
attribute [local go_sem] Oper.semAt_some
section
variable {b:Nat} {g:Nat} {lb:Array Value} {F T:Nat→Prop} {H:Rq→Rp} {W:World} {s:Ss} {hv:Value}
theorem DB (h:bT b hv T W s){w:Wn}(hw:s.c=some w){n:Nat}(hB:WnB n w)(hn:n≤4611686018427387900)(O:∀x,(bP w).2=some x→kE x≤65535):Calls prog 42 #[.pointer (some ⟨b,0,none⟩)] W λe w'=>e=.returned (.tuple #[fT (bM s).2,.bool (bM s).2.isSome])∧Pst (bT b hv) T W (bM s).1 w':=by
 have y:=qq h.2;obtain⟨⟨c,pb,bb,cv,h,hT⟩,hl⟩:=h;obtain⟨P,M⟩:∃P,W.alloc (.cells #[.int .i64 0,.int .i64 0,.string ⟨#[]⟩] 28)=P:=⟨_,rfl⟩;have g1:Gr W P:=M▸Gr.alloc W _;have A:=qq (show W.heap.size<P.heap.size by rw[←M];simp);have e0:P.cell? ⟨W.heap.size,0,none⟩=some (.int .i64 0):=by rw[←M];exact aa _ _ _ 0 _ rfl
 have e1:P.cell? ⟨W.heap.size,1,none⟩=some (.int .i64 0):=by rw[←M];exact aa _ _ _ 1 _ rfl
 have e2:P.cell? ⟨W.heap.size,2,none⟩=some (.string ⟨#[]⟩):=by rw[←M];exact aa _ _ _ 2 _ rfl
 have B:∀o,P.frozen? ⟨W.heap.size,o,none⟩=false:=λo=>by rw[←M];exact World.frozen?_alloc_at _ _ _ _ rfl
 have h1:=h.gr g1;have b7:=qq (λk (e:T k)=>qj (hl k e) (Below.size g1));have kw:=h1.kw;rw[hw]at kw;obtain⟨k0,rfl,kw⟩:=kw;have c4:=h1.c4;have b9:=qq (lk kw);have R:=BO kw hB hn;have a8:=qq hT;have N:=qq g1;have b5:=qq h1;have c0:=qq hw;obtain⟨w',o,a4⟩:∃w' o,bP w=(w',o):=⟨_,_,rfl⟩;have b4:ju s=w:=by unfold ju;rw[hw];rfl
 have b3:bM s=match ((w',o):Wn×Option Wev)with
   |(c,none)=>({ s with c:=some c },none)
   |(c,some (.message op t))=>({ s with c:=some c },some (.said op t))
   |(c,some (.ping t))=>({ s with c:=some c,x:=(dl s.x t).1 },some .done)
   |(c,some (.closing code))=>(dm { s with c:=some c } w.st code,some .done)
   |(c,some (.failing code))=>(dm { s with c:=some c } w.st code,some .done):=by
  rw[←a4];unfold bM;rw[b4];cases bP w with
  | mk c o=>cases o with
   | none=>rfl
   | some x=>cases x <;> rfl
 rw[a4]at R O;dsimp only at R O;have b8:=qq R;have hq:=qq b3;clear h hT hl hB b3 a4 g1 h1 hw b4 kw R;go_enter func42,ntmps42;go_wp2_with fail;refine b9.out.mono ?_;rintro e j⟨rfl,rfl⟩;go_wp2_with fail;refine b8.out.mono ?_;rintro e j⟨rfl,hp⟩;try rw[M]
 have u:=qq ((b5.out.setW c0.out hp).pst b7.out (hp.2.mono (λk e=>a8.out k (by rw[show c k=3 from e];decide))) (cH a8.out (qv _)));have d:W.heap.size<P.heap.size:=ae e0;have f:¬T (W.heap.size):=λe=>by have:=y.out _ e;omega
 replace e0:=(u.out.2.cell (p:=⟨W.heap.size,0,none⟩) d f).trans e0;replace e1:=(u.out.2.cell (p:=⟨W.heap.size,1,none⟩) d f).trans e1;replace e2:=(u.out.2.cell (p:=⟨W.heap.size,2,none⟩) d f).trans e2;replace B:∀o,j.frozen? ⟨W.heap.size,o,none⟩=false:=λo=>(u.out.2.frozen (p:=⟨W.heap.size,o,none⟩) d f).trans (B o);have L:=qq d;clear d;clear hp c4 M;cases o with
 | none =>
  have z:=qq (show bM s=({ s with c:=some w' },none)from hq.out);unfold bn;dsimp only;go_upto_region 3 with(fail);obtain⟨w3,a⟩:∃w3,j.alloc (.cells #[.int .i64 0,.int .i64 0,.int .i64 0,.string ⟨#[]⟩] 129)=w3:=⟨_,rfl⟩;have m:Gr j w3:=a▸Gr.alloc j _;have q:=qq ((aD b hv).behind u.out m);have V:w3.cell? ⟨j.heap.size,0,none⟩=some (.int .i64 0):=by rw[←a];exact aa _ _ _ 0 _ rfl
  have Y:w3.cell? ⟨j.heap.size,1,none⟩=some (.int .i64 0):=by rw[←a];exact aa _ _ _ 1 _ rfl
  have Z:w3.cell? ⟨j.heap.size,2,none⟩=some (.int .i64 0):=by rw[←a];exact aa _ _ _ 2 _ rfl
  have v3:w3.cell? ⟨j.heap.size,3,none⟩=some (.string ⟨#[]⟩):=by rw[←a];exact aa _ _ _ 3 _ rfl
  have r:W.heap.size<j.heap.size:=ae e0;replace e0:=m.cell e0;replace e1:=m.cell e1;replace e2:=m.cell e2;replace B:∀o,w3.frozen? ⟨W.heap.size,o,none⟩=false:=λo=>(Below.frozen m (p:=⟨W.heap.size,o,none⟩) r).trans (B o);try rw[a]
  have a0:=qq m;clear a V Y Z v3 r m;go_wp2;refine bodyPost_ret (v:=.tuple #[fT none,.bool false]) (by simp[results,results42,go_sem,er,fT,e0,e1,e2]) rfl ?_;rw[z.out];exact⟨rfl,cj (aD b hv) y.out N.out q.out (ch3 w3 W.heap.size _ _ _) (λk e=>⟨by rw[show k=W.heap.size from e];exact qv _,by rw[show k=W.heap.size from e];exact A.out⟩)⟩
 | some x =>
  have b0:=O x rfl;cases x with
  | message op t =>
   have z:=qq (show bM s=({ s with c:=some w' },some (.said op t))from hq.out);unfold bn;dsimp only;go_upto_region 3 with(fail);obtain⟨w3,a⟩:∃w3,j.alloc (.cells #[.int .i64 1,.int .i64 op,.int .i64 0,.string ⟨t.toArray⟩] 129)=w3:=⟨_,rfl⟩;have m:Gr j w3:=a▸Gr.alloc j _;have q:=qq ((aD b hv).behind u.out m);have V:w3.cell? ⟨j.heap.size,0,none⟩=some (.int .i64 1):=(by rw[←a];exact aa _ _ _ 0 _ rfl);have Y:w3.cell? ⟨j.heap.size,1,none⟩=some (.int .i64 op):=(by rw[←a];exact aa _ _ _ 1 _ rfl);have Z:w3.cell? ⟨j.heap.size,2,none⟩=some (.int .i64 0):=(by rw[←a];exact aa _ _ _ 2 _ rfl);have v3:w3.cell? ⟨j.heap.size,3,none⟩=some (.string ⟨t.toArray⟩):=(by rw[←a];exact aa _ _ _ 3 _ rfl);have r:W.heap.size<j.heap.size:=ae e0;replace e0:=m.cell e0;replace e1:=m.cell e1;replace e2:=m.cell e2;replace B:∀o,w3.frozen? ⟨W.heap.size,o,none⟩=false:=λo=>(Below.frozen m (p:=⟨W.heap.size,o,none⟩) r).trans (B o);(try rw[a]);have a0:=qq m;have c6:j.heap.size<w3.heap.size:=ae V;have c3:W.heap.size≠j.heap.size:=(by omega);clear a r m;go_wp2;refine bodyPost_ret (v:=.tuple #[er (.said op t),.bool true]) (by simp[results,results42,go_sem,er,fT,e0,e1,e2]) rfl ?_;rw[z.out];exact⟨rfl,cj (aD b hv) y.out N.out q.out (ch3 w3 W.heap.size _ _ _) (λk e=>⟨by rw[show k=W.heap.size from e];exact qv _,by rw[show k=W.heap.size from e];exact A.out⟩)⟩
  | ping t =>
   have z:=qq (show bM s=({ s with c:=some w',x:=(dl s.x t).1 },some .done)from hq.out);unfold bn;dsimp only;go_upto_region 3 with(fail);obtain⟨w3,a⟩:∃w3,j.alloc (.cells #[.int .i64 2,.int .i64 0,.int .i64 0,.string ⟨t.toArray⟩] 129)=w3:=⟨_,rfl⟩;have m:Gr j w3:=a▸Gr.alloc j _;have q:=qq ((aD b hv).behind u.out m);have V:w3.cell? ⟨j.heap.size,0,none⟩=some (.int .i64 2):=(by rw[←a];exact aa _ _ _ 0 _ rfl);have Y:w3.cell? ⟨j.heap.size,1,none⟩=some (.int .i64 0):=(by rw[←a];exact aa _ _ _ 1 _ rfl);have Z:w3.cell? ⟨j.heap.size,2,none⟩=some (.int .i64 0):=(by rw[←a];exact aa _ _ _ 2 _ rfl);have v3:w3.cell? ⟨j.heap.size,3,none⟩=some (.string ⟨t.toArray⟩):=(by rw[←a];exact aa _ _ _ 3 _ rfl);have r:W.heap.size<j.heap.size:=ae e0;replace e0:=m.cell e0;replace e1:=m.cell e1;replace e2:=m.cell e2;replace B:∀o,w3.frozen? ⟨W.heap.size,o,none⟩=false:=λo=>(Below.frozen m (p:=⟨W.heap.size,o,none⟩) r).trans (B o);(try rw[a]);have a0:=qq m;clear r m;go_upto_region 12 with(fail);(try rw[a]);clear a;obtain⟨⟨⟨c9,c7,c1,c2,h9,a9⟩,b1⟩,b6⟩:=q.out;have c5:=h9.c5;have a7:=qq h9;have a1:=qq a9;have b2:=qq b1;clear h9 a9 b1 b6
   go_region_with (first
    |(go_at_call 73;refine(Ag t (a7.out.gr (Gr.drew' _)).kx).mono ?_;rintro e w4 ⟨rfl,C⟩;have D:=qq C;clear C))
   all_goals
    have a6:=(a7.out.gr (Gr.drew' _)).setX D.out;have i:=(aD b hv).ahead (Gr.drew' w3) (a6.pst (λk e=>qj (b2.out k e) (Below.size (Gr.drew' w3))) (D.out.2.mono (λk e=>a1.out k (by rw[show c9 k=4 from e];decide))) (cH a1.out (qv _)));have I:=qq ((aD b hv).trans q.out i);have d:W.heap.size<w3.heap.size:=ae e0;have f:¬Add T P w3 (W.heap.size):=λe=>by
     have:=A.out;rcases e with e | e
     ·have:=y.out _ e;omega
     ·have:=e.1;omega
    replace e0:=(i.2.cell (p:=⟨W.heap.size,0,none⟩) d f).trans e0;replace e1:=(i.2.cell (p:=⟨W.heap.size,1,none⟩) d f).trans e1;replace e2:=(i.2.cell (p:=⟨W.heap.size,2,none⟩) d f).trans e2;replace B:∀o,w4.frozen? ⟨W.heap.size,o,none⟩=false:=λo=>(i.2.frozen (p:=⟨W.heap.size,o,none⟩) d f).trans (B o);have L:=qq d;clear d;clear a6 i c5 V Y Z v3;go_wp2;refine bodyPost_ret (v:=.tuple #[er .done,.bool true]) (by simp[results,results42,go_sem,er,fT,e0,e1,e2]) rfl ?_;rw[z.out];exact⟨rfl,cj (aD b hv) y.out N.out I.out (ch3 w4 W.heap.size _ _ _) (λk e=>⟨by rw[show k=W.heap.size from e];exact qv _,by rw[show k=W.heap.size from e];exact A.out⟩)⟩
  | closing code =>
   have J:bM s=(dm { s with c:=some w' } w.st code,some .done):=hq.out;have S:code≤65535:=b0;unfold bn;dsimp only;go_upto_region 3 with(fail);obtain⟨w3,a⟩:∃w3,j.alloc (.cells #[.int .i64 3,.int .i64 0,.int .i64 code,.string ⟨#[]⟩] 129)=w3:=⟨_,rfl⟩;have m:Gr j w3:=a▸Gr.alloc j _;have q:=qq ((aD b hv).behind u.out m);have V:w3.cell? ⟨j.heap.size,0,none⟩=some (.int .i64 3):=(by rw[←a];exact aa _ _ _ 0 _ rfl);have Y:w3.cell? ⟨j.heap.size,1,none⟩=some (.int .i64 0):=(by rw[←a];exact aa _ _ _ 1 _ rfl);have Z:w3.cell? ⟨j.heap.size,2,none⟩=some (.int .i64 code):=(by rw[←a];exact aa _ _ _ 2 _ rfl);have v3:w3.cell? ⟨j.heap.size,3,none⟩=some (.string ⟨#[]⟩):=(by rw[←a];exact aa _ _ _ 3 _ rfl);have r:W.heap.size<j.heap.size:=ae e0;replace e0:=m.cell e0;replace e1:=m.cell e1;replace e2:=m.cell e2;replace B:∀o,w3.frozen? ⟨W.heap.size,o,none⟩=false:=λo=>(Below.frozen m (p:=⟨W.heap.size,o,none⟩) r).trans (B o);(try rw[a]);have a0:=qq m;have a2:=qq (kQ q.out.1 code S);have a3:=qq (dA q.out.1);clear r m;by_cases E:w.st=1
   ·have z:=qq (show bM s=(bJ (du { s with c:=some w' } code),some .done) by rw[J];unfold dm;rw[if_pos E]);have a5:((w.st:Int)==1)=true:=beq_iff_eq.2 (by omega);clear E J;go_wp2_with fail;(try rw[a]);refine a2.out.mono ?_;rintro e w4⟨rfl,C⟩;have U:=qq (dA C.1);have D:=qq C;clear C V Y Z v3 a;go_wp2_with fail;refine U.out.mono ?_;rintro e X⟨rfl,i⟩;have l:=(aD b hv).trans D.out i;have I:=qq ((aD b hv).trans q.out l);have d:W.heap.size<w3.heap.size:=ae e0;have f:¬Add T P w3 (W.heap.size):=λe=>by
     have:=A.out;rcases e with e | e
     ·have:=y.out _ e;omega
     ·have:=e.1;omega
    replace e0:=(l.2.cell (p:=⟨W.heap.size,0,none⟩) d f).trans e0;replace e1:=(l.2.cell (p:=⟨W.heap.size,1,none⟩) d f).trans e1;replace e2:=(l.2.cell (p:=⟨W.heap.size,2,none⟩) d f).trans e2;replace B:∀o,X.frozen? ⟨W.heap.size,o,none⟩=false:=λo=>(l.2.frozen (p:=⟨W.heap.size,o,none⟩) d f).trans (B o);have L:=qq d;clear d;clear l i;go_wp2;refine bodyPost_ret (v:=.tuple #[er .done,.bool true]) (by simp[results,results42,go_sem,er,fT,e0,e1,e2]) rfl ?_;rw[z.out];exact⟨rfl,cj (aD b hv) y.out N.out I.out (ch3 X W.heap.size _ _ _) (λk e=>⟨by rw[show k=W.heap.size from e];exact qv _,by rw[show k=W.heap.size from e];exact A.out⟩)⟩
   ·have z:=qq (show bM s=(bJ { s with c:=some w' },some .done) by rw[J];unfold dm;rw[if_neg E]);have a5:((w.st:Int)==1)=false:=beq_false_of_ne (by omega);clear E J;go_wp2_with fail;(try rw[a]);refine a3.out.mono ?_;rintro e X⟨rfl,i⟩;have I:=qq ((aD b hv).trans q.out i);have d:W.heap.size<w3.heap.size:=ae e0;have f:¬Add T P w3 (W.heap.size):=λe=>by
     have:=A.out;rcases e with e | e
     ·have:=y.out _ e;omega
     ·have:=e.1;omega
    replace e0:=(i.2.cell (p:=⟨W.heap.size,0,none⟩) d f).trans e0;replace e1:=(i.2.cell (p:=⟨W.heap.size,1,none⟩) d f).trans e1;replace e2:=(i.2.cell (p:=⟨W.heap.size,2,none⟩) d f).trans e2;replace B:∀o,X.frozen? ⟨W.heap.size,o,none⟩=false:=λo=>(i.2.frozen (p:=⟨W.heap.size,o,none⟩) d f).trans (B o);have L:=qq d;clear d;clear i V Y Z v3 a;go_wp2;refine bodyPost_ret (v:=.tuple #[er .done,.bool true]) (by simp[results,results42,go_sem,er,fT,e0,e1,e2]) rfl ?_;rw[z.out];exact⟨rfl,cj (aD b hv) y.out N.out I.out (ch3 X W.heap.size _ _ _) (λk e=>⟨by rw[show k=W.heap.size from e];exact qv _,by rw[show k=W.heap.size from e];exact A.out⟩)⟩
  | failing code =>
   have J:bM s=(dm { s with c:=some w' } w.st code,some .done):=hq.out;have S:code≤65535:=b0;unfold bn;dsimp only;go_upto_region 3 with(fail);obtain⟨w3,a⟩:∃w3,j.alloc (.cells #[.int .i64 4,.int .i64 0,.int .i64 code,.string ⟨#[]⟩] 129)=w3:=⟨_,rfl⟩;have m:Gr j w3:=a▸Gr.alloc j _;have q:=qq ((aD b hv).behind u.out m);have V:w3.cell? ⟨j.heap.size,0,none⟩=some (.int .i64 4):=(by rw[←a];exact aa _ _ _ 0 _ rfl);have Y:w3.cell? ⟨j.heap.size,1,none⟩=some (.int .i64 0):=(by rw[←a];exact aa _ _ _ 1 _ rfl);have Z:w3.cell? ⟨j.heap.size,2,none⟩=some (.int .i64 code):=(by rw[←a];exact aa _ _ _ 2 _ rfl);have v3:w3.cell? ⟨j.heap.size,3,none⟩=some (.string ⟨#[]⟩):=(by rw[←a];exact aa _ _ _ 3 _ rfl);have r:W.heap.size<j.heap.size:=ae e0;replace e0:=m.cell e0;replace e1:=m.cell e1;replace e2:=m.cell e2;replace B:∀o,w3.frozen? ⟨W.heap.size,o,none⟩=false:=λo=>(Below.frozen m (p:=⟨W.heap.size,o,none⟩) r).trans (B o);(try rw[a]);have a0:=qq m;have a2:=qq (kQ q.out.1 code S);have a3:=qq (dA q.out.1);clear r m;by_cases E:w.st=1
   ·have z:=qq (show bM s=(bJ (du { s with c:=some w' } code),some .done) by rw[J];unfold dm;rw[if_pos E]);have a5:((w.st:Int)==1)=true:=beq_iff_eq.2 (by omega);clear E J;go_wp2_with fail;(try rw[a]);refine a2.out.mono ?_;rintro e w4⟨rfl,C⟩;have U:=qq (dA C.1);have D:=qq C;clear C V Y Z v3 a;go_wp2_with fail;refine U.out.mono ?_;rintro e X⟨rfl,i⟩;have l:=(aD b hv).trans D.out i;have I:=qq ((aD b hv).trans q.out l);have d:W.heap.size<w3.heap.size:=ae e0;have f:¬Add T P w3 (W.heap.size):=λe=>by
     have:=A.out;rcases e with e | e
     ·have:=y.out _ e;omega
     ·have:=e.1;omega
    replace e0:=(l.2.cell (p:=⟨W.heap.size,0,none⟩) d f).trans e0;replace e1:=(l.2.cell (p:=⟨W.heap.size,1,none⟩) d f).trans e1;replace e2:=(l.2.cell (p:=⟨W.heap.size,2,none⟩) d f).trans e2;replace B:∀o,X.frozen? ⟨W.heap.size,o,none⟩=false:=λo=>(l.2.frozen (p:=⟨W.heap.size,o,none⟩) d f).trans (B o);have L:=qq d;clear d;clear l i;go_wp2;refine bodyPost_ret (v:=.tuple #[er .done,.bool true]) (by simp[results,results42,go_sem,er,fT,e0,e1,e2]) rfl ?_;rw[z.out];exact⟨rfl,cj (aD b hv) y.out N.out I.out (ch3 X W.heap.size _ _ _) (λk e=>⟨by rw[show k=W.heap.size from e];exact qv _,by rw[show k=W.heap.size from e];exact A.out⟩)⟩
   ·have z:=qq (show bM s=(bJ { s with c:=some w' },some .done) by rw[J];unfold dm;rw[if_neg E]);have a5:((w.st:Int)==1)=false:=beq_false_of_ne (by omega);clear E J;go_wp2_with fail;(try rw[a]);refine a3.out.mono ?_;rintro e X⟨rfl,i⟩;have I:=qq ((aD b hv).trans q.out i);have d:W.heap.size<w3.heap.size:=ae e0;have f:¬Add T P w3 (W.heap.size):=λe=>by
     have:=A.out;rcases e with e | e
     ·have:=y.out _ e;omega
     ·have:=e.1;omega
    replace e0:=(i.2.cell (p:=⟨W.heap.size,0,none⟩) d f).trans e0;replace e1:=(i.2.cell (p:=⟨W.heap.size,1,none⟩) d f).trans e1;replace e2:=(i.2.cell (p:=⟨W.heap.size,2,none⟩) d f).trans e2;replace B:∀o,X.frozen? ⟨W.heap.size,o,none⟩=false:=λo=>(i.2.frozen (p:=⟨W.heap.size,o,none⟩) d f).trans (B o);have L:=qq d;clear d;clear i V Y Z v3 a;go_wp2;refine bodyPost_ret (v:=.tuple #[er .done,.bool true]) (by simp[results,results42,go_sem,er,fT,e0,e1,e2]) rfl ?_;rw[z.out];exact⟨rfl,cj (aD b hv) y.out N.out I.out (ch3 X W.heap.size _ _ _) (λk e=>⟨by rw[show k=W.heap.size from e];exact qv _,by rw[show k=W.heap.size from e];exact A.out⟩)⟩
end
theorem mP (e:Option Sev):∃(a c:Int) (t:ByteArray),fT e=.agg #[.int .i64 a,.int .i64 c,.string t]:=by
 cases e with
 | none=>exact⟨_,_,_,rfl⟩
 | some e=>exact tA e
section
variable {b:Nat} {g:Nat} {lb:Array Value} {F T:Nat→Prop} {H:Rq→Rp} {W:World} {s:Ss} {hv:Value}
theorem kS {W2 w3 a:World}{f:Ss}{c:Nat→Nat}{m h:Nat}{cv:Value}(hl:∀k,T k→k<W.heap.size)(i:Gr W W2)(j:SnS b hv c a f m h cv)(l:∀k,c k≠0→Add T W2 w3 k)(d:Ch T W a)(hs:w3.heap.size≤a.heap.size):Pst (bT b hv) T W f a :=
 j.pst hl d (λk e=>(l k e).imp_right (λe=>⟨qy (Below.size i) e.1,qj e.2 hs⟩))
theorem DC (h:bT b (.func (.func g) #[] lb) T W s)(hG:G W)(hi:Hi T)(hH:Hnd g lb F H W)(hF:∀k,F k→¬T k)(b8:s.limit≤1099511627776)(ha:s.st=1∨s.st=2∨s.st=3)(hB:s.st=1→PsB 90000 s.p){n:Nat}(hn:n≤4611686018427387900)
  (h2:s.st=2→∃w,s.c=some w∧WnB n w∧∀x,(bP w).2=some x→kE x≤65535):Calls prog 13 #[.pointer (some ⟨b,0,none⟩)] W λe w'=>e=.returned (.tuple #[fT (bj H s).2,.bool (bj H s).2.isSome])∧Pst (bT b (.func (.func g) #[] lb)) T W (bj H s).1 w':=by
 have u:=qq h.2;obtain⟨q,t⟩:∃q,W.alloc (.cells #[.int .i64 0,.int .i64 0,.string ⟨#[]⟩] 28)=q:=⟨_,rfl⟩;have g1:Gr W q:=t▸Gr.alloc W _;have b1:=qq (show W.heap.size<q.heap.size by rw[←t];simp);have a5:=qq (show q.heap.size=W.heap.size+1 by rw[←t];simp);have e0:q.cell? ⟨W.heap.size,0,none⟩=some (.int .i64 0):=by rw[←t];exact aa _ _ _ 0 _ rfl
 have e1:q.cell? ⟨W.heap.size,1,none⟩=some (.int .i64 0):=by rw[←t];exact aa _ _ _ 1 _ rfl
 have e2:q.cell? ⟨W.heap.size,2,none⟩=some (.string ⟨#[]⟩):=by rw[←t];exact aa _ _ _ 2 _ rfl
 have ez:∀o,q.frozen? ⟨W.heap.size,o,none⟩=false:=λo=>by rw[←t];exact World.frozen?_alloc_at _ _ _ _ rfl
 have h0:=qq h;have a3:=Bj ((aD b (.func (.func g) #[] lb)).gr h g1);have b0:=qq (show T b from by
  obtain⟨⟨c,pb,bb,cv,h,hT⟩,_⟩:=h;exact hT b (by rw[h.cb];decide))
 have c2:q.cell? ⟨b,2,none⟩=some (.int .i64 s.st):=by
  obtain⟨⟨c,pb,bb,cv,h,hT⟩,_⟩:=h;exact(h.gr g1).c2
 by_cases a6:cW s=false
 ·have hq:=qq (show bj H s=(s,none) by unfold bj;rw[a6];rfl);rw[a6]at a3;have ht:=qq a3;have b6:=qq g1;clear h hB h2 hG hH a6 a3 g1 c2;go_enter func13,ntmps13;go_wp2_with fail;refine ht.out.mono ?_;rintro e w9⟨rfl,rfl⟩;try rw[t]
  clear t;go_wp2;refine bodyPost_ret (v:=.tuple #[fT none,.bool false]) (by simp[results,results13,go_sem,er,fT,e0,e1,e2]) rfl ?_;rw[hq.out];exact⟨rfl,cj (aD b (.func (.func g) #[] lb)) u.out b6.out ((aD b (.func (.func g) #[] lb)).of_gr ((aD b (.func (.func g) #[] lb)).gr h0.out b6.out) (Gr.refl _)) (ch3 _ W.heap.size _ _ _) (λk e=>⟨by rw[show k=W.heap.size from e];exact qv _,by rw[show k=W.heap.size from e];exact b1.out⟩)⟩
 have a4:cW s=true:=by
  cases e:cW s with
  | false=>exact absurd e a6
  | true=>rfl
 rw[a4]at a3;have ht:=qq a3;obtain⟨y,a9⟩:∃y,(if s.st=1 then cF H s else bM s)=y:=⟨_,rfl⟩;have hq:=qq (show bj H s=(if y.2.isNone||y.1.st==3 then { y.1 with fresh:=false } else y.1,y.2) by
  rw[←a9];unfold bj;rw[a4];rfl)
 by_cases q1:s.st=1
 ·rw[if_pos q1]at a9;rw[q1]at c2;have b9:=hB q1;clear a6 a4 a3 q1;have M:=qq (λW2 (X:Gr W W2)=>show Calls prog 41 #[.pointer (some ⟨b,0,none⟩)] W2 λe w'=>e=.returned (.tuple #[fT y.2,.bool y.2.isSome])∧Pst (bT b (.func (.func g) #[] lb)) T W2 y.1 w' from a9▸Ed ((aD b (.func (.func g) #[] lb)).gr h0.out X) (hG.gr X) hi (hH.gr X) hF b8 b9);clear h hB h2 hG hH;go_enter func13,ntmps13;go_wp2_with fail;refine ht.out.mono ?_;rintro e w9⟨rfl,rfl⟩;try rw[t]
  obtain⟨W2,j⟩:∃W2,q.alloc (.cells #[.int .i64 0,.int .i64 0,.string ⟨#[]⟩] 28)=W2:=⟨_,rfl⟩;have l:Gr q W2:=j▸Gr.alloc q _;have a2:=qq (show W2.heap.size=W.heap.size+2 by rw[←j,World.size_alloc,a5.out]);have f0:W2.cell? ⟨q.heap.size,0,none⟩=some (.int .i64 0):=by rw[←j];exact aa _ _ _ 0 _ rfl
  have f1:W2.cell? ⟨q.heap.size,1,none⟩=some (.int .i64 0):=by rw[←j];exact aa _ _ _ 1 _ rfl
  have f2:W2.cell? ⟨q.heap.size,2,none⟩=some (.string ⟨#[]⟩):=by rw[←j];exact aa _ _ _ 2 _ rfl
  have R:∀o,W2.frozen? ⟨q.heap.size,o,none⟩=false:=λo=>by rw[←j];exact World.frozen?_alloc_at _ _ _ _ rfl
  have X:=qq (g1.trans l);replace e0:=l.cell e0;replace e1:=l.cell e1;replace e2:=l.cell e2;replace ez:∀o,W2.frozen? ⟨W.heap.size,o,none⟩=false:=λo=>(Below.frozen l (p:=⟨W.heap.size,o,none⟩) b1.out).trans (ez o);replace c2:=l.cell c2;have b2:=qq (M.out W2 X.out);rw[show q.heap.size=W.heap.size+1 from a5.out]at f0 f1 f2 R;clear M g1 l;go_wp2_with fail;try rw[j]
  refine b2.out.mono ?_;rintro e w3⟨rfl,d⟩;rw[show q.heap.size=W.heap.size+1 from a5.out];obtain⟨n0,n1,nt,a0⟩:=mP y.2;rw[a0];have C:¬T W.heap.size:=λe=>by have:=u.out _ e;omega
  have E:¬T (W.heap.size+1):=λe=>by have:=u.out _ e;omega
  have D:W.heap.size<W2.heap.size:=by have:=a2.out;omega
  have I:W.heap.size+1<W2.heap.size:=by have:=a2.out;omega
  replace e0:=(d.2.cell (p:=⟨W.heap.size,0,none⟩) D C).trans e0;replace e1:=(d.2.cell (p:=⟨W.heap.size,1,none⟩) D C).trans e1;replace e2:=(d.2.cell (p:=⟨W.heap.size,2,none⟩) D C).trans e2;replace ez:∀o,w3.frozen? ⟨W.heap.size,o,none⟩=false:=λo=>(d.2.frozen (p:=⟨W.heap.size,o,none⟩) D C).trans (ez o);replace f0:=(d.2.cell (p:=⟨W.heap.size+1,0,none⟩) I E).trans f0;replace f1:=(d.2.cell (p:=⟨W.heap.size+1,1,none⟩) I E).trans f1;replace f2:=(d.2.cell (p:=⟨W.heap.size+1,2,none⟩) I E).trans f2;replace R:∀o,w3.frozen? ⟨W.heap.size+1,o,none⟩=false:=λo=>(d.2.frozen (p:=⟨W.heap.size+1,o,none⟩) I E).trans (R o);have m:=qq a0;have Y:=qq d;clear d a0 D I C E t j c2;go_upto_region 8 with(fail);have f:=ch3 w3 (W.heap.size+1) (.int .i64 n0) (.int .i64 n1) (.string nt);obtain⟨P,A⟩:∃P,((w3.setCell ⟨W.heap.size+1,0,none⟩ (.int .i64 n0)).setCell ⟨W.heap.size+1,1,none⟩ (.int .i64 n1)).setCell ⟨W.heap.size+1,2,none⟩ (.string nt)=P:=⟨_,rfl⟩;have q0:P.cell? ⟨W.heap.size+1,0,none⟩=some (.int .i64 n0):=by rw[←A];simp[go_sem,f0]
  have q1:P.cell? ⟨W.heap.size+1,1,none⟩=some (.int .i64 n1):=by rw[←A];simp[go_sem,f1]
  have q2:P.cell? ⟨W.heap.size+1,2,none⟩=some (.string nt):=by rw[←A];simp[go_sem,f2]
  rw[A]at f;try rw[A]
  have i:W.heap.size<w3.heap.size:=ae e0;have S:¬(W.heap.size=W.heap.size+1):=by omega
  replace e0:=(f.cell (p:=⟨W.heap.size,0,none⟩) i S).trans e0;replace e1:=(f.cell (p:=⟨W.heap.size,1,none⟩) i S).trans e1;replace e2:=(f.cell (p:=⟨W.heap.size,2,none⟩) i S).trans e2;replace ez:∀o,P.frozen? ⟨W.heap.size,o,none⟩=false:=λo=>(f.frozen (p:=⟨W.heap.size,o,none⟩) i S).trans (ez o);have U:∀k,Add T W2 w3 k→¬(k=W.heap.size+1)∧¬(k=W.heap.size):=λk e=>by
   have:=a2.out;rcases e with e | e
   ·have:=u.out k e;omega
   ·have:=e.1;omega
  obtain⟨⟨c,pb,bb,cv,k4,hC⟩,b4⟩:=(aD b (.func (.func g) #[] lb)).frame Y.out.1 f (λk e=>(U k e).1);have L:=qq (show Ch T W P from((X.out.to_ch T).trans Y.out.2).drop_new f (λk e=>.inr (by rw[show k=W.heap.size+1 from e];omega)));have a7:Add T W2 w3 b:=hC b (by rw[k4.cb];decide);have Z:=U b a7;have a8:T b:=b0.out;have k2:=k4.c2;have k6:=k4.c6;have kz:=k4.fz;have O:=qq f.size;have r:=qq hC;have V:=qq k4;have J:=qq U;have z:b≠W.heap.size:=Z.2;have c0:b≠W.heap.size+1:=Z.1;have b7:b<P.heap.size:=k4.blt;clear f f0 f1 f2 R k4 hC b4 U Z a7 i A;obtain⟨B,y2,hy⟩:∃B y2,y=(B,y2):=⟨_,_,rfl⟩;rw[show y.2=y2 by rw[hy]];rw[show y.1=B by rw[hy]]at k2 V;have a1:=qq (hq.out.trans (show(if y.2.isNone||y.1.st==3 then { y.1 with fresh:=false } else y.1,y.2)=(if y2.isNone||B.st==3 then { B with fresh:=false } else B,y2) by rw[hy]));rw[show y.2=y2 by rw[hy]]at m;clear hy hq;have c1:=qq (show W.heap.size<P.heap.size from ae e0);cases y2 with
  | none =>
   have N:=qq (a1.out.trans (show _=({ B with fresh:=false },(none:Option Sev))from rfl));go_wp2;refine bodyPost_ret (v:=.tuple #[.agg #[.int .i64 n0,.int .i64 n1,.string nt],.bool false]) (by simp[results,results13,go_sem,e0,e1,e2,z,Ne.symm z]) rfl ?_;rw[N.out];exact⟨by rw[m.out];rfl,kS u.out X.out ((V.out.setFresh false).frame (ch3 _ W.heap.size _ _ _) (λk e=>(J.out k (r.out k e)).2)) r.out ((L.out.trans (Ch.setCell P (a:=⟨b,6,none⟩) a8 _)).drop_new (ch3 _ W.heap.size _ _ _) (λk e=>.inr (Nat.le_of_eq (show k=W.heap.size from e).symm))) (by have:=O.out;simpa using this)⟩
  | some ev =>
   by_cases h3:B.st=3
   ·have N:=qq (a1.out.trans (show _=({ B with fresh:=false },some ev) by rw[h3];rfl));have b5:((B.st:Int)==3)=true:=beq_iff_eq.2 (by omega);clear h3;go_wp2;refine bodyPost_ret (v:=.tuple #[.agg #[.int .i64 n0,.int .i64 n1,.string nt],.bool true]) (by simp[results,results13,go_sem,e0,e1,e2,z,Ne.symm z]) rfl ?_;rw[N.out];exact⟨by rw[m.out];rfl,kS u.out X.out ((V.out.setFresh false).frame (ch3 _ W.heap.size _ _ _) (λk e=>(J.out k (r.out k e)).2)) r.out ((L.out.trans (Ch.setCell P (a:=⟨b,6,none⟩) a8 _)).drop_new (ch3 _ W.heap.size _ _ _) (λk e=>.inr (Nat.le_of_eq (show k=W.heap.size from e).symm))) (by have:=O.out;simpa using this)⟩
   ·have N:=qq (a1.out.trans (show _=(B,some ev) by rw[show(B.st==3)=false from beq_false_of_ne h3];rfl));have b5:((B.st:Int)==3)=false:=beq_false_of_ne (by omega);clear h3;go_wp2;refine bodyPost_ret (v:=.tuple #[.agg #[.int .i64 n0,.int .i64 n1,.string nt],.bool true]) (by simp[results,results13,go_sem,e0,e1,e2,z,Ne.symm z]) rfl ?_;rw[N.out];exact⟨by rw[m.out];rfl,kS u.out X.out (V.out.frame (ch3 _ W.heap.size _ _ _) (λk e=>(J.out k (r.out k e)).2)) r.out (L.out.drop_new (ch3 _ W.heap.size _ _ _) (λk e=>.inr (Nat.le_of_eq (show k=W.heap.size from e).symm))) (by have:=O.out;simpa using this)⟩
 ·have q2:s.st=2:=by
   rcases ha with e | e | e
   ·exact absurd e q1
   ·exact e
   ·unfold cW at a4;rw[e]at a4;cases a4
  rw[if_neg q1]at a9;rw[q2]at c2;obtain⟨w,hw,c3,b3⟩:=h2 q2;clear a6 a4 a3 q1 q2;have M:=qq (λW2 (X:Gr W W2)=>show Calls prog 42 #[.pointer (some ⟨b,0,none⟩)] W2 λe w'=>e=.returned (.tuple #[fT y.2,.bool y.2.isSome])∧Pst (bT b (.func (.func g) #[] lb)) T W2 y.1 w' from a9▸DB ((aD b (.func (.func g) #[] lb)).gr h0.out X) hw c3 hn b3);clear h hB h2 hG hH;go_enter func13,ntmps13;go_wp2_with fail;refine ht.out.mono ?_;rintro e w9⟨rfl,rfl⟩;try rw[t]
  obtain⟨W2,j⟩:∃W2,q.alloc (.cells #[.int .i64 0,.int .i64 0,.string ⟨#[]⟩] 28)=W2:=⟨_,rfl⟩;have l:Gr q W2:=j▸Gr.alloc q _;have a2:=qq (show W2.heap.size=W.heap.size+2 by rw[←j,World.size_alloc,a5.out]);have f0:W2.cell? ⟨q.heap.size,0,none⟩=some (.int .i64 0):=by rw[←j];exact aa _ _ _ 0 _ rfl
  have f1:W2.cell? ⟨q.heap.size,1,none⟩=some (.int .i64 0):=by rw[←j];exact aa _ _ _ 1 _ rfl
  have f2:W2.cell? ⟨q.heap.size,2,none⟩=some (.string ⟨#[]⟩):=by rw[←j];exact aa _ _ _ 2 _ rfl
  have R:∀o,W2.frozen? ⟨q.heap.size,o,none⟩=false:=λo=>by rw[←j];exact World.frozen?_alloc_at _ _ _ _ rfl
  have X:=qq (g1.trans l);replace e0:=l.cell e0;replace e1:=l.cell e1;replace e2:=l.cell e2;replace ez:∀o,W2.frozen? ⟨W.heap.size,o,none⟩=false:=λo=>(Below.frozen l (p:=⟨W.heap.size,o,none⟩) b1.out).trans (ez o);replace c2:=l.cell c2;have b2:=qq (M.out W2 X.out);rw[show q.heap.size=W.heap.size+1 from a5.out]at f0 f1 f2 R;clear M g1 l;go_wp2_with fail;try rw[j]
  refine b2.out.mono ?_;rintro e w3⟨rfl,d⟩;rw[show q.heap.size=W.heap.size+1 from a5.out];obtain⟨n0,n1,nt,a0⟩:=mP y.2;rw[a0];have C:¬T W.heap.size:=λe=>by have:=u.out _ e;omega
  have E:¬T (W.heap.size+1):=λe=>by have:=u.out _ e;omega
  have D:W.heap.size<W2.heap.size:=by have:=a2.out;omega
  have I:W.heap.size+1<W2.heap.size:=by have:=a2.out;omega
  replace e0:=(d.2.cell (p:=⟨W.heap.size,0,none⟩) D C).trans e0;replace e1:=(d.2.cell (p:=⟨W.heap.size,1,none⟩) D C).trans e1;replace e2:=(d.2.cell (p:=⟨W.heap.size,2,none⟩) D C).trans e2;replace ez:∀o,w3.frozen? ⟨W.heap.size,o,none⟩=false:=λo=>(d.2.frozen (p:=⟨W.heap.size,o,none⟩) D C).trans (ez o);replace f0:=(d.2.cell (p:=⟨W.heap.size+1,0,none⟩) I E).trans f0;replace f1:=(d.2.cell (p:=⟨W.heap.size+1,1,none⟩) I E).trans f1;replace f2:=(d.2.cell (p:=⟨W.heap.size+1,2,none⟩) I E).trans f2;replace R:∀o,w3.frozen? ⟨W.heap.size+1,o,none⟩=false:=λo=>(d.2.frozen (p:=⟨W.heap.size+1,o,none⟩) I E).trans (R o);have m:=qq a0;have Y:=qq d;clear d a0 D I C E t j c2;go_upto_region 8 with(fail);have f:=ch3 w3 (W.heap.size+1) (.int .i64 n0) (.int .i64 n1) (.string nt);obtain⟨P,A⟩:∃P,((w3.setCell ⟨W.heap.size+1,0,none⟩ (.int .i64 n0)).setCell ⟨W.heap.size+1,1,none⟩ (.int .i64 n1)).setCell ⟨W.heap.size+1,2,none⟩ (.string nt)=P:=⟨_,rfl⟩;have q0:P.cell? ⟨W.heap.size+1,0,none⟩=some (.int .i64 n0):=by rw[←A];simp[go_sem,f0]
  have q1:P.cell? ⟨W.heap.size+1,1,none⟩=some (.int .i64 n1):=by rw[←A];simp[go_sem,f1]
  have q2:P.cell? ⟨W.heap.size+1,2,none⟩=some (.string nt):=by rw[←A];simp[go_sem,f2]
  rw[A]at f;try rw[A]
  have i:W.heap.size<w3.heap.size:=ae e0;have S:¬(W.heap.size=W.heap.size+1):=by omega
  replace e0:=(f.cell (p:=⟨W.heap.size,0,none⟩) i S).trans e0;replace e1:=(f.cell (p:=⟨W.heap.size,1,none⟩) i S).trans e1;replace e2:=(f.cell (p:=⟨W.heap.size,2,none⟩) i S).trans e2;replace ez:∀o,P.frozen? ⟨W.heap.size,o,none⟩=false:=λo=>(f.frozen (p:=⟨W.heap.size,o,none⟩) i S).trans (ez o);have U:∀k,Add T W2 w3 k→¬(k=W.heap.size+1)∧¬(k=W.heap.size):=λk e=>by
   have:=a2.out;rcases e with e | e
   ·have:=u.out k e;omega
   ·have:=e.1;omega
  obtain⟨⟨c,pb,bb,cv,k4,hC⟩,b4⟩:=(aD b (.func (.func g) #[] lb)).frame Y.out.1 f (λk e=>(U k e).1);have L:=qq (show Ch T W P from((X.out.to_ch T).trans Y.out.2).drop_new f (λk e=>.inr (by rw[show k=W.heap.size+1 from e];omega)));have a7:Add T W2 w3 b:=hC b (by rw[k4.cb];decide);have Z:=U b a7;have a8:T b:=b0.out;have k2:=k4.c2;have k6:=k4.c6;have kz:=k4.fz;have O:=qq f.size;have r:=qq hC;have V:=qq k4;have J:=qq U;have z:b≠W.heap.size:=Z.2;have c0:b≠W.heap.size+1:=Z.1;have b7:b<P.heap.size:=k4.blt;clear f f0 f1 f2 R k4 hC b4 U Z a7 i A;obtain⟨B,y2,hy⟩:∃B y2,y=(B,y2):=⟨_,_,rfl⟩;rw[show y.2=y2 by rw[hy]];rw[show y.1=B by rw[hy]]at k2 V;have a1:=qq (hq.out.trans (show(if y.2.isNone||y.1.st==3 then { y.1 with fresh:=false } else y.1,y.2)=(if y2.isNone||B.st==3 then { B with fresh:=false } else B,y2) by rw[hy]));rw[show y.2=y2 by rw[hy]]at m;clear hy hq;have c1:=qq (show W.heap.size<P.heap.size from ae e0);cases y2 with
  | none =>
   have N:=qq (a1.out.trans (show _=({ B with fresh:=false },(none:Option Sev))from rfl));go_wp2;refine bodyPost_ret (v:=.tuple #[.agg #[.int .i64 n0,.int .i64 n1,.string nt],.bool false]) (by simp[results,results13,go_sem,e0,e1,e2,z,Ne.symm z]) rfl ?_;rw[N.out];exact⟨by rw[m.out];rfl,kS u.out X.out ((V.out.setFresh false).frame (ch3 _ W.heap.size _ _ _) (λk e=>(J.out k (r.out k e)).2)) r.out ((L.out.trans (Ch.setCell P (a:=⟨b,6,none⟩) a8 _)).drop_new (ch3 _ W.heap.size _ _ _) (λk e=>.inr (Nat.le_of_eq (show k=W.heap.size from e).symm))) (by have:=O.out;simpa using this)⟩
  | some ev =>
   by_cases h3:B.st=3
   ·have N:=qq (a1.out.trans (show _=({ B with fresh:=false },some ev) by rw[h3];rfl));have b5:((B.st:Int)==3)=true:=beq_iff_eq.2 (by omega);clear h3;go_wp2;refine bodyPost_ret (v:=.tuple #[.agg #[.int .i64 n0,.int .i64 n1,.string nt],.bool true]) (by simp[results,results13,go_sem,e0,e1,e2,z,Ne.symm z]) rfl ?_;rw[N.out];exact⟨by rw[m.out];rfl,kS u.out X.out ((V.out.setFresh false).frame (ch3 _ W.heap.size _ _ _) (λk e=>(J.out k (r.out k e)).2)) r.out ((L.out.trans (Ch.setCell P (a:=⟨b,6,none⟩) a8 _)).drop_new (ch3 _ W.heap.size _ _ _) (λk e=>.inr (Nat.le_of_eq (show k=W.heap.size from e).symm))) (by have:=O.out;simpa using this)⟩
   ·have N:=qq (a1.out.trans (show _=(B,some ev) by rw[show(B.st==3)=false from beq_false_of_ne h3];rfl));have b5:((B.st:Int)==3)=false:=beq_false_of_ne (by omega);clear h3;go_wp2;refine bodyPost_ret (v:=.tuple #[.agg #[.int .i64 n0,.int .i64 n1,.string nt],.bool true]) (by simp[results,results13,go_sem,e0,e1,e2,z,Ne.symm z]) rfl ?_;rw[N.out];exact⟨by rw[m.out];rfl,kS u.out X.out (V.out.frame (ch3 _ W.heap.size _ _ _) (λk e=>(J.out k (r.out k e)).2)) r.out (L.out.drop_new (ch3 _ W.heap.size _ _ _) (λk e=>.inr (Nat.le_of_eq (show k=W.heap.size from e).symm))) (by have:=O.out;simpa using this)⟩
end
