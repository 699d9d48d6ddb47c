/-
  The joiner in memory: a frame begins.
-/
import Derived.Test.YtadobobfjnmdlaaGreatDoorQy
set_option linter.unnecessarySimpa false
set_option linter.unusedVariables false
set_option linter.unusedSimpArgs false
set_option maxHeartbeats 16000000
set_option maxRecDepth 100000
open Go.Proofs.Tryz
namespace Go.Proofs.YtadobobfjnmdlaaGreatDoor
open Go.RowKit Go.Shelf
attribute [local go_sem] Oper.semAt_some
theorem BdJ.own_lt {b:Nat}{W:World}{l:List UInt8}{v:Value}(h:BdJ b W l v){g:Nat}(e:v.ownBlock=some g):g<W.heap.size:=by
 rcases h.own.2 with⟨rfl,_⟩ | ⟨d,cap,a,rfl,_,c,_⟩
 ·cases e
 ·cases e;exact(Array.getElem?_eq_some_iff.1 c).1
def JbPost (b:Nat)(j:Jn)(v:Value)(q:Option Nat)(W W':World):Prop :=
 ∃q',JnS b W' j v q'∧Ch (λi=>i=b) W W'∧(q'=q∨∃c,q'=some c∧W.heap.size≤c)∧(q'=none→q=none∧j.op=0)
theorem uI {j:Jn}(h:iI j){last:Bool}{op len:Nat}:iI (aG j last op len):=by
 unfold aG;split
 ·exact h
 ·split
  ·exact fk h (by decide)
  ·rename_i f;split
   ·exact fk h (by decide)
   ·obtain⟨c,i,k,l,m,d,g⟩:=h;have a:op≤2:=by
     simp only[Bool.or_eq_true,not_or,Bool.and_eq_true,not_and,bne_iff_ne,ne_eq,Decidable.not_not]at f;by_cases e:op=0
     ·omega
     ·by_cases e1:op=1
      ·omega
      ·have:=f.1.2 e e1;omega
    split
    ·exact⟨c,by dsimp only;omega,by dsimp only;omega,by dsimp only;omega,λ_=>by dsimp only;omega,d,a⟩
    ·exact⟨c,by dsimp only;omega,by dsimp only;omega,by dsimp only;omega,λ_=>by dsimp only;omega,d,g⟩
section
variable {b:Nat} {W:World} {j:Jn} {v:Value} {q:Option Nat}
theorem JbPost.same (k:JnS b W j v q)(a:q=none→j.op=0):JbPost b j v q W W:=⟨q,k,Ch.refl _ _,.inl rfl,λe=>⟨e,a e⟩⟩
theorem fi (j:Jn)(c:Nat):(aF j c).op=j.op:=by unfold aF;split <;> rfl
theorem uJ (k:JnS b W j v q)(a:q=none→j.op=0)(last:Bool)(op len:Nat)(h:j.bad≠0) :
  Calls prog 149 #[.pointer (some ⟨b,0,none⟩),.bool last,.int .i64 op,.int .i64 len] W λe w'=>e=.returned (.int .i64 (aG j last op len).bad)∧JbPost b (aG j last op len) v q W w':=by
 have d:=qq (show aG j last op len=j by unfold aG;rw[if_pos h]);have c2:=k.c2;have f:((j.bad:Int) != 0)=true:=bne_iff_ne.2 (by omega);have hn:=qq (bY k);have c:=qq (JbPost.same k a);clear k h a;go_enter func149,ntmps149;go_wp2_with fail;refine hn.out.mono ?_;rintro e g⟨rfl,rfl⟩;go_wp2;go_ret;rw[d.out];exact⟨rfl,c.out⟩
def uK (j:Jn)(op:Nat):Bool:=j.begun||(op != 0&&(op != 1&&op != 2))||((op==0) != (j.op != 0))
theorem qD (k:JnS b W j v q)(t:q=none→j.op=0)(last:Bool)(op len:Nat)(h:j.bad=0)(c:uK j op=true) :
  Calls prog 149 #[.pointer (some ⟨b,0,none⟩),.bool last,.int .i64 op,.int .i64 len] W λe w'=>e=.returned (.int .i64 (aG j last op len).bad)∧JbPost b (aG j last op len) v q W w':=by
 have m:=qq (show aG j last op len=aF j 1002 by unfold aG;rw[if_neg (by omega)];exact if_pos c);have c2:=k.c2;have c3:=k.c3;have c8:=k.c8;rw[h]at c2;have hn:=qq (bY k);have hf:=qq (dH k 1002);have p:=qq t;have s:((len:Int)<0)=False:=by simp
 have o:j.begun=true∨(j.begun=false∧2<op)∨(j.begun=false∧op=0∧j.op=0)∨(j.begun=false∧op=1∧j.op≠0)∨(j.begun=false∧op=2∧j.op≠0):=by
  unfold uK at c;cases u:j.begun
  ·right;rw[u]at c;by_cases n:2<op
   ·exact .inl ⟨rfl,n⟩
   ·have:op=0∨op=1∨op=2:=(by omega);rcases this with rfl | rfl | rfl
    ·refine .inr (.inl ⟨rfl,rfl,?_⟩);simpa using c
    ·refine .inr (.inr (.inl ⟨rfl,rfl,?_⟩));simpa using c
    ·refine .inr (.inr (.inr ⟨rfl,rfl,?_⟩));simpa using c
  ·exact .inl rfl
 clear c k h t;have d:∀w':World,JnS b w' (aF j 1002) v q∧Ch (λi=>i=b) W w'→JbPost b (aF j 1002) v q W w':=λw' r=>⟨q,r.1,r.2,.inl rfl,λe=>⟨e,by rw[fi];exact p.out e⟩⟩;have a:=qq d;clear d;rcases o with c | ⟨c,n⟩ | ⟨c,rfl,l⟩ | ⟨c,rfl,l⟩ | ⟨c,rfl,l⟩
 ·rw[c]at c8;go_enter func149,ntmps149;go_wp2_with fail;refine hn.out.mono ?_;rintro e g⟨rfl,rfl⟩;go_wp2_with fail;refine hf.out.mono ?_;rintro e g⟨rfl,f⟩;go_wp2;go_ret;rw[m.out];exact⟨rfl,a.out _ f⟩
 ·rw[c]at c8;have w:((op:Int) != 0)=true:=bne_iff_ne.2 (by omega);have x:((op:Int) != 1)=true:=bne_iff_ne.2 (by omega);have y:((op:Int) != 2)=true:=bne_iff_ne.2 (by omega);clear n;go_enter func149,ntmps149;go_wp2_with fail;refine hn.out.mono ?_;rintro e g⟨rfl,rfl⟩;go_wp2_with fail;refine hf.out.mono ?_;rintro e g⟨rfl,f⟩;go_wp2;go_ret;rw[m.out];exact⟨rfl,a.out _ f⟩
 ·rw[c]at c8;rw[l]at c3;go_enter func149,ntmps149;go_wp2_with fail;refine hn.out.mono ?_;rintro e g⟨rfl,rfl⟩;go_wp2_with fail;refine hf.out.mono ?_;rintro e g⟨rfl,f⟩;go_wp2;go_ret;rw[m.out];exact⟨rfl,a.out _ f⟩
 all_goals
  rw[c]at c8;have w:((j.op:Int) != 0)=true:=bne_iff_ne.2 (by omega);clear l;go_enter func149,ntmps149;go_wp2_with fail;refine hn.out.mono ?_;rintro e g⟨rfl,rfl⟩;go_wp2_with fail;refine hf.out.mono ?_;rintro e g⟨rfl,f⟩;go_wp2;go_ret;rw[m.out];exact⟨rfl,a.out _ f⟩
theorem FN {j:Jn}{op:Nat}(a:uK j op=false):j.begun=false∧((op=0∧j.op≠0)∨(op=1∧j.op=0)∨(op=2∧j.op=0)):=by
 unfold uK at a;cases c:j.begun
 ·rw[c]at a;refine⟨rfl,?_⟩;by_cases d:2<op
  ·exfalso;have e0:(op != 0)=true:=bne_iff_ne.2 (by omega);have e1:(op != 1)=true:=bne_iff_ne.2 (by omega);have e2:(op != 2)=true:=bne_iff_ne.2 (by omega);rw[e0,e1,e2]at a;simp at a
  ·have:op=0∨op=1∨op=2:=(by omega);rcases this with rfl | rfl | rfl
   ·refine .inl ⟨rfl,?_⟩;simpa using a
   ·refine .inr (.inl ⟨rfl,?_⟩);simpa using a
   ·refine .inr (.inr ⟨rfl,?_⟩);simpa using a
 ·rw[c]at a;simp at a
theorem r8 (k:JnS b W j v q)(u:q=none→j.op=0)(last:Bool)(op len:Nat)(h:j.bad=0)(o:uK j op=false)(ok:iI j)(t:len≤9223372036854775807)(hm:j.limit<j.sum+len) :
  Calls prog 149 #[.pointer (some ⟨b,0,none⟩),.bool last,.int .i64 op,.int .i64 len] W λe w'=>e=.returned (.int .i64 (aG j last op len).bad)∧JbPost b (aG j last op len) v q W w':=by
 have w:=qq (show aG j last op len=aF j 1009 by unfold aG;rw[if_neg (by omega)];exact(if_neg (λe=>absurd (e.symm.trans o) (by decide))).trans (if_pos (by omega)));have c0:=k.c0;have c2:=k.c2;have c3:=k.c3;have c4:=k.c4;have c8:=k.c8;rw[h]at c2;have hn:=qq (bY k);have hf:=qq (show ∀w',Gr W w'→Calls prog 184 #[.pointer (some ⟨b,0,none⟩),.int .i64 1009] w' λe x=>e=.returned (.int .i64 (aF j 1009).bad)∧JnS b x (aF j 1009) v q∧Ch (λi=>i=b) w' x from λw' g=>dH (k.gr g) 1009);have z:((len:Int)<0)=False:=by simp
 have f:∀w':World,JnS b w' (aF j 1009) v q∧Ch (λi=>i=b) W w'→JbPost b (aF j 1009) v q W w':=λw' s=>⟨q,s.1,s.2,.inl rfl,λe=>⟨e,by rw[fi];exact u e⟩⟩;have c:=qq f;obtain⟨r,y⟩:=FN o;obtain⟨B,C,_⟩:=ok;have A:((j.limit:Int) - j.sum<len)=True:=by simp;omega
 rw[r]at c8;clear f o k h u hm r;rcases y with⟨rfl,m⟩ | ⟨rfl,m⟩ | ⟨rfl,m⟩
 ·have D:((j.op:Int) != 0)=true:=bne_iff_ne.2 (by omega);clear m;go_enter func149,ntmps149;go_wp2_with fail;refine hn.out.mono ?_;rintro e p⟨rfl,rfl⟩;go_wp2_with fail;go_quiet (fail);obtain⟨d,a⟩:∃d,W.drewN nq=d:=⟨_,rfl⟩;have l:=qq (show Gr W d from a▸below_drewNm _ _);rw[a];clear a;go_wp2_with fail;refine(hf.out d l.out).mono ?_;rintro e p⟨rfl,n⟩;go_wp2;go_ret;rw[w.out];exact⟨rfl,c.out _ ⟨n.1,(l.out.to_ch _).trans n.2⟩⟩
 all_goals
  rw[m]at c3;clear m;go_enter func149,ntmps149;go_wp2_with fail;refine hn.out.mono ?_;rintro e p⟨rfl,rfl⟩;go_wp2_with fail;go_quiet (fail);obtain⟨d,a⟩:∃d,W.drewN nq=d:=⟨_,rfl⟩;have l:=qq (show Gr W d from a▸below_drewNm _ _);rw[a];clear a;go_wp2_with fail;refine(hf.out d l.out).mono ?_;rintro e p⟨rfl,n⟩;go_wp2;go_ret;rw[w.out];exact⟨rfl,c.out _ ⟨n.1,(l.out.to_ch _).trans n.2⟩⟩
theorem yG (k:JnS b W j v q)(N:q=none→j.op=0)(last:Bool)(op len:Nat)(h:j.bad=0)(H:uK j op=false)(ok:iI j)(hm:j.sum+len≤j.limit) :
  Calls prog 149 #[.pointer (some ⟨b,0,none⟩),.bool last,.int .i64 op,.int .i64 len] W λe w'=>e=.returned (.int .i64 (aG j last op len).bad)∧JbPost b (aG j last op len) v q W w':=by
 have n:aG j last op len=if op≠0 then { j with op:=op,check:=uk0,begun:=true,last:=last,lacks:=len,sum:=j.sum+len } else { j with begun:=true,last:=last,lacks:=len,sum:=j.sum+len }:=by unfold aG;rw[if_neg (by omega)];exact(if_neg (λe=>absurd (e.symm.trans H) (by decide))).trans (if_neg (by omega))
 have c0:=k.c0;have c2:=k.c2;have c3:=k.c3;have c4:=k.c4;have c7:=k.c7;have c8:=k.c8;have c9:=k.c9;have c10:=k.c10;have fz:=k.bd.fz;have m:=k.lt;rw[h]at c2;have hn:=qq (bY k);have R:((len:Int)<0)=False:=by simp
 obtain⟨M,P⟩:=FN H;obtain⟨V,X,_⟩:=ok;have S:((j.limit:Int) - j.sum<len)=False:=by simp;omega
 have L:=qq k;have J:=qq N;have z:=qq h;rw[M]at c8;clear H k h N M;rcases P with⟨rfl,r⟩ | ⟨rfl,r⟩ | ⟨rfl,r⟩
 ·have Y:((j.op:Int) != 0)=true:=bne_iff_ne.2 (by omega);have F:=qq n;clear r n;go_enter func149,ntmps149;go_wp2_with fail;refine hn.out.mono ?_;rintro e O⟨rfl,rfl⟩;go_wp2_with fail;go_quiet (fail);obtain⟨l,f⟩:∃l,W.drewN nq=l:=⟨_,rfl⟩;have p:=qq (show Gr W l from f▸below_drewNm _ _);rw[f];clear f;have c:=qq (L.out.gr p.out);have c3:=c.out.c3;have c4:=c.out.c4;have c7:=c.out.c7;have c8:=c.out.c8;have c9:=c.out.c9;have c10:=c.out.c10;have fz:=c.out.bd.fz;have m:=c.out.lt;go_wp2_with fail;go_ret;rw[F.out];refine⟨by rw[if_neg (by simp)];rw[z.out];rfl,q,(((c.out.setBegun true).setLast last).setLacks len).setSum (j.sum+len),(p.out.to_ch _).trans ?_,.inl rfl,λe=>⟨e,J.out e⟩⟩;exact(((Ch.setCell (T:=λi=>i=b) _ (a:=⟨b,8,none⟩) rfl _).trans (Ch.setCell (T:=λi=>i=b) _ (a:=⟨b,9,none⟩) rfl _)).trans (Ch.setCell (T:=λi=>i=b) _ (a:=⟨b,10,none⟩) rfl _)).trans (Ch.setCell (T:=λi=>i=b) _ (a:=⟨b,4,none⟩) rfl _)
 ·rw[r]at c3;have F:=qq n;have I:=qq r;clear r n;go_enter func149,ntmps149;go_wp2_with fail;refine hn.out.mono ?_;rintro e O⟨rfl,rfl⟩;go_wp2_with fail;go_quiet (fail);obtain⟨l,f⟩:∃l,W.drewN nq=l:=⟨_,rfl⟩;have p:=qq (show Gr W l from f▸below_drewNm _ _);rw[f];clear f;have c:=qq (L.out.gr p.out);have c3:=c.out.c3;have c4:=c.out.c4;have c7:=c.out.c7;have c8:=c.out.c8;have c9:=c.out.c9;have c10:=c.out.c10;have fz:=c.out.bd.fz;have m:=c.out.lt;go_wp2_with fail;obtain⟨o,g⟩:∃o,l.setCell ⟨b,3,none⟩ (.int .i64 1)=o:=⟨_,rfl⟩;rw[g];have B:=qq (show JnS b o { j with op:=1 } v q from g▸c.out.setOp 1);have D:=qq (show Ch (λi=>i=b) l o from g▸Ch.setCell (T:=λi=>i=b) l (a:=⟨b,3,none⟩) rfl _);have d:=tS o;obtain⟨C,u⟩:∃C,o.heap.size=C:=⟨_,rfl⟩;rw[u]at d;have x:C≠b:=by have:=B.out.lt;omega
  have y:v.ownBlock≠some C:=λe=>by have:=B.out.bd.own_lt e;omega
  have w:=qq (show W.heap.size≤C from u▸qy p.out.size D.out.size);clear g c3 c4 c7 c8 c9 c10 fz m u;refine d.mono ?_;clear d;rintro e U⟨rfl,E,s⟩;have k2:=qq (B.out.gr s);have c4:=k2.out.c4;have c7:=k2.out.c7;have c8:=k2.out.c8;have c9:=k2.out.c9;have c10:=k2.out.c10;have fz:=k2.out.bd.fz;have m:=k2.out.lt;have A:=qq E;have t:=qq s;dsimp only at c4 c8 c9 c10;clear E s;go_wp2;go_ret;rw[F.out];refine⟨by rw[if_pos (by decide)];show _=Ending.returned (Value.int .i64 j.bad);rw[z.out];rfl,some C,((((k2.out.setCheck A.out x y).setBegun true).setLast last).setLacks len).setSum (j.sum+len),?_,.inr ⟨C,rfl,w.out⟩,λe=>by cases e⟩;exact(((p.out.to_ch _).trans D.out).trans (t.out.to_ch _)).trans (((((Ch.setCell (T:=λi=>i=b) _ (a:=⟨b,7,none⟩) rfl _).trans (Ch.setCell (T:=λi=>i=b) _ (a:=⟨b,8,none⟩) rfl _)).trans (Ch.setCell (T:=λi=>i=b) _ (a:=⟨b,9,none⟩) rfl _)).trans (Ch.setCell (T:=λi=>i=b) _ (a:=⟨b,10,none⟩) rfl _)).trans (Ch.setCell (T:=λi=>i=b) _ (a:=⟨b,4,none⟩) rfl _))
 ·rw[r]at c3;have F:=qq n;have I:=qq r;clear r n;go_enter func149,ntmps149;go_wp2_with fail;refine hn.out.mono ?_;rintro e O⟨rfl,rfl⟩;go_wp2_with fail;go_quiet (fail);obtain⟨l,f⟩:∃l,W.drewN nq=l:=⟨_,rfl⟩;have p:=qq (show Gr W l from f▸below_drewNm _ _);rw[f];clear f;have c:=qq (L.out.gr p.out);have c3:=c.out.c3;have c4:=c.out.c4;have c7:=c.out.c7;have c8:=c.out.c8;have c9:=c.out.c9;have c10:=c.out.c10;have fz:=c.out.bd.fz;have m:=c.out.lt;go_wp2_with fail;obtain⟨o,g⟩:∃o,l.setCell ⟨b,3,none⟩ (.int .i64 2)=o:=⟨_,rfl⟩;rw[g];have B:=qq (show JnS b o { j with op:=2 } v q from g▸c.out.setOp 2);have D:=qq (show Ch (λi=>i=b) l o from g▸Ch.setCell (T:=λi=>i=b) l (a:=⟨b,3,none⟩) rfl _);have d:=tS o;obtain⟨C,u⟩:∃C,o.heap.size=C:=⟨_,rfl⟩;rw[u]at d;have x:C≠b:=by have:=B.out.lt;omega
  have y:v.ownBlock≠some C:=λe=>by have:=B.out.bd.own_lt e;omega
  have w:=qq (show W.heap.size≤C from u▸qy p.out.size D.out.size);clear g c3 c4 c7 c8 c9 c10 fz m u;refine d.mono ?_;clear d;rintro e U⟨rfl,E,s⟩;have k2:=qq (B.out.gr s);have c4:=k2.out.c4;have c7:=k2.out.c7;have c8:=k2.out.c8;have c9:=k2.out.c9;have c10:=k2.out.c10;have fz:=k2.out.bd.fz;have m:=k2.out.lt;have A:=qq E;have t:=qq s;dsimp only at c4 c8 c9 c10;clear E s;go_wp2;go_ret;rw[F.out];refine⟨by rw[if_pos (by decide)];show _=Ending.returned (Value.int .i64 j.bad);rw[z.out];rfl,some C,((((k2.out.setCheck A.out x y).setBegun true).setLast last).setLacks len).setSum (j.sum+len),?_,.inr ⟨C,rfl,w.out⟩,λe=>by cases e⟩;exact(((p.out.to_ch _).trans D.out).trans (t.out.to_ch _)).trans (((((Ch.setCell (T:=λi=>i=b) _ (a:=⟨b,7,none⟩) rfl _).trans (Ch.setCell (T:=λi=>i=b) _ (a:=⟨b,8,none⟩) rfl _)).trans (Ch.setCell (T:=λi=>i=b) _ (a:=⟨b,9,none⟩) rfl _)).trans (Ch.setCell (T:=λi=>i=b) _ (a:=⟨b,10,none⟩) rfl _)).trans (Ch.setCell (T:=λi=>i=b) _ (a:=⟨b,4,none⟩) rfl _))
end
section
variable {b:Nat} {W:World} {j:Jn} {v:Value} {q:Option Nat}
theorem uL (k:JnS b W j v q)(c:q=none→j.op=0)(ok:iI j)(last:Bool)(op len:Nat)(a:len≤9223372036854775807) :
  Calls prog 149 #[.pointer (some ⟨b,0,none⟩),.bool last,.int .i64 op,.int .i64 len] W λe w'=>e=.returned (.int .i64 (aG j last op len).bad)∧JbPost b (aG j last op len) v q W w':=by
 by_cases h:j.bad=0
 ·cases d:uK j op
  ·by_cases hm:j.sum+len≤j.limit
   ·exact yG k c last op len h d ok hm
   ·exact r8 k c last op len h d ok a (by omega)
  ·exact qD k c last op len h d
 ·exact uJ k c last op len h
theorem JnS.fed {C:Nat}{d:World}{u:Uk}(k:JnS b W j v (some C))(m:UkAt C d u)(h:Ch (λn=>n=C) W d):JnS b d { j with check:=u } v (some C):=by
 have f:=k.ck C rfl;have g:¬(b=C):=λe=>f.2.1 e.symm;have a:∀ {i x},W.cell? ⟨b,i,none⟩=some x→d.cell? ⟨b,i,none⟩=some x:=fun {i x} l=>(h.cell (p:=⟨b,i,none⟩) (ae l) g).trans l;exact⟨a k.c0,a k.c1,a k.c2,a k.c3,a k.c4,k.bd.ch h g (λi e e2=>f.2.2 (by rw[e,e2])),a k.c7,λc e=>by cases e;exact⟨m,f.2⟩,a k.c8,a k.c9,a k.c10⟩
theorem JnS.wrote {s:List UInt8}{d:World}(k:JnS b W j v q)(y:Df b (j.text++s) v W d) :
  ∃f,JnS b d { j with text:=j.text++s } f q∧Ch (λi=>i=b∨v.ownBlock=some i) W d∧(∀g,f.ownBlock=some g→v.ownBlock=some g∨W.heap.size≤g):=by
 obtain⟨f,r,m,n,w⟩:=y;have a:∀ {i x},i≠5→i≠6→W.cell? ⟨b,i,none⟩=some x→d.cell? ⟨b,i,none⟩=some x:=fun {i x} o p t=>(w i o p).trans t;refine⟨f,⟨a (by decide) (by decide) k.c0,a (by decide) (by decide) k.c1,a (by decide) (by decide) k.c2,a (by decide) (by decide) k.c3,a (by decide) (by decide) k.c4,r,a (by decide) (by decide) k.c7,λc e=>?_,a (by decide) (by decide) k.c8,a (by decide) (by decide) k.c9,a (by decide) (by decide) k.c10⟩,m,n⟩;obtain⟨u,h,l⟩:=k.ck c e;refine⟨u.ch m (λe2=>e2.elim h l),h,λe2=>?_⟩;rcases n c e2 with e3 | e3
 ·exact l e3
 ·exact absurd u.lt (Nat.not_lt.2 e3)
theorem j7 (j:Jn)(u:Uk)(c:Nat):aF { j with check:=u } c={ aF j c with check:=u }:=by unfold aF;split <;> rfl
def JpPost (b:Nat)(j:Jn)(v:Value)(q:Option Nat)(W W':World):Prop :=
 ∃v',JnS b W' j v' q∧Ch (λi=>i=b∨v.ownBlock=some i∨q=some i) W W'∧(∀g,v'.ownBlock=some g→v.ownBlock=some g∨W.heap.size≤g)
theorem JpPost.of {a:World}{c:Jn}(k:JnS b a c v q)(d:Ch (λi=>i=b) W a):JpPost b c v q W a:=⟨v,k,d.mono λ_ e=>.inl e,λ_ e=>.inl e⟩
theorem uM (h:iI j){s:List UInt8}:iI (aA j s):=by
 obtain⟨e,f,m,n,g,i,k⟩:=h;have h0:iI j:=⟨e,f,m,n,g,i,k⟩;unfold aA;split
 ·exact h0
 ·split
  ·exact fk h0 (by decide)
  ·rename_i a;have d:j.begun=true∧s.length≤j.lacks:=by
    cases d:j.begun
    ·rw[d]at a;exact absurd rfl a
    ·rw[d]at a;simpa using a
   have o:=g d.1;have l:∀u:Uk,iI { j with check:=u,lacks:=j.lacks - s.length,text:=j.text++s }:=λu=>by
    refine⟨e,f,?_,?_,λ_=>?_,i,k⟩
    ·show(j.text++s).length≤j.sum;rw[qw];omega
    ·show j.lacks - s.length≤j.limit;omega
    ·show(j.text++s).length+(j.lacks - s.length)≤j.sum;rw[qw];omega
   split
   ·split
    ·exact fk h0 (c:=1007) (by decide)
    ·exact l _
   ·exact l j.check
theorem uN (k:JnS b W j v q)(V:q=none→j.op=0)(ok:iI j)(s:List UInt8)(hs:s.length≤4611686018427387904) :
  Calls prog 150 #[.pointer (some ⟨b,0,none⟩),.string ⟨s.toArray⟩] W λe w'=>e=.returned (.int .i64 (aA j s).bad)∧JpPost b (aA j s) v q W w':=by
 have c2:=k.c2;have c3:=k.c3;have c7:=k.c7;have c8:=k.c8;have c10:=k.c10;have fz:=k.bd.fz;have I:=k.lt;have hn:=qq (bY k);have a0:((⟨s.toArray⟩:ByteArray).size:Int)=s.length:=by rw[aj]
 have Z:j.lacks≤1099511627776:=qy ok.2.2.2.1 ok.1;have hf:=qq (dH k 1002);have M:=qq k;have D:=qq ok;have P:=qq V;clear ok V;by_cases h:j.bad=0
 ·rw[h]at c2;have H:=qq h;have d:j.begun=false∨(j.begun=true∧j.lacks<s.length)∨(j.begun=true∧s.length≤j.lacks):=by
   cases hb:j.begun
   ·exact .inl rfl
   ·exact .inr ((Nat.lt_or_ge j.lacks s.length).imp (λe=>⟨rfl,e⟩) (λe=>⟨rfl,e⟩))
  clear k;rcases d with d | ⟨d,hl⟩ | ⟨d,hl⟩
  ·have r:=qq (show aA j s=aF j 1002 by unfold aA;rw[if_neg (by omega),d];rfl);rw[d]at c8;clear h d;go_enter func150,ntmps150;go_wp2_with fail;refine hn.out.mono ?_;rintro e t⟨rfl,rfl⟩;go_wp2_with fail;refine hf.out.mono ?_;rintro e t⟨rfl,w⟩;go_wp2;go_ret;rw[r.out];exact⟨rfl,JpPost.of w.1 w.2⟩
  ·have r:=qq (show aA j s=aF j 1002 by unfold aA;rw[if_neg (by omega),d,if_pos (by simpa using hl)]);rw[d]at c8;have O:((j.lacks:Int)<s.length)=True:=(by simp;exact hl);clear h d hl;go_enter func150,ntmps150;go_wp2_with fail;refine hn.out.mono ?_;rintro e t⟨rfl,rfl⟩;go_wp2_with fail;refine hf.out.mono ?_;rintro e t⟨rfl,w⟩;go_wp2;go_ret;rw[r.out];exact⟨rfl,JpPost.of w.1 w.2⟩
  ·have c:aA j s=if j.op=1 then(if (bG j.check s).bad then { aF j 1007 with check:=bG j.check s } else { j with check:=bG j.check s,lacks:=j.lacks - s.length,text:=j.text++s }) else { j with lacks:=j.lacks - s.length,text:=j.text++s }:=by
    unfold aA;rw[if_neg (by omega),d];exact if_neg (by simpa using hl)
   have O:((j.lacks:Int)<s.length)=False:=(by simp;exact hl);have N:=D.out.2.2.2.2.1 d;have y:j.text.length+s.length≤140737488355328:=(by have:=D.out.1;have:=D.out.2.1;omega);rw[d]at c8;have X:((j.lacks:Int) - s.length)=((j.lacks - s.length:Nat):Int):=(by omega);have o:∀(A:World) (u:Uk),JnS b A { j with check:=u } v q→Ch (λi=>i=b∨v.ownBlock=some i∨q=some i) W A →
     Calls prog 115 #[.pointer (some ⟨b,5,none⟩),.string ⟨s.toArray⟩] (A.setCell ⟨b,10,none⟩ (.int .i64 ((j.lacks - s.length:Nat):Int))) λe w'=>e=.returned (.tuple #[.int .i64 s.length,.nilIface])∧JpPost b { j with check:=u,lacks:=j.lacks - s.length,text:=j.text++s } v q W w':=λA u k1 J=>by
    have k2:=k1.setLacks (j.lacks - s.length);refine(wF k2.bd y).mono ?_;rintro e w'⟨rfl,w⟩;obtain⟨v',Y,p,U⟩:=k2.wrote w;have L:Ch (λi=>i=b∨v.ownBlock=some i∨q=some i) A (A.setCell ⟨b,10,none⟩ (.int .i64 ((j.lacks - s.length:Nat):Int))):=Ch.setCell A (a:=⟨b,10,none⟩) (.inl rfl) _;exact⟨rfl,v',Y,(J.trans L).trans (p.mono λ_ e=>e.imp_right .inl),λg e=>(U g e).imp_right λh=>qy (J.trans L).size h⟩
   have f:=qq o;by_cases E:j.op=1
   ·rw[E]at c3;have R:∃C,q=some C:=by cases S:q with
     | none=>have:=P.out S;omega
     | some C=>exact⟨C,rfl⟩
    obtain⟨C,rfl⟩:=R;have T:=(M.out.ck C rfl).1;have x:=qq (Aw C W j.check s T hs);have z:=qq (λ(W':World) (l:UkAt C W' (bG j.check s)) (p:Ch (λn=>n=C) W W')=>M.out.fed l p);rw[if_pos E]at c;cases m:(bG j.check s).bad
    ·rw[m]at x c;have r:=qq c;clear h d hl o c E m T N y;go_enter func150,ntmps150;go_wp2_with fail;refine hn.out.mono ?_;rintro e t⟨rfl,rfl⟩;go_wp2_with fail;refine x.out.mono ?_;rintro e t⟨rfl,l,p⟩;have k1:=qq (z.out t l p);have B:=qq (p.mono (T':=λi=>i=b∨v.ownBlock=some i∨some C=some i) λi e=>.inr (.inr (by rw[e])));replace c10:=k1.out.c10;replace fz:=k1.out.bd.fz;replace I:=k1.out.lt;dsimp only at c10;clear l p c2 c3 c7 c8;go_wp2_with fail;refine(f.out _ _ k1.out B.out).mono ?_;rintro e w'⟨rfl,F⟩;go_wp2;go_ret;rw[r.out];exact⟨by show _=Ending.returned (Value.int .i64 j.bad);rw[H.out];rfl,F⟩
    ·rw[m]at x c;have r:=qq c;clear h d hl o f c E m T N y;go_enter func150,ntmps150;go_wp2_with fail;refine hn.out.mono ?_;rintro e t⟨rfl,rfl⟩;go_wp2_with fail;refine x.out.mono ?_;rintro e t⟨rfl,l,p⟩;have k1:=qq (z.out t l p);have B:=qq (p.mono (T':=λi=>i=b∨v.ownBlock=some i∨some C=some i) λi e=>.inr (.inr (by rw[e])));replace c10:=k1.out.c10;replace fz:=k1.out.bd.fz;replace I:=k1.out.lt;dsimp only at c10;clear l p c2 c3 c7 c8;go_wp2_with fail;refine(dH k1.out 1007).mono ?_;rintro e w'⟨rfl,w⟩;go_wp2;go_ret;have F:=w.1;rw[j7]at F;rw[r.out];exact⟨by rw[j7];rfl,v,F,B.out.trans (w.2.mono λ_ e=>.inl e),λg e=>.inl e⟩
   ·have hz:((j.op:Int)==1)=false:=qk.2 (by omega);rw[if_neg E]at c;have r:=qq c;clear h d hl o c E N y;go_enter func150,ntmps150;go_wp2_with fail;refine hn.out.mono ?_;rintro e t⟨rfl,rfl⟩;go_wp2_with fail;refine(f.out _ _ M.out (Ch.refl _ _)).mono ?_;rintro e w'⟨rfl,F⟩;go_wp2;go_ret;rw[r.out];exact⟨by show _=Ending.returned (Value.int .i64 j.bad);rw[H.out];rfl,F⟩
 ·have r:=qq (show aA j s=j by unfold aA;rw[if_pos h]);have hz:((j.bad:Int) != 0)=true:=bne_iff_ne.2 (by omega);clear h k;go_enter func150,ntmps150;go_wp2_with fail;refine hn.out.mono ?_;rintro e t⟨rfl,rfl⟩;go_wp2;go_ret;rw[r.out];exact⟨rfl,JpPost.of M.out (Ch.refl _ _)⟩
end
def mV (r:Jn×Option (Nat×List UInt8)):Value:=match r.2 with
 | none=>.tuple #[.agg #[.int .i64 (0:Nat),.string ⟨#[]⟩],.bool false,.int .i64 r.1.bad]
 | some m=>.tuple #[.agg #[.int .i64 m.1,.string ⟨m.2.toArray⟩],.bool true,.int .i64 r.1.bad]
theorem BE {j:Jn}(h:iI j):iI (aI j).1:=by
 unfold aI;split
 ·exact h
 ·split
  ·exact fk h (by decide)
  ·split
   ·exact fk h (by decide)
   ·obtain⟨a,f,g,c,k,d,i⟩:=h;split
    ·exact⟨a,f,g,c,λe=>(by cases e),d,i⟩
    ·exact⟨a,qx _,qv _,c,λe=>(by cases e),d,qx _⟩
section
variable {b:Nat} {W:World} {j:Jn} {v:Value} {q:Option Nat}
abbrev mw (W:World):World:=W.alloc (.cells #[.int .i64 0,.string ⟨#[]⟩] 203)
theorem JpPost.tell {W0 d w':World}{l:Jn}{M:Nat}(k:JnS b W j v q)(g:Gr W W0)(hM:W.heap.size=M)(h0:W0.heap.size=M+1)(o:JpPost b l v q W0 d)(f:Ch (λi=>i=M) d w'):JpPost b l v q W w':=by
 obtain⟨p,m,c,a⟩:=o;have n:=k.lt;refine⟨p,m.ch f (by omega) (λi e=>?_) (λi e=>?_),((g.to_ch _).trans c).drop_new f (λi e=>.inr (by rw[e];omega)),λi e=>(a i e).imp_right λh=>by omega⟩
 ·rcases a i e with e2 | e2
  ·have:=k.bd.own_lt e2;omega
  ·omega
 ·have:=(k.ck i e).1.lt;omega
theorem BF (k:JnS b W j v q)(h:j.bad≠0) :
  Calls prog 151 #[.pointer (some ⟨b,0,none⟩)] W λe w'=>e=.returned (mV (aI j))∧JpPost b (aI j).1 v q W w':=by
 have n:=qq (show aI j=(j,none) by unfold aI;rw[if_pos h]);have r:((j.bad:Int) != 0)=true:=bne_iff_ne.2 (by omega);clear h;obtain⟨W0,c⟩:∃W0,mw W=W0:=⟨_,rfl⟩;have g:=qq (show Gr W W0 from c▸Gr.alloc W _);obtain⟨M,hM⟩:∃M,W.heap.size=M:=⟨_,rfl⟩;have h0:=qq (show W0.heap.size=M+1 by rw[←c,←hM];simp);have d:=qq (k.gr g.out);have hn:=qq (bY d.out);have c2:=d.out.c2;have c3:=d.out.c3;have c7:=d.out.c7;have c8:=d.out.c8;have c9:=d.out.c9;have c10:=d.out.c10;have fz:=d.out.bd.fz;have l:=k.lt;have m:b≠M:=by omega
 have m0:W0.cell? ⟨M,0,none⟩=some (.int .i64 0):=by rw[←c,←hM];exact aa _ _ _ 0 _ rfl
 have m1:W0.cell? ⟨M,1,none⟩=some (.string ⟨#[]⟩):=by rw[←c,←hM];exact aa _ _ _ 1 _ rfl
 have mz:∀o,W0.frozen? ⟨M,o,none⟩=false:=λo=>by rw[←c,←hM];exact World.frozen?_alloc_at _ _ _ _ rfl
 have p:=qq k;have f:=qq hM;clear k l;go_enter func151,ntmps151;go_wp2_with fail;refine hn.out.mono ?_;rintro e s⟨rfl,rfl⟩;go_upto_region 4 with(fail);clear c3 c7 c8 c9 c10 fz;go_big_region;go_wp2;refine bodyPost_ret (v:=.tuple #[.agg #[.int .i64 (0:Nat),.string ⟨#[]⟩],.bool false,.int .i64 j.bad]) (by simp[results,results151,go_sem,m0,m1]) rfl ?_;rw[n.out];exact⟨rfl,JpPost.tell p.out g.out f.out h0.out (JpPost.of d.out (Ch.refl _ _)) (((Ch.setCell (T:=λi=>i=M) _ (a:=⟨M,0,none⟩) rfl _).trans (Ch.setCell (T:=λi=>i=M) _ (a:=⟨M,1,none⟩) rfl _)).trans (Ch.drew _ _))⟩
theorem r9 (k:JnS b W j v q)(h:j.bad=0)(s:j.begun=false) :
  Calls prog 151 #[.pointer (some ⟨b,0,none⟩)] W λe w'=>e=.returned (mV (aI j))∧JpPost b (aI j).1 v q W w':=by
 have z:=qq (show aI j=(aF j 1002,none) by unfold aI;rw[if_neg (by omega),s];rfl);obtain⟨W0,c⟩:∃W0,mw W=W0:=⟨_,rfl⟩;have g:=qq (show Gr W W0 from c▸Gr.alloc W _);obtain⟨M,hM⟩:∃M,W.heap.size=M:=⟨_,rfl⟩;have h0:=qq (show W0.heap.size=M+1 by rw[←c,←hM];simp);have d:=qq (k.gr g.out);have hn:=qq (bY d.out);have c2:=d.out.c2;have c3:=d.out.c3;have c7:=d.out.c7;have c8:=d.out.c8;have c9:=d.out.c9;have c10:=d.out.c10;have fz:=d.out.bd.fz;have w:=k.lt;have u:b≠M:=by omega
 have m0:W0.cell? ⟨M,0,none⟩=some (.int .i64 0):=by rw[←c,←hM];exact aa _ _ _ 0 _ rfl
 have m1:W0.cell? ⟨M,1,none⟩=some (.string ⟨#[]⟩):=by rw[←c,←hM];exact aa _ _ _ 1 _ rfl
 have mz:∀o,W0.frozen? ⟨M,o,none⟩=false:=λo=>by rw[←c,←hM];exact World.frozen?_alloc_at _ _ _ _ rfl
 have A:=qq k;have t:=qq hM;clear k w;rw[h]at c2;rw[s]at c8;clear h s;go_enter func151,ntmps151;go_wp2_with fail;refine hn.out.mono ?_;rintro e C⟨rfl,rfl⟩;go_wp2_with fail;refine(dH d.out 1002).mono ?_;rintro e r⟨rfl,m⟩;have f:M<W0.heap.size:=by have:=h0.out;omega
 have l:¬(M=b):=λe=>u e.symm;have x:r.cell? ⟨M,0,none⟩=some (.int .i64 0):=(m.2.cell (p:=⟨M,0,none⟩) f l).trans m0;have d1:r.cell? ⟨M,1,none⟩=some (.string ⟨#[]⟩):=(m.2.cell (p:=⟨M,1,none⟩) f l).trans m1;have B:∀o,r.frozen? ⟨M,o,none⟩=false:=λo=>(m.2.frozen (p:=⟨M,o,none⟩) f l).trans (mz o);have y:M<r.heap.size:=ae x;have n:=qq m;clear m c2 c3 c7 c8 c9 c10 fz m0 m1 mz;go_wp2;refine bodyPost_ret (v:=.tuple #[.agg #[.int .i64 (0:Nat),.string ⟨#[]⟩],.bool false,.int .i64 (aF j 1002).bad]) (by simp[results,results151,go_sem,x,d1]) rfl ?_;rw[z.out];exact⟨rfl,JpPost.tell A.out g.out t.out h0.out (JpPost.of n.out.1 n.out.2) ((Ch.setCell (T:=λi=>i=M) _ (a:=⟨M,0,none⟩) rfl _).trans (Ch.setCell (T:=λi=>i=M) _ (a:=⟨M,1,none⟩) rfl _))⟩
theorem sb (k:JnS b W j v q)(h:j.bad=0)(s:j.begun=true)(hl:0<j.lacks) :
  Calls prog 151 #[.pointer (some ⟨b,0,none⟩)] W λe w'=>e=.returned (mV (aI j))∧JpPost b (aI j).1 v q W w':=by
 have A:=qq (show aI j=(aF j 1002,none) by unfold aI;rw[if_neg (by omega),s,if_pos (by simpa using hl)]);have z:0<j.lacks:=hl;obtain⟨W0,c⟩:∃W0,mw W=W0:=⟨_,rfl⟩;have g:=qq (show Gr W W0 from c▸Gr.alloc W _);obtain⟨M,hM⟩:∃M,W.heap.size=M:=⟨_,rfl⟩;have h0:=qq (show W0.heap.size=M+1 by rw[←c,←hM];simp);have d:=qq (k.gr g.out);have hn:=qq (bY d.out);have c2:=d.out.c2;have c3:=d.out.c3;have c7:=d.out.c7;have c8:=d.out.c8;have c9:=d.out.c9;have c10:=d.out.c10;have fz:=d.out.bd.fz;have w:=k.lt;have u:b≠M:=by omega
 have m0:W0.cell? ⟨M,0,none⟩=some (.int .i64 0):=by rw[←c,←hM];exact aa _ _ _ 0 _ rfl
 have m1:W0.cell? ⟨M,1,none⟩=some (.string ⟨#[]⟩):=by rw[←c,←hM];exact aa _ _ _ 1 _ rfl
 have mz:∀o,W0.frozen? ⟨M,o,none⟩=false:=λo=>by rw[←c,←hM];exact World.frozen?_alloc_at _ _ _ _ rfl
 have B:=qq k;have t:=qq hM;clear k w;rw[h]at c2;rw[s]at c8;clear h s hl;go_enter func151,ntmps151;go_wp2_with fail;refine hn.out.mono ?_;rintro e D⟨rfl,rfl⟩;go_wp2_with fail;refine(dH d.out 1002).mono ?_;rintro e r⟨rfl,m⟩;have f:M<W0.heap.size:=by have:=h0.out;omega
 have l:¬(M=b):=λe=>u e.symm;have x:r.cell? ⟨M,0,none⟩=some (.int .i64 0):=(m.2.cell (p:=⟨M,0,none⟩) f l).trans m0;have d1:r.cell? ⟨M,1,none⟩=some (.string ⟨#[]⟩):=(m.2.cell (p:=⟨M,1,none⟩) f l).trans m1;have C:∀o,r.frozen? ⟨M,o,none⟩=false:=λo=>(m.2.frozen (p:=⟨M,o,none⟩) f l).trans (mz o);have y:M<r.heap.size:=ae x;have n:=qq m;clear m c2 c3 c7 c8 c9 c10 fz m0 m1 mz;go_wp2;refine bodyPost_ret (v:=.tuple #[.agg #[.int .i64 (0:Nat),.string ⟨#[]⟩],.bool false,.int .i64 (aF j 1002).bad]) (by simp[results,results151,go_sem,x,d1]) rfl ?_;rw[A.out];exact⟨rfl,JpPost.tell B.out g.out t.out h0.out (JpPost.of n.out.1 n.out.2) ((Ch.setCell (T:=λi=>i=M) _ (a:=⟨M,0,none⟩) rfl _).trans (Ch.setCell (T:=λi=>i=M) _ (a:=⟨M,1,none⟩) rfl _))⟩
theorem yH (k:JnS b W j v q)(h:j.bad=0)(m:j.begun=true)(hl:j.lacks=0)(f:j.last=false) :
  Calls prog 151 #[.pointer (some ⟨b,0,none⟩)] W λe w'=>e=.returned (mV (aI j))∧JpPost b (aI j).1 v q W w':=by
 have t:=qq (show aI j=({ j with begun:=false },none) by unfold aI;rw[if_neg (by omega),m,hl,f];rfl);obtain⟨W0,c⟩:∃W0,mw W=W0:=⟨_,rfl⟩;have g:=qq (show Gr W W0 from c▸Gr.alloc W _);obtain⟨M,hM⟩:∃M,W.heap.size=M:=⟨_,rfl⟩;have h0:=qq (show W0.heap.size=M+1 by rw[←c,←hM];simp);have d:=qq (k.gr g.out);have hn:=qq (bY d.out);have c2:=d.out.c2;have c3:=d.out.c3;have c7:=d.out.c7;have c8:=d.out.c8;have c9:=d.out.c9;have c10:=d.out.c10;have fz:=d.out.bd.fz;have r:=k.lt;have l:b≠M:=by omega
 have m0:W0.cell? ⟨M,0,none⟩=some (.int .i64 0):=by rw[←c,←hM];exact aa _ _ _ 0 _ rfl
 have m1:W0.cell? ⟨M,1,none⟩=some (.string ⟨#[]⟩):=by rw[←c,←hM];exact aa _ _ _ 1 _ rfl
 have mz:∀o,W0.frozen? ⟨M,o,none⟩=false:=λo=>by rw[←c,←hM];exact World.frozen?_alloc_at _ _ _ _ rfl
 have u:=qq k;have n:=qq hM;clear k r;rw[h]at c2;rw[m]at c8;rw[hl]at c10;rw[f]at c9;have p:=qq h;have s:=d.out.lt;clear h m hl f;go_enter func151,ntmps151;go_wp2_with fail;refine hn.out.mono ?_;rintro e w⟨rfl,rfl⟩;go_wp2;refine bodyPost_ret (v:=.tuple #[.agg #[.int .i64 (0:Nat),.string ⟨#[]⟩],.bool false,.int .i64 j.bad]) (by rw[p.out];simp[results,results151,go_sem,m0,m1,l,Ne.symm l]) rfl ?_;rw[t.out];exact⟨rfl,JpPost.tell u.out g.out n.out h0.out (JpPost.of (d.out.setBegun false) (Ch.setCell (T:=λi=>i=b) _ (a:=⟨b,8,none⟩) rfl _)) ((Ch.setCell (T:=λi=>i=M) _ (a:=⟨M,0,none⟩) rfl _).trans (Ch.setCell (T:=λi=>i=M) _ (a:=⟨M,1,none⟩) rfl _))⟩
theorem yI (k:JnS b W j v q)(h:j.bad=0)(u:j.begun=true)(hl:j.lacks=0)(m:j.last=true)(z:j.op=1)(f:jm j.check=false)(E:q=none→j.op=0) :
  Calls prog 151 #[.pointer (some ⟨b,0,none⟩)] W λe w'=>e=.returned (mV (aI j))∧JpPost b (aI j).1 v q W w':=by
 have I:=qq (show aI j=(aF j 1007,none) by unfold aI;rw[if_neg (by omega),u,hl,m,z,f];rfl);have A:∃C,q=some C:=by cases B:q with
  | none=>have:=E B;omega
  | some C=>exact⟨C,rfl⟩
 obtain⟨C,rfl⟩:=A;obtain⟨W0,c⟩:∃W0,mw W=W0:=⟨_,rfl⟩;have g:=qq (show Gr W W0 from c▸Gr.alloc W _);obtain⟨M,hM⟩:∃M,W.heap.size=M:=⟨_,rfl⟩;have h0:=qq (show W0.heap.size=M+1 by rw[←c,←hM];simp);have d:=qq (k.gr g.out);have hn:=qq (bY d.out);have c2:=d.out.c2;have c3:=d.out.c3;have c7:=d.out.c7;have c8:=d.out.c8;have c9:=d.out.c9;have c10:=d.out.c10;have fz:=d.out.bd.fz;have y:=k.lt;have x:b≠M:=by omega
 have m0:W0.cell? ⟨M,0,none⟩=some (.int .i64 0):=by rw[←c,←hM];exact aa _ _ _ 0 _ rfl
 have m1:W0.cell? ⟨M,1,none⟩=some (.string ⟨#[]⟩):=by rw[←c,←hM];exact aa _ _ _ 1 _ rfl
 have mz:∀o,W0.frozen? ⟨M,o,none⟩=false:=λo=>by rw[←c,←hM];exact World.frozen?_alloc_at _ _ _ _ rfl
 have J:=qq k;have w:=qq hM;clear k y;rw[h]at c2;rw[z]at c3;rw[u]at c8;rw[hl]at c10;rw[m]at c9;have s:=qq (ot (d.out.ck C rfl).1);rw[f]at s;have H:=d.out.lt;clear h u hl m z f E;go_enter func151,ntmps151;go_wp2_with fail;refine hn.out.mono ?_;rintro e L⟨rfl,rfl⟩;go_wp2_with fail;refine s.out.mono ?_;rintro e L⟨rfl,rfl⟩;go_wp2_with fail;refine(dH d.out 1007).mono ?_;rintro e t⟨rfl,f⟩;have l:M<W0.heap.size:=by have:=h0.out;omega
 have n:¬(M=b):=λe=>x e.symm;have D:t.cell? ⟨M,0,none⟩=some (.int .i64 0):=(f.2.cell (p:=⟨M,0,none⟩) l n).trans m0;have d1:t.cell? ⟨M,1,none⟩=some (.string ⟨#[]⟩):=(f.2.cell (p:=⟨M,1,none⟩) l n).trans m1;have N:∀o,t.frozen? ⟨M,o,none⟩=false:=λo=>(f.2.frozen (p:=⟨M,o,none⟩) l n).trans (mz o);have F:M<t.heap.size:=ae D;have r:=qq f;clear f c2 c3 c7 c8 c9 c10 fz m0 m1 mz;go_wp2;refine bodyPost_ret (v:=.tuple #[.agg #[.int .i64 (0:Nat),.string ⟨#[]⟩],.bool false,.int .i64 (aF j 1007).bad]) (by simp[results,results151,go_sem,D,d1]) rfl ?_;rw[I.out];exact⟨rfl,JpPost.tell J.out g.out w.out h0.out (JpPost.of r.out.1 r.out.2) ((Ch.setCell (T:=λi=>i=M) _ (a:=⟨M,0,none⟩) rfl _).trans (Ch.setCell (T:=λi=>i=M) _ (a:=⟨M,1,none⟩) rfl _))⟩
end
