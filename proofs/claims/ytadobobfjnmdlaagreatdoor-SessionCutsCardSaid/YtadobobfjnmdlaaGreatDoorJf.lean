/-
  The joiner in memory: a frame ends.
-/
import Derived.Test.YtadobobfjnmdlaaGreatDoorJb
set_option linter.unnecessarySimpa false
set_option linter.unusedVariables false
set_option linter.unusedSimpArgs false
set_option maxHeartbeats 16000000
set_option maxRecDepth 100000
open Go.Lib (hid)
open Go.Proofs.Tryz
namespace Go.Proofs.YtadobobfjnmdlaaGreatDoor
open Go.RowKit Go.Shelf
attribute [local go_sem] Oper.semAt_some
def endV (r:Jn×Option (Nat×List UInt8)):Value:=match r.2 with
 | none=>.tuple #[.agg #[.int .i64 (0:Nat),.string ⟨#[]⟩],.bool false,.int .i64 r.1.bad]
 | some m=>.tuple #[.agg #[.int .i64 m.1,.string ⟨m.2.toArray⟩],.bool true,.int .i64 r.1.bad]
theorem jnEnd_ok {j:Jn} (h:JnOk j):JnOk (jnEnd j).1:=by
 unfold jnEnd
 split
 ·exact h
 ·split
  ·exact jnFail_ok h (by decide)
  ·split
   ·exact jnFail_ok h (by decide)
   ·obtain⟨h1,h2,h3,h4,h5,h6,h7⟩:=h
    split
    ·exact⟨h1,h2,h3,h4,λe=>(by cases e),h6,h7⟩
    ·exact⟨h1,Nat.zero_le _,Nat.le_refl _,h4,λe=>(by cases e),h6,Nat.zero_le _⟩
section
variable {b:Nat} {W:World} {j:Jn} {v:Value} {q:Option Nat}
abbrev mw (W:World):World:=W.alloc (.cells #[.int .i64 0,.string ⟨#[]⟩] 203)
theorem JpPost.tell {W0 W1 w':World} {j':Jn} {M:Nat} (k:JnS b W j v q) (g:Gr W W0) (hM:W.heap.size=M) (h0:W0.heap.size=M+1) (hp:JpPost b j' v q W0 W1) (hc:Ch (λi=>i=M) W1 w'):JpPost b j' v q W w':=by
 obtain⟨v',hk,hc1,hv'⟩:=hp
 have hlt:=k.lt
 refine⟨v',hk.ch hc (by omega) (λi e=>?_) (λi e=>?_),((g.to_ch _).trans hc1).drop_new hc (λi e=>.inr (by rw[e];omega)),λi e=>(hv' i e).imp_right λh=>by omega⟩
 ·rcases hv' i e with e2 | e2
  ·have:=k.bd.own_lt e2;omega
  ·omega
 ·have:=(k.ck i e).1.lt;omega
theorem jend_bad (k:JnS b W j v q) (h:j.bad≠0) :
  Calls prog 151 #[.pointer (some ⟨b,0,none⟩)] W λe w'=>e=.returned (endV (jnEnd j))∧JpPost b (jnEnd j).1 v q W w':=by
 have hv:=hid (show jnEnd j=(j,none) by unfold jnEnd;rw[if_pos h])
 have hz:((j.bad:Int) != 0)=true:=bne_iff_ne.2 (by omega)
 clear h
 obtain⟨W0,hW0⟩:∃ W0,mw W=W0:=⟨_,rfl⟩
 have g:=hid (show Gr W W0 from hW0▸Gr.alloc W _)
 obtain⟨M,hM⟩:∃ M,W.heap.size=M:=⟨_,rfl⟩
 have h0:=hid (show W0.heap.size=M+1 by rw[←hW0,←hM];simp)
 have kd:=hid (k.gr g.out)
 have hn:=hid (jnone_any kd.out)
 have c2:=kd.out.c2
 have c3:=kd.out.c3
 have c7:=kd.out.c7
 have c8:=kd.out.c8
 have c9:=kd.out.c9
 have c10:=kd.out.c10
 have fz:=kd.out.bd.fz
 have hlt:=k.lt
 have hMb:b≠M:=by omega
 have m0:W0.cell? ⟨M,0,none⟩=some (.int .i64 0):=by rw[←hW0,←hM];exact cell_new7 _ _ _ 0 _ rfl
 have m1:W0.cell? ⟨M,1,none⟩=some (.string ⟨#[]⟩):=by rw[←hW0,←hM];exact cell_new7 _ _ _ 1 _ rfl
 have mz:∀ o,W0.frozen? ⟨M,o,none⟩=false:=λo=>by rw[←hW0,←hM];exact World.frozen?_alloc_at _ _ _ _ rfl
 have k':=hid k
 have hM':=hid hM
 clear k hlt
 go_enter func151,ntmps151
 go_wp2_with fail
 refine hn.out.mono ?_
 rintro e w1⟨rfl,rfl⟩
 go_upto_region 4 with (fail)
 clear c3 c7 c8 c9 c10 fz
 go_big_region
 go_wp2
 refine bodyPost_ret (v:=.tuple #[.agg #[.int .i64 (0:Nat),.string ⟨#[]⟩],.bool false,.int .i64 j.bad]) (by simp[results,results151,go_sem,m0,m1]) rfl ?_
 rw[hv.out]
 exact⟨rfl,JpPost.tell k'.out g.out hM'.out h0.out (JpPost.of kd.out (Ch.refl _ _)) (((Ch.setCell (T:=λi=>i=M) _ (a:=⟨M,0,none⟩) rfl _).trans (Ch.setCell (T:=λi=>i=M) _ (a:=⟨M,1,none⟩) rfl _)).trans (Ch.drew _ _))⟩
theorem jend_wrong1 (k:JnS b W j v q) (h:j.bad=0) (hA:j.begun=false) :
  Calls prog 151 #[.pointer (some ⟨b,0,none⟩)] W λe w'=>e=.returned (endV (jnEnd j))∧JpPost b (jnEnd j).1 v q W w':=by
 have hv:=hid (show jnEnd j=(jnFail j 1002,none) by unfold jnEnd;rw[if_neg (by omega),hA];rfl)
 obtain⟨W0,hW0⟩:∃ W0,mw W=W0:=⟨_,rfl⟩
 have g:=hid (show Gr W W0 from hW0▸Gr.alloc W _)
 obtain⟨M,hM⟩:∃ M,W.heap.size=M:=⟨_,rfl⟩
 have h0:=hid (show W0.heap.size=M+1 by rw[←hW0,←hM];simp)
 have kd:=hid (k.gr g.out)
 have hn:=hid (jnone_any kd.out)
 have c2:=kd.out.c2
 have c3:=kd.out.c3
 have c7:=kd.out.c7
 have c8:=kd.out.c8
 have c9:=kd.out.c9
 have c10:=kd.out.c10
 have fz:=kd.out.bd.fz
 have hlt:=k.lt
 have hMb:b≠M:=by omega
 have m0:W0.cell? ⟨M,0,none⟩=some (.int .i64 0):=by rw[←hW0,←hM];exact cell_new7 _ _ _ 0 _ rfl
 have m1:W0.cell? ⟨M,1,none⟩=some (.string ⟨#[]⟩):=by rw[←hW0,←hM];exact cell_new7 _ _ _ 1 _ rfl
 have mz:∀ o,W0.frozen? ⟨M,o,none⟩=false:=λo=>by rw[←hW0,←hM];exact World.frozen?_alloc_at _ _ _ _ rfl
 have k':=hid k
 have hM':=hid hM
 clear k hlt
 rw[h] at c2
 rw[hA] at c8
 clear h hA
 go_enter func151,ntmps151
 go_wp2_with fail
 refine hn.out.mono ?_
 rintro e w1⟨rfl,rfl⟩
 go_wp2_with fail
 refine (jfails_any kd.out 1002).mono ?_
 rintro e w2⟨rfl,hw⟩
 have hlM:M<W0.heap.size:=by have:=h0.out;omega
 have hnM:¬(M=b):=λe=>hMb e.symm
 have d0:w2.cell? ⟨M,0,none⟩=some (.int .i64 0):=(hw.2.cell (p:=⟨M,0,none⟩) hlM hnM).trans m0
 have d1:w2.cell? ⟨M,1,none⟩=some (.string ⟨#[]⟩):=(hw.2.cell (p:=⟨M,1,none⟩) hlM hnM).trans m1
 have dz:∀ o,w2.frozen? ⟨M,o,none⟩=false:=λo=>(hw.2.frozen (p:=⟨M,o,none⟩) hlM hnM).trans (mz o)
 have hM2:M<w2.heap.size:=cell_lt d0
 have hw':=hid hw
 clear hw c2 c3 c7 c8 c9 c10 fz m0 m1 mz
 go_wp2
 refine bodyPost_ret (v:=.tuple #[.agg #[.int .i64 (0:Nat),.string ⟨#[]⟩],.bool false,.int .i64 (jnFail j 1002).bad]) (by simp[results,results151,go_sem,d0,d1]) rfl ?_
 rw[hv.out]
 exact⟨rfl,JpPost.tell k'.out g.out hM'.out h0.out (JpPost.of hw'.out.1 hw'.out.2) ((Ch.setCell (T:=λi=>i=M) _ (a:=⟨M,0,none⟩) rfl _).trans (Ch.setCell (T:=λi=>i=M) _ (a:=⟨M,1,none⟩) rfl _))⟩
theorem jend_wrong2 (k:JnS b W j v q) (h:j.bad=0) (hA:j.begun=true) (hl:0<j.lacks) :
  Calls prog 151 #[.pointer (some ⟨b,0,none⟩)] W λe w'=>e=.returned (endV (jnEnd j))∧JpPost b (jnEnd j).1 v q W w':=by
 have hv:=hid (show jnEnd j=(jnFail j 1002,none) by unfold jnEnd;rw[if_neg (by omega),hA,if_pos (by simpa using hl)])
 have hgt:0<j.lacks:=hl
 obtain⟨W0,hW0⟩:∃ W0,mw W=W0:=⟨_,rfl⟩
 have g:=hid (show Gr W W0 from hW0▸Gr.alloc W _)
 obtain⟨M,hM⟩:∃ M,W.heap.size=M:=⟨_,rfl⟩
 have h0:=hid (show W0.heap.size=M+1 by rw[←hW0,←hM];simp)
 have kd:=hid (k.gr g.out)
 have hn:=hid (jnone_any kd.out)
 have c2:=kd.out.c2
 have c3:=kd.out.c3
 have c7:=kd.out.c7
 have c8:=kd.out.c8
 have c9:=kd.out.c9
 have c10:=kd.out.c10
 have fz:=kd.out.bd.fz
 have hlt:=k.lt
 have hMb:b≠M:=by omega
 have m0:W0.cell? ⟨M,0,none⟩=some (.int .i64 0):=by rw[←hW0,←hM];exact cell_new7 _ _ _ 0 _ rfl
 have m1:W0.cell? ⟨M,1,none⟩=some (.string ⟨#[]⟩):=by rw[←hW0,←hM];exact cell_new7 _ _ _ 1 _ rfl
 have mz:∀ o,W0.frozen? ⟨M,o,none⟩=false:=λo=>by rw[←hW0,←hM];exact World.frozen?_alloc_at _ _ _ _ rfl
 have k':=hid k
 have hM':=hid hM
 clear k hlt
 rw[h] at c2
 rw[hA] at c8
 clear h hA hl
 go_enter func151,ntmps151
 go_wp2_with fail
 refine hn.out.mono ?_
 rintro e w1⟨rfl,rfl⟩
 go_wp2_with fail
 refine (jfails_any kd.out 1002).mono ?_
 rintro e w2⟨rfl,hw⟩
 have hlM:M<W0.heap.size:=by have:=h0.out;omega
 have hnM:¬(M=b):=λe=>hMb e.symm
 have d0:w2.cell? ⟨M,0,none⟩=some (.int .i64 0):=(hw.2.cell (p:=⟨M,0,none⟩) hlM hnM).trans m0
 have d1:w2.cell? ⟨M,1,none⟩=some (.string ⟨#[]⟩):=(hw.2.cell (p:=⟨M,1,none⟩) hlM hnM).trans m1
 have dz:∀ o,w2.frozen? ⟨M,o,none⟩=false:=λo=>(hw.2.frozen (p:=⟨M,o,none⟩) hlM hnM).trans (mz o)
 have hM2:M<w2.heap.size:=cell_lt d0
 have hw':=hid hw
 clear hw c2 c3 c7 c8 c9 c10 fz m0 m1 mz
 go_wp2
 refine bodyPost_ret (v:=.tuple #[.agg #[.int .i64 (0:Nat),.string ⟨#[]⟩],.bool false,.int .i64 (jnFail j 1002).bad]) (by simp[results,results151,go_sem,d0,d1]) rfl ?_
 rw[hv.out]
 exact⟨rfl,JpPost.tell k'.out g.out hM'.out h0.out (JpPost.of hw'.out.1 hw'.out.2) ((Ch.setCell (T:=λi=>i=M) _ (a:=⟨M,0,none⟩) rfl _).trans (Ch.setCell (T:=λi=>i=M) _ (a:=⟨M,1,none⟩) rfl _))⟩
theorem jend_more (k:JnS b W j v q) (h:j.bad=0) (hA:j.begun=true) (hl:j.lacks=0) (hla:j.last=false) :
  Calls prog 151 #[.pointer (some ⟨b,0,none⟩)] W λe w'=>e=.returned (endV (jnEnd j))∧JpPost b (jnEnd j).1 v q W w':=by
 have hv:=hid (show jnEnd j=({ j with begun:=false },none) by unfold jnEnd;rw[if_neg (by omega),hA,hl,hla];rfl)
 obtain⟨W0,hW0⟩:∃ W0,mw W=W0:=⟨_,rfl⟩
 have g:=hid (show Gr W W0 from hW0▸Gr.alloc W _)
 obtain⟨M,hM⟩:∃ M,W.heap.size=M:=⟨_,rfl⟩
 have h0:=hid (show W0.heap.size=M+1 by rw[←hW0,←hM];simp)
 have kd:=hid (k.gr g.out)
 have hn:=hid (jnone_any kd.out)
 have c2:=kd.out.c2
 have c3:=kd.out.c3
 have c7:=kd.out.c7
 have c8:=kd.out.c8
 have c9:=kd.out.c9
 have c10:=kd.out.c10
 have fz:=kd.out.bd.fz
 have hlt:=k.lt
 have hMb:b≠M:=by omega
 have m0:W0.cell? ⟨M,0,none⟩=some (.int .i64 0):=by rw[←hW0,←hM];exact cell_new7 _ _ _ 0 _ rfl
 have m1:W0.cell? ⟨M,1,none⟩=some (.string ⟨#[]⟩):=by rw[←hW0,←hM];exact cell_new7 _ _ _ 1 _ rfl
 have mz:∀ o,W0.frozen? ⟨M,o,none⟩=false:=λo=>by rw[←hW0,←hM];exact World.frozen?_alloc_at _ _ _ _ rfl
 have k':=hid k
 have hM':=hid hM
 clear k hlt
 rw[h] at c2
 rw[hA] at c8
 rw[hl] at c10
 rw[hla] at c9
 have hb0:=hid h
 have hbs:=kd.out.lt
 clear h hA hl hla
 go_enter func151,ntmps151
 go_wp2_with fail
 refine hn.out.mono ?_
 rintro e w1⟨rfl,rfl⟩
 go_wp2
 refine bodyPost_ret (v:=.tuple #[.agg #[.int .i64 (0:Nat),.string ⟨#[]⟩],.bool false,.int .i64 j.bad]) (by rw[hb0.out];simp[results,results151,go_sem,m0,m1,hMb,Ne.symm hMb]) rfl ?_
 rw[hv.out]
 exact⟨rfl,JpPost.tell k'.out g.out hM'.out h0.out (JpPost.of (kd.out.setBegun false) (Ch.setCell (T:=λi=>i=b) _ (a:=⟨b,8,none⟩) rfl _)) ((Ch.setCell (T:=λi=>i=M) _ (a:=⟨M,0,none⟩) rfl _).trans (Ch.setCell (T:=λi=>i=M) _ (a:=⟨M,1,none⟩) rfl _))⟩
theorem jend_text (k:JnS b W j v q) (h:j.bad=0) (hA:j.begun=true) (hl:j.lacks=0) (hla:j.last=true) (ho:j.op=1) (hw:wholeU j.check=false) (hq:q=none→j.op=0) :
  Calls prog 151 #[.pointer (some ⟨b,0,none⟩)] W λe w'=>e=.returned (endV (jnEnd j))∧JpPost b (jnEnd j).1 v q W w':=by
 have hv:=hid (show jnEnd j=(jnFail j 1007,none) by unfold jnEnd;rw[if_neg (by omega),hA,hl,hla,ho,hw];rfl)
 have hq2:∃ C,q=some C:=by cases hqq:q with
  | none=>have:=hq hqq;omega
  | some C=>exact⟨C,rfl⟩
 obtain⟨C,rfl⟩:=hq2
 obtain⟨W0,hW0⟩:∃ W0,mw W=W0:=⟨_,rfl⟩
 have g:=hid (show Gr W W0 from hW0▸Gr.alloc W _)
 obtain⟨M,hM⟩:∃ M,W.heap.size=M:=⟨_,rfl⟩
 have h0:=hid (show W0.heap.size=M+1 by rw[←hW0,←hM];simp)
 have kd:=hid (k.gr g.out)
 have hn:=hid (jnone_any kd.out)
 have c2:=kd.out.c2
 have c3:=kd.out.c3
 have c7:=kd.out.c7
 have c8:=kd.out.c8
 have c9:=kd.out.c9
 have c10:=kd.out.c10
 have fz:=kd.out.bd.fz
 have hlt:=k.lt
 have hMb:b≠M:=by omega
 have m0:W0.cell? ⟨M,0,none⟩=some (.int .i64 0):=by rw[←hW0,←hM];exact cell_new7 _ _ _ 0 _ rfl
 have m1:W0.cell? ⟨M,1,none⟩=some (.string ⟨#[]⟩):=by rw[←hW0,←hM];exact cell_new7 _ _ _ 1 _ rfl
 have mz:∀ o,W0.frozen? ⟨M,o,none⟩=false:=λo=>by rw[←hW0,←hM];exact World.frozen?_alloc_at _ _ _ _ rfl
 have k':=hid k
 have hM':=hid hM
 clear k hlt
 rw[h] at c2
 rw[ho] at c3
 rw[hA] at c8
 rw[hl] at c10
 rw[hla] at c9
 have hwh:=hid (uwhole_any (kd.out.ck C rfl).1)
 rw[hw] at hwh
 have hbs:=kd.out.lt
 clear h hA hl hla ho hw hq
 go_enter func151,ntmps151
 go_wp2_with fail
 refine hn.out.mono ?_
 rintro e w1⟨rfl,rfl⟩
 go_wp2_with fail
 refine hwh.out.mono ?_
 rintro e w1⟨rfl,rfl⟩
 go_wp2_with fail
 refine (jfails_any kd.out 1007).mono ?_
 rintro e w2⟨rfl,hw⟩
 have hlM:M<W0.heap.size:=by have:=h0.out;omega
 have hnM:¬(M=b):=λe=>hMb e.symm
 have d0:w2.cell? ⟨M,0,none⟩=some (.int .i64 0):=(hw.2.cell (p:=⟨M,0,none⟩) hlM hnM).trans m0
 have d1:w2.cell? ⟨M,1,none⟩=some (.string ⟨#[]⟩):=(hw.2.cell (p:=⟨M,1,none⟩) hlM hnM).trans m1
 have dz:∀ o,w2.frozen? ⟨M,o,none⟩=false:=λo=>(hw.2.frozen (p:=⟨M,o,none⟩) hlM hnM).trans (mz o)
 have hM2:M<w2.heap.size:=cell_lt d0
 have hw':=hid hw
 clear hw c2 c3 c7 c8 c9 c10 fz m0 m1 mz
 go_wp2
 refine bodyPost_ret (v:=.tuple #[.agg #[.int .i64 (0:Nat),.string ⟨#[]⟩],.bool false,.int .i64 (jnFail j 1007).bad]) (by simp[results,results151,go_sem,d0,d1]) rfl ?_
 rw[hv.out]
 exact⟨rfl,JpPost.tell k'.out g.out hM'.out h0.out (JpPost.of hw'.out.1 hw'.out.2) ((Ch.setCell (T:=λi=>i=M) _ (a:=⟨M,0,none⟩) rfl _).trans (Ch.setCell (T:=λi=>i=M) _ (a:=⟨M,1,none⟩) rfl _))⟩
end
structure JnW (b:Nat) (W:World) (j:Jn) (v:Value) (q:Option Nat):Prop where
 c0:W.cell? ⟨b,0,none⟩=some (.int .i64 j.limit)
 c1:W.cell? ⟨b,1,none⟩=some (.bool true)
 c2:W.cell? ⟨b,2,none⟩=some (.int .i64 j.bad)
 c3:W.cell? ⟨b,3,none⟩=some (.int .i64 j.op)
 c4:W.cell? ⟨b,4,none⟩=some (.int .i64 j.sum)
 c5:∃ u,W.cell? ⟨b,5,none⟩=some u
 c6:W.cell? ⟨b,6,none⟩=some v
 c7:W.cell? ⟨b,7,none⟩=some (.pointer (q.map λc=>⟨c,0,none⟩))
 ck:∀ c,q=some c→UkAt c W j.check∧c≠b
 c8:W.cell? ⟨b,8,none⟩=some (.bool j.begun)
 c9:W.cell? ⟨b,9,none⟩=some (.bool j.last)
 c10:W.cell? ⟨b,10,none⟩=some (.int .i64 j.lacks)
 sh:W.shape? b=some (150,11)
 fz:∀ o,W.frozen? ⟨b,o,none⟩=false
section
variable {b:Nat} {W:World} {j:Jn} {v:Value} {q:Option Nat}
theorem JnS.weak {T:Nat→Prop} {W':World} (k:JnS b W j v q) (hc:Ch T W W') (hT:¬T b) (hq:∀ i,q=some i→¬T i):JnW b W' j v q :=
 have cc:∀ {i u},W.cell? ⟨b,i,none⟩=some u→W'.cell? ⟨b,i,none⟩=some u:=fun {i u} hh=>(hc.cell (p:=⟨b,i,none⟩) (cell_lt hh) hT).trans hh
 ⟨cc k.c0,cc k.c1,cc k.c2,cc k.c3,cc k.c4,k.bd.ca.elim (λe=>⟨_,cc e⟩) (λe=>⟨_,cc e⟩),cc k.bd.cv,cc k.c7,λc e=>⟨(k.ck c e).1.ch hc (hq c e),(k.ck c e).2.1⟩,cc k.c8,cc k.c9,cc k.c10,(shape_ch hc hT k.lt).trans k.bd.sh,λo=>(hc.frozen (p:=⟨b,o,none⟩) k.lt hT).trans (k.bd.fz o)⟩
theorem JnW.done (k:JnW b W j v q):JnS b ((((W.setCell ⟨b,3,none⟩ (.int .i64 (0:Nat))).setCell ⟨b,4,none⟩ (.int .i64 (0:Nat))).setCell ⟨b,5,none⟩ (.pointer none)).setCell ⟨b,6,none⟩ (.slice none 0 0)) { j with op:=0,sum:=0,text:=[] } (.slice none 0 0) q:=by
 obtain⟨u,hu⟩:=k.c5
 have hc:Ch (λi=>i=b) W ((((W.setCell ⟨b,3,none⟩ (.int .i64 (0:Nat))).setCell ⟨b,4,none⟩ (.int .i64 (0:Nat))).setCell ⟨b,5,none⟩ (.pointer none)).setCell ⟨b,6,none⟩ (.slice none 0 0)) :=
  (((Ch.setCell (T:=λi=>i=b) W (a:=⟨b,3,none⟩) rfl _).trans (Ch.setCell (T:=λi=>i=b) _ (a:=⟨b,4,none⟩) rfl _)).trans (Ch.setCell (T:=λi=>i=b) _ (a:=⟨b,5,none⟩) rfl _)).trans (Ch.setCell (T:=λi=>i=b) _ (a:=⟨b,6,none⟩) rfl _)
 have off:∀ {i x},i≠3→i≠4→i≠5→i≠6→W.cell? ⟨b,i,none⟩=some x→((((W.setCell ⟨b,3,none⟩ (.int .i64 (0:Nat))).setCell ⟨b,4,none⟩ (.int .i64 (0:Nat))).setCell ⟨b,5,none⟩ (.pointer none)).setCell ⟨b,6,none⟩ (.slice none 0 0)).cell? ⟨b,i,none⟩=some x :=
  fun {i x} h3 h4 h5 h6 h=>cell_off (cell_off (cell_off (cell_off h h3) h4) h5) h6
 exact⟨off (by decide) (by decide) (by decide) (by decide) k.c0,off (by decide) (by decide) (by decide) (by decide) k.c1,off (by decide) (by decide) (by decide) (by decide) k.c2,
  cell_off (cell_off (cell_off (cell_set_same k.c3) (by decide)) (by decide)) (by decide),cell_off (cell_off (cell_set_same (cell_off k.c4 (by decide))) (by decide)) (by decide),
  ⟨.inl (cell_off (cell_set_same (cell_off (cell_off hu (by decide)) (by decide))) (by decide)),cell_set_same (cell_off (cell_off (cell_off k.c6 (by decide)) (by decide)) (by decide)),⟨rfl,.inl ⟨rfl,rfl⟩⟩,(by intro e;cases e),(by intro a n c e;cases e),shape_set.trans (shape_set.trans (shape_set.trans (shape_set.trans k.sh))),λo=>by rw[frozen_set,frozen_set,frozen_set,frozen_set];exact k.fz o⟩,
  off (by decide) (by decide) (by decide) (by decide) k.c7,λc e=>⟨(k.ck c e).1.ch hc (k.ck c e).2,(k.ck c e).2,(by intro e;cases e)⟩,off (by decide) (by decide) (by decide) (by decide) k.c8,off (by decide) (by decide) (by decide) (by decide) k.c9,off (by decide) (by decide) (by decide) (by decide) k.c10⟩
theorem jend_whole2 (k:JnS b W j v q) (h:j.bad=0) (hA:j.begun=true) (hl:j.lacks=0) (hla:j.last=true) (ho:j.op≠1) :
  Calls prog 151 #[.pointer (some ⟨b,0,none⟩)] W λe w'=>e=.returned (endV (jnEnd j))∧JpPost b (jnEnd j).1 v q W w':=by
 have hv:=hid (show jnEnd j=({ j with begun:=false,op:=0,sum:=0,text:=[] },some (j.op,j.text)) by unfold jnEnd;rw[if_neg (by omega),hA,hl,hla];rw[show (j.op==1)=false from beq_eq_false_iff_ne.2 ho];rfl)
 have hz:((j.op:Int)==1)=false:=beq_eq_false_iff_ne.2 (by omega)
 obtain⟨W0,hW0⟩:∃ W0,mw W=W0:=⟨_,rfl⟩
 have g:=hid (show Gr W W0 from hW0▸Gr.alloc W _)
 obtain⟨M,hM⟩:∃ M,W.heap.size=M:=⟨_,rfl⟩
 have h0:=hid (show W0.heap.size=M+1 by rw[←hW0,←hM];simp)
 have kd:=hid (k.gr g.out)
 have hn:=hid (jnone_any kd.out)
 have c2:=kd.out.c2
 have c3:=kd.out.c3
 have c7:=kd.out.c7
 have c8:=kd.out.c8
 have c9:=kd.out.c9
 have c10:=kd.out.c10
 have fz:=kd.out.bd.fz
 have hlt:=k.lt
 have hMb:b≠M:=by omega
 have m0:W0.cell? ⟨M,0,none⟩=some (.int .i64 0):=by rw[←hW0,←hM];exact cell_new7 _ _ _ 0 _ rfl
 have m1:W0.cell? ⟨M,1,none⟩=some (.string ⟨#[]⟩):=by rw[←hW0,←hM];exact cell_new7 _ _ _ 1 _ rfl
 have mz:∀ o,W0.frozen? ⟨M,o,none⟩=false:=λo=>by rw[←hW0,←hM];exact World.frozen?_alloc_at _ _ _ _ rfl
 have k':=hid k
 have hM':=hid hM
 clear k hlt
 rw[h] at c2
 rw[hA] at c8
 rw[hl] at c10
 rw[hla] at c9
 have hb0:=hid h
 have hbs:=kd.out.lt
 clear ho
 clear h hA hl hla
 go_enter func151,ntmps151
 go_wp2_with fail
 refine hn.out.mono ?_
 rintro e w1⟨rfl,rfl⟩
 go_upto_region 12 with (fail)
 obtain⟨W1,hW1⟩:∃ W1,W0.setCell ⟨b,8,none⟩ (.bool false)=W1:=⟨_,rfl⟩
 rw[hW1]
 have kb:=hid (show JnS b W1 { j with begun:=false } v q from hW1▸kd.out.setBegun false)
 have cb:=hid (show Ch (λi=>i=b) W0 W1 from hW1▸Ch.setCell (T:=λi=>i=b) W0 (a:=⟨b,8,none⟩) rfl _)
 have hlM:M<W0.heap.size:=by have:=h0.out;omega
 have hnM:¬(M=b):=λe=>hMb e.symm
 replace m0:=(cb.out.cell (p:=⟨M,0,none⟩) hlM hnM).trans m0
 replace m1:=(cb.out.cell (p:=⟨M,1,none⟩) hlM hnM).trans m1
 have n0:=(cb.out.frozen (p:=⟨M,0,none⟩) hlM hnM).trans (mz 0)
 have n1:=(cb.out.frozen (p:=⟨M,1,none⟩) hlM hnM).trans (mz 1)
 clear c2 c3 c7 c8 c9 c10 fz mz hlM hW1
 have c3:W1.cell? ⟨b,3,none⟩=some (.int .i64 j.op):=kb.out.c3
 have hMs:M<W1.heap.size:=cell_lt m0
 have hvM:¬(v.ownBlock=some M):=λe=>by have:=k'.out.bd.own_lt e;have:=hM'.out;omega
 have hvb:¬(v.ownBlock=some b):=kb.out.bd.ne
 have hst:=hid (show ∀ w',Gr W1 w'→Calls prog 118 #[.pointer (some ⟨b,5,none⟩)] w' λe w9=>e=.returned (.string ⟨j.text.toArray⟩)∧Ch (λk=>v.ownBlock=some k) w' w9 from λw' hg=>jstring_any (kb.out.gr hg).bd)
 go_region_law (first | (go_simp;go_at_call 118;refine (hst.out W1.drew (Gr.drew' _)).mono ?_;rintro e wd ⟨rfl,cd⟩;have cd':=hid ((Ch.drew _ W1).trans cd);replace c3:=(cd'.out.cell (p:=⟨b,3,none⟩) (cell_lt c3) hvb).trans c3;replace m0:=(cd'.out.cell (p:=⟨M,0,none⟩) hMs hvM).trans m0;replace m1:=(cd'.out.cell (p:=⟨M,1,none⟩) hMs hvM).trans m1;replace n0:=(cd'.out.frozen (p:=⟨M,0,none⟩) hMs hvM).trans n0;replace n1:=(cd'.out.frozen (p:=⟨M,1,none⟩) hMs hvM).trans n1))
 all_goals
  obtain⟨W3,hW3⟩:∃ W3,(wd.setCell ⟨M,0,none⟩ (.int .i64 j.op)).setCell ⟨M,1,none⟩ (.string ⟨j.text.toArray⟩)=W3:=⟨_,rfl⟩
  rw[hW3]
  have cm:=hid (show Ch (λi=>i=M) wd W3 from hW3▸(Ch.setCell (T:=λi=>i=M) wd (a:=⟨M,0,none⟩) rfl _).trans (Ch.setCell (T:=λi=>i=M) _ (a:=⟨M,1,none⟩) rfl _))
  have cw:=hid (show Ch (λi=>v.ownBlock=some i∨i=M) W1 W3 from (cd'.out.mono λ_ e=>.inl e).trans (cm.out.mono λ_ e=>.inr e))
  have kw:=hid (kb.out.weak cw.out (λe=>e.elim hvb hMb) (λi e e2=>e2.elim (k'.out.ck i e).2.2 (λe3=>by have:=(k'.out.ck i e).1.lt;have:=hM'.out;omega)))
  have e0:W3.cell? ⟨M,0,none⟩=some (.int .i64 j.op):=hW3▸cell_off (cell_set_same m0) (by decide)
  have e1:W3.cell? ⟨M,1,none⟩=some (.string ⟨j.text.toArray⟩):=hW3▸cell_set_same (cell_off m1 (by decide))
  have y0:W3.frozen? ⟨M,0,none⟩=false:=hW3▸frozen_set.trans (frozen_set.trans n0)
  have y1:W3.frozen? ⟨M,1,none⟩=false:=hW3▸frozen_set.trans (frozen_set.trans n1)
  clear m0 m1 n0 n1 c3 hW3 hst hbs hMs
  have c3:=kw.out.c3
  have c4:=kw.out.c4
  have fz:=kw.out.fz
  have hbs:b<W3.heap.size:=cell_lt c3
  have hMs:M<W3.heap.size:=cell_lt e0
  dsimp only at c3 c4
  have c5:(((W3.setCell ⟨b,3,none⟩ (.int .i64 0)).setCell ⟨b,4,none⟩ (.int .i64 0)).cell? ⟨b,5,none⟩).isSome:=by
   obtain⟨u,hu⟩:=kw.out.c5
   rw[cell_off (cell_off hu (by decide)) (by decide)];rfl
  have hrs:=hid (jreset_any (b:=b) (W:=(W3.setCell ⟨b,3,none⟩ (.int .i64 0)).setCell ⟨b,4,none⟩ (.int .i64 0)) (v:=v) c5 (cell_off (cell_off kw.out.c6 (by decide)) (by decide)) (λo=>frozen_set.trans (frozen_set.trans (fz o))))
  clear c5
  go_wp2_with fail
  refine hrs.out.mono ?_
  rintro e w5⟨rfl,hw5⟩
  have kf:=hid (show JnS b w5 _ (.slice none 0 0) q from hw5▸kw.out.done)
  have cf:=hid (show Ch (λi=>i=b) W3 w5 from hw5▸(((Ch.setCell (T:=λi=>i=b) W3 (a:=⟨b,3,none⟩) rfl _).trans (Ch.setCell (T:=λi=>i=b) _ (a:=⟨b,4,none⟩) rfl _)).trans (Ch.setCell (T:=λi=>i=b) _ (a:=⟨b,5,none⟩) rfl _)).trans (Ch.setCell (T:=λi=>i=b) _ (a:=⟨b,6,none⟩) rfl _))
  replace e0:=(cf.out.cell (p:=⟨M,0,none⟩) hMs hnM).trans e0
  replace e1:=(cf.out.cell (p:=⟨M,1,none⟩) hMs hnM).trans e1
  replace y0:=(cf.out.frozen (p:=⟨M,0,none⟩) hMs hnM).trans y0
  replace y1:=(cf.out.frozen (p:=⟨M,1,none⟩) hMs hnM).trans y1
  clear c3 c4 fz hbs hMs hw5 hrs
  have hM5:M<w5.heap.size:=cell_lt e0
  go_wp2
  refine bodyPost_ret (v:=.tuple #[.agg #[.int .i64 j.op,.string ⟨j.text.toArray⟩],.bool true,.int .i64 0]) (by simp[results,results151,go_sem,e0,e1]) rfl ?_
  rw[hv.out]
  refine⟨by show _=Ending.returned (.tuple #[_,_,.int .i64 j.bad]);rw[hb0.out];rfl,.slice none 0 0,kf.out.ch (T:=λi=>i=M) ((Ch.setCell (T:=λi=>i=M) w5 (a:=⟨M,0,none⟩) rfl _).trans (Ch.setCell (T:=λi=>i=M) _ (a:=⟨M,1,none⟩) rfl _)) hMb (λi e=>by cases e) (λi e e2=>by have:=(k'.out.ck i e).1.lt;have:=hM'.out;omega),?_,λi e=>by cases e⟩
  exact (g.out.to_ch _).drop_new (S:=λi=>(i=b∨v.ownBlock=some i∨q=some i)∨i=M) ((((cb.out.mono λ_ e=>.inl (.inl e)).trans (cw.out.mono λ_ e=>e.imp_left λe=>.inr (.inl e))).trans (cf.out.mono λ_ e=>.inl (.inl e))).trans ((Ch.setCell w5 (a:=⟨M,0,none⟩) (.inr rfl) _).trans (Ch.setCell _ (a:=⟨M,1,none⟩) (.inr rfl) _))) (λi e=>e.imp_right λe=>by rw[e];have:=hM'.out;omega)
theorem jend_whole1 (k:JnS b W j v q) (h:j.bad=0) (hA:j.begun=true) (hl:j.lacks=0) (hla:j.last=true) (ho:j.op=1) (hw:wholeU j.check=true) (hq:q=none→j.op=0) :
  Calls prog 151 #[.pointer (some ⟨b,0,none⟩)] W λe w'=>e=.returned (endV (jnEnd j))∧JpPost b (jnEnd j).1 v q W w':=by
 have hv:=hid (show jnEnd j=({ j with begun:=false,op:=0,sum:=0,text:=[] },some (j.op,j.text)) by unfold jnEnd;rw[if_neg (by omega),hA,hl,hla];rw[ho,hw];rfl)
 have hq2:∃ C,q=some C:=by cases hqq:q with
  | none=>have:=hq hqq;omega
  | some C=>exact⟨C,rfl⟩
 obtain⟨C,rfl⟩:=hq2
 obtain⟨W0,hW0⟩:∃ W0,mw W=W0:=⟨_,rfl⟩
 have g:=hid (show Gr W W0 from hW0▸Gr.alloc W _)
 obtain⟨M,hM⟩:∃ M,W.heap.size=M:=⟨_,rfl⟩
 have h0:=hid (show W0.heap.size=M+1 by rw[←hW0,←hM];simp)
 have kd:=hid (k.gr g.out)
 have hn:=hid (jnone_any kd.out)
 have c2:=kd.out.c2
 have c3:=kd.out.c3
 have c7:=kd.out.c7
 have c8:=kd.out.c8
 have c9:=kd.out.c9
 have c10:=kd.out.c10
 have fz:=kd.out.bd.fz
 have hlt:=k.lt
 have hMb:b≠M:=by omega
 have m0:W0.cell? ⟨M,0,none⟩=some (.int .i64 0):=by rw[←hW0,←hM];exact cell_new7 _ _ _ 0 _ rfl
 have m1:W0.cell? ⟨M,1,none⟩=some (.string ⟨#[]⟩):=by rw[←hW0,←hM];exact cell_new7 _ _ _ 1 _ rfl
 have mz:∀ o,W0.frozen? ⟨M,o,none⟩=false:=λo=>by rw[←hW0,←hM];exact World.frozen?_alloc_at _ _ _ _ rfl
 have k':=hid k
 have hM':=hid hM
 clear k hlt
 rw[h] at c2
 rw[hA] at c8
 rw[hl] at c10
 rw[hla] at c9
 have hb0:=hid h
 have hbs:=kd.out.lt
 have hwh:=hid (uwhole_any (kd.out.ck C rfl).1)
 rw[hw] at hwh
 have ho':=hid ho
 rw[ho] at c3
 clear ho hw hq
 clear h hA hl hla
 go_enter func151,ntmps151
 go_wp2_with fail
 refine hn.out.mono ?_
 rintro e w1⟨rfl,rfl⟩
 go_wp2_with fail
 refine hwh.out.mono ?_
 rintro e w1⟨rfl,rfl⟩
 go_upto_region 12 with (fail)
 obtain⟨W1,hW1⟩:∃ W1,W0.setCell ⟨b,8,none⟩ (.bool false)=W1:=⟨_,rfl⟩
 rw[hW1]
 have kb:=hid (show JnS b W1 { j with begun:=false } v (some C) from hW1▸kd.out.setBegun false)
 have cb:=hid (show Ch (λi=>i=b) W0 W1 from hW1▸Ch.setCell (T:=λi=>i=b) W0 (a:=⟨b,8,none⟩) rfl _)
 have hlM:M<W0.heap.size:=by have:=h0.out;omega
 have hnM:¬(M=b):=λe=>hMb e.symm
 replace m0:=(cb.out.cell (p:=⟨M,0,none⟩) hlM hnM).trans m0
 replace m1:=(cb.out.cell (p:=⟨M,1,none⟩) hlM hnM).trans m1
 have n0:=(cb.out.frozen (p:=⟨M,0,none⟩) hlM hnM).trans (mz 0)
 have n1:=(cb.out.frozen (p:=⟨M,1,none⟩) hlM hnM).trans (mz 1)
 clear c2 c3 c7 c8 c9 c10 fz mz hlM hW1
 have c3:W1.cell? ⟨b,3,none⟩=some (.int .i64 j.op):=kb.out.c3
 have hMs:M<W1.heap.size:=cell_lt m0
 have hvM:¬(v.ownBlock=some M):=λe=>by have:=k'.out.bd.own_lt e;have:=hM'.out;omega
 have hvb:¬(v.ownBlock=some b):=kb.out.bd.ne
 have hst:=hid (show ∀ w',Gr W1 w'→Calls prog 118 #[.pointer (some ⟨b,5,none⟩)] w' λe w9=>e=.returned (.string ⟨j.text.toArray⟩)∧Ch (λk=>v.ownBlock=some k) w' w9 from λw' hg=>jstring_any (kb.out.gr hg).bd)
 go_region_law (first | (go_simp;go_at_call 118;refine (hst.out W1.drew (Gr.drew' _)).mono ?_;rintro e wd ⟨rfl,cd⟩;have cd':=hid ((Ch.drew _ W1).trans cd);replace c3:=(cd'.out.cell (p:=⟨b,3,none⟩) (cell_lt c3) hvb).trans c3;replace m0:=(cd'.out.cell (p:=⟨M,0,none⟩) hMs hvM).trans m0;replace m1:=(cd'.out.cell (p:=⟨M,1,none⟩) hMs hvM).trans m1;replace n0:=(cd'.out.frozen (p:=⟨M,0,none⟩) hMs hvM).trans n0;replace n1:=(cd'.out.frozen (p:=⟨M,1,none⟩) hMs hvM).trans n1))
 all_goals
  obtain⟨W3,hW3⟩:∃ W3,(wd.setCell ⟨M,0,none⟩ (.int .i64 j.op)).setCell ⟨M,1,none⟩ (.string ⟨j.text.toArray⟩)=W3:=⟨_,rfl⟩
  rw[hW3]
  have cm:=hid (show Ch (λi=>i=M) wd W3 from hW3▸(Ch.setCell (T:=λi=>i=M) wd (a:=⟨M,0,none⟩) rfl _).trans (Ch.setCell (T:=λi=>i=M) _ (a:=⟨M,1,none⟩) rfl _))
  have cw:=hid (show Ch (λi=>v.ownBlock=some i∨i=M) W1 W3 from (cd'.out.mono λ_ e=>.inl e).trans (cm.out.mono λ_ e=>.inr e))
  have kw:=hid (kb.out.weak cw.out (λe=>e.elim hvb hMb) (λi e e2=>e2.elim (k'.out.ck i e).2.2 (λe3=>by have:=(k'.out.ck i e).1.lt;have:=hM'.out;omega)))
  have e0:W3.cell? ⟨M,0,none⟩=some (.int .i64 j.op):=hW3▸cell_off (cell_set_same m0) (by decide)
  have e1:W3.cell? ⟨M,1,none⟩=some (.string ⟨j.text.toArray⟩):=hW3▸cell_set_same (cell_off m1 (by decide))
  have y0:W3.frozen? ⟨M,0,none⟩=false:=hW3▸frozen_set.trans (frozen_set.trans n0)
  have y1:W3.frozen? ⟨M,1,none⟩=false:=hW3▸frozen_set.trans (frozen_set.trans n1)
  clear m0 m1 n0 n1 c3 hW3 hst hbs hMs
  have c3:=kw.out.c3
  have c4:=kw.out.c4
  have fz:=kw.out.fz
  have hbs:b<W3.heap.size:=cell_lt c3
  have hMs:M<W3.heap.size:=cell_lt e0
  dsimp only at c3 c4
  have c5:(((W3.setCell ⟨b,3,none⟩ (.int .i64 0)).setCell ⟨b,4,none⟩ (.int .i64 0)).cell? ⟨b,5,none⟩).isSome:=by
   obtain⟨u,hu⟩:=kw.out.c5
   rw[cell_off (cell_off hu (by decide)) (by decide)];rfl
  have hrs:=hid (jreset_any (b:=b) (W:=(W3.setCell ⟨b,3,none⟩ (.int .i64 0)).setCell ⟨b,4,none⟩ (.int .i64 0)) (v:=v) c5 (cell_off (cell_off kw.out.c6 (by decide)) (by decide)) (λo=>frozen_set.trans (frozen_set.trans (fz o))))
  clear c5
  go_wp2_with fail
  refine hrs.out.mono ?_
  rintro e w5⟨rfl,hw5⟩
  have kf:=hid (show JnS b w5 _ (.slice none 0 0) (some C) from hw5▸kw.out.done)
  have cf:=hid (show Ch (λi=>i=b) W3 w5 from hw5▸(((Ch.setCell (T:=λi=>i=b) W3 (a:=⟨b,3,none⟩) rfl _).trans (Ch.setCell (T:=λi=>i=b) _ (a:=⟨b,4,none⟩) rfl _)).trans (Ch.setCell (T:=λi=>i=b) _ (a:=⟨b,5,none⟩) rfl _)).trans (Ch.setCell (T:=λi=>i=b) _ (a:=⟨b,6,none⟩) rfl _))
  replace e0:=(cf.out.cell (p:=⟨M,0,none⟩) hMs hnM).trans e0
  replace e1:=(cf.out.cell (p:=⟨M,1,none⟩) hMs hnM).trans e1
  replace y0:=(cf.out.frozen (p:=⟨M,0,none⟩) hMs hnM).trans y0
  replace y1:=(cf.out.frozen (p:=⟨M,1,none⟩) hMs hnM).trans y1
  clear c3 c4 fz hbs hMs hw5 hrs
  have hM5:M<w5.heap.size:=cell_lt e0
  go_wp2
  refine bodyPost_ret (v:=.tuple #[.agg #[.int .i64 j.op,.string ⟨j.text.toArray⟩],.bool true,.int .i64 0]) (by simp[results,results151,go_sem,e0,e1]) rfl ?_
  rw[hv.out]
  refine⟨by show _=Ending.returned (.tuple #[_,_,.int .i64 j.bad]);rw[hb0.out];rfl,.slice none 0 0,kf.out.ch (T:=λi=>i=M) ((Ch.setCell (T:=λi=>i=M) w5 (a:=⟨M,0,none⟩) rfl _).trans (Ch.setCell (T:=λi=>i=M) _ (a:=⟨M,1,none⟩) rfl _)) hMb (λi e=>by cases e) (λi e e2=>by have:=(k'.out.ck i e).1.lt;have:=hM'.out;omega),?_,λi e=>by cases e⟩
  exact (g.out.to_ch _).drop_new (S:=λi=>(i=b∨v.ownBlock=some i∨(some C)=some i)∨i=M) ((((cb.out.mono λ_ e=>.inl (.inl e)).trans (cw.out.mono λ_ e=>e.imp_left λe=>.inr (.inl e))).trans (cf.out.mono λ_ e=>.inl (.inl e))).trans ((Ch.setCell w5 (a:=⟨M,0,none⟩) (.inr rfl) _).trans (Ch.setCell _ (a:=⟨M,1,none⟩) (.inr rfl) _))) (λi e=>e.imp_right λe=>by rw[e];have:=hM'.out;omega)
theorem jend_any (k:JnS b W j v q) (hq:q=none→j.op=0) :
  Calls prog 151 #[.pointer (some ⟨b,0,none⟩)] W λe w'=>e=.returned (endV (jnEnd j))∧JpPost b (jnEnd j).1 v q W w':=by
 by_cases h:j.bad=0
 ·cases hA:j.begun
  ·exact jend_wrong1 k h hA
  ·by_cases hl:j.lacks=0
   ·cases hla:j.last
    ·exact jend_more k h hA hl hla
    ·by_cases ho:j.op=1
     ·cases hw:wholeU j.check
      ·exact jend_text k h hA hl hla ho hw hq
      ·exact jend_whole1 k h hA hl hla ho hw hq
     ·exact jend_whole2 k h hA hl hla ho
   ·exact jend_wrong2 k h hA (by omega)
 ·exact jend_bad k h
end
