/-
  The joiner as a thing: its blocks are its own.
-/
import Derived.Test.YtadobobfjnmdlaaGreatDoorJf
set_option linter.unnecessarySimpa false
set_option linter.unusedVariables false
set_option linter.unusedSimpArgs false
set_option maxHeartbeats 16000000
set_option maxRecDepth 100000
open Go.Lib (hid)
open Go.Proofs.Tryz
namespace Go.Proofs.YtadobobfjnmdlaaGreatDoor
open Go.RowKit Go.Shelf
def JnAt (b:Nat) (T:Nat→Prop) (W:World) (j:Jn):Prop :=
 (∃ v q,JnS b W j v q∧(q=none→j.op=0)∧JnOk j∧T b∧(∀ i,v.ownBlock=some i→T i)∧∀ i,q=some i→T i)∧∀ k,T k→k<W.heap.size
theorem jnKin (b:Nat):Kin (JnAt b) :=
 ⟨fun {T T' W x} ⟨⟨v,q,h,h1,h2,h3,h4,h5⟩,_⟩ ht hl=>⟨⟨v,q,h,h1,h2,ht _ h3,λi e=>ht _ (h4 i e),λi e=>ht _ (h5 i e)⟩,hl⟩,
  fun {T S W W' x} ⟨⟨v,q,h,h1,h2,h3,h4,h5⟩,hl⟩ hc hs=>⟨⟨v,q,h.ch hc (hs _ h3) (λi e=>hs _ (h4 i e)) (λi e=>hs _ (h5 i e)),h1,h2,h3,h4,h5⟩,λk hk=>Nat.lt_of_lt_of_le (hl k hk) hc.size⟩,
  fun {T W x} h=>h.2⟩
theorem jadd_lt {T:Nat→Prop} {W W':World} (hs:W.heap.size≤W'.heap.size) (hl:∀ k,T k→k<W.heap.size):∀ k,Add T W W' k→k<W'.heap.size:=λk e=>e.elim (λe=>Nat.lt_of_lt_of_le (hl k e) hs) (λe=>e.2)
theorem JpPost.pst {b:Nat} {T:Nat→Prop} {W W':World} {j j':Jn} {v:Value} {q:Option Nat} (hp:JpPost b j' v q W W') (h2:JnOk j') (h1:q=none→j'.op=0) (h3:T b) (h4:∀ i,v.ownBlock=some i→T i) (h5:∀ i,q=some i→T i) (hl:∀ k,T k→k<W.heap.size):Pst (JnAt b) T W j' W':=by
 obtain⟨v',hk,hc,hv⟩:=hp
 have hc':Ch T W W':=hc.mono λi e=>by
  rcases e with rfl | e | e
  ·exact h3
  ·exact h4 i e
  ·exact h5 i e
 exact⟨⟨⟨v',q,hk,h1,h2,.inl h3,λi e=>(hv i e).imp (h4 i) (λh=>⟨h,hk.bd.own_lt e⟩),λi e=>.inl (h5 i e)⟩,jadd_lt hc.size hl⟩,hc'⟩
theorem jbegin_at {b:Nat} {T:Nat→Prop} {W:World} {j:Jn} (h:JnAt b T W j) (last:Bool) (op len:Nat) (hlen:len≤9223372036854775807) :
  Calls prog 149 #[.pointer (some ⟨b,0,none⟩),.bool last,.int .i64 op,.int .i64 len] W λe w'=>e=.returned (.int .i64 (jnBegin j last op len).bad)∧Pst (JnAt b) T W (jnBegin j last op len) w':=by
 obtain⟨⟨v,q,k,h1,h2,h3,h4,h5⟩,hl⟩:=h
 refine (jbegin_any k h1 h2 last op len hlen).mono ?_
 rintro e w'⟨rfl,q',hk,hc,hq,hn⟩
 refine⟨rfl,⟨⟨v,q',hk,λe=>(hn e).2,jnBegin_ok h2,.inl h3,λi e=>.inl (h4 i e),λi e=>?_⟩,jadd_lt hc.size hl⟩,hc.mono λi e=>by rw[e];exact h3⟩
 rcases hq with rfl | ⟨c,rfl,hcs⟩
 ·exact .inl (h5 i e)
 ·cases e
  exact .inr ⟨hcs,(hk.ck _ rfl).1.lt⟩
theorem jnPiece_op (j:Jn) (s:List UInt8):(jnPiece j s).op=j.op:=by
 unfold jnPiece
 split
 ·rfl
 ·split
  ·exact jnFail_op _ _
  ·split
   ·split
    ·exact jnFail_op j 1007
    ·rfl
   ·rfl
theorem jnEnd_op (j:Jn):(jnEnd j).1.op=j.op∨(jnEnd j).1.op=0:=by
 unfold jnEnd
 split
 ·exact .inl rfl
 ·split
  ·exact .inl (jnFail_op _ _)
  ·split
   ·exact .inl (jnFail_op _ _)
   ·split
    ·exact .inl rfl
    ·exact .inr rfl
theorem jpiece_at {b:Nat} {T:Nat→Prop} {W:World} {j:Jn} (h:JnAt b T W j) (s:List UInt8) (hs:s.length≤4611686018427387904) :
  Calls prog 150 #[.pointer (some ⟨b,0,none⟩),.string ⟨s.toArray⟩] W λe w'=>e=.returned (.int .i64 (jnPiece j s).bad)∧Pst (JnAt b) T W (jnPiece j s) w':=by
 obtain⟨⟨v,q,k,h1,h2,h3,h4,h5⟩,hl⟩:=h
 refine (jpiece_any k h1 h2 s hs).mono ?_
 rintro e w'⟨rfl,hp⟩
 exact⟨rfl,hp.pst (j:=j) (jnPiece_ok h2) (λe=>by rw[jnPiece_op];exact h1 e) h3 h4 h5 hl⟩
theorem jend_at {b:Nat} {T:Nat→Prop} {W:World} {j:Jn} (h:JnAt b T W j) :
  Calls prog 151 #[.pointer (some ⟨b,0,none⟩)] W λe w'=>e=.returned (endV (jnEnd j))∧Pst (JnAt b) T W (jnEnd j).1 w':=by
 obtain⟨⟨v,q,k,h1,h2,h3,h4,h5⟩,hl⟩:=h
 refine (jend_any k h1).mono ?_
 rintro e w'⟨rfl,hp⟩
 exact⟨rfl,hp.pst (j:=j) (jnEnd_ok h2) (λe=>(jnEnd_op j).elim (λe2=>by rw[e2];exact h1 e) id) h3 h4 h5 hl⟩
theorem jnew_at (W:World) (n:Nat) (hn:n≤1099511627776):Calls prog 64 #[.int .i64 n] W λe w'=>e=.returned (.tuple #[.pointer (some ⟨W.heap.size,0,none⟩),.int .i64 0])∧JnAt W.heap.size (New W w') w' (jn0 n)∧Gr W w':=by
 refine (jnew_any W n hn).mono ?_
 rintro e w'⟨rfl,hk,hg,hs⟩
 exact⟨rfl,⟨⟨_,_,hk,λ_=>rfl,jn0_ok hn,⟨Nat.le_refl _,by omega⟩,(λi e=>by cases e),(λi e=>by cases e)⟩,λk e=>e.2⟩,hg⟩
attribute [local go_sem] Oper.semAt_some
structure WnS (b R J:Nat) (TJ:Nat→Prop) (W:World) (c:Wn):Prop where
 c0:W.cell? ⟨b,0,none⟩=some (.pointer (some ⟨R,0,none⟩))
 c1:W.cell? ⟨b,1,none⟩=some (.pointer (some ⟨J,0,none⟩))
 c2:W.cell? ⟨b,2,none⟩=some (.int .i64 c.st)
 c3:W.cell? ⟨b,3,none⟩=some (.int .i64 c.control)
 c4:W.cell? ⟨b,4,none⟩=some (.string ⟨c.data.toArray⟩)
 fz:∀ o,W.frozen? ⟨b,o,none⟩=false
 r:FrS R W c.r
 j:JnAt J TJ W c.j
 d1:R≠b
 d2:¬TJ b
 d3:¬TJ R
section
variable {b R J:Nat} {TJ:Nat→Prop} {W:World} {c:Wn}
theorem WnS.lt (k:WnS b R J TJ W c):b<W.heap.size:=cell_lt k.c0
theorem WnS.ch {T:Nat→Prop} {W':World} (k:WnS b R J TJ W c) (hc:Ch T W W') (hb:¬T b) (hR:¬T R) (hJ:∀ i,TJ i→¬T i):WnS b R J TJ W' c :=
 have cc:∀ {i u},W.cell? ⟨b,i,none⟩=some u→W'.cell? ⟨b,i,none⟩=some u:=fun {i u} hh=>(hc.cell (p:=⟨b,i,none⟩) (cell_lt hh) hb).trans hh
 ⟨cc k.c0,cc k.c1,cc k.c2,cc k.c3,cc k.c4,λo=>(hc.frozen (p:=⟨b,o,none⟩) k.lt hb).trans (k.fz o),k.r.ch hc hR,(jnKin J).frame k.j hc hJ,k.d1,k.d2,k.d3⟩
theorem WnS.gr {W':World} (k:WnS b R J TJ W c) (g:Gr W W'):WnS b R J TJ W' c:=k.ch (g.to_ch (λ_=>False)) id id (λ_ _=>id)
theorem WnS.st1 (k:WnS b R J TJ W c) (o:Nat) (u:Value):FrS R (W.setCell ⟨b,o,none⟩ u) c.r∧JnAt J TJ (W.setCell ⟨b,o,none⟩ u) c.j :=
 have hc:=Ch.setCell (T:=λi=>i=b) W (a:=⟨b,o,none⟩) rfl u
 ⟨k.r.ch hc k.d1,(jnKin J).frame k.j hc (λ_ e e2=>k.d2 (e2▸e))⟩
theorem WnS.setSt (k:WnS b R J TJ W c) (n:Nat):WnS b R J TJ (W.setCell ⟨b,2,none⟩ (.int .i64 n)) { c with st:=n } :=
 ⟨cell_off k.c0 (by decide),cell_off k.c1 (by decide),cell_set_same k.c2,cell_off k.c3 (by decide),cell_off k.c4 (by decide),λo=>by rw[frozen_set];exact k.fz o,(k.st1 _ _).1,(k.st1 _ _).2,k.d1,k.d2,k.d3⟩
theorem WnS.setControl (k:WnS b R J TJ W c) (n:Nat):WnS b R J TJ (W.setCell ⟨b,3,none⟩ (.int .i64 n)) { c with control:=n } :=
 ⟨cell_off k.c0 (by decide),cell_off k.c1 (by decide),cell_off k.c2 (by decide),cell_set_same k.c3,cell_off k.c4 (by decide),λo=>by rw[frozen_set];exact k.fz o,(k.st1 _ _).1,(k.st1 _ _).2,k.d1,k.d2,k.d3⟩
theorem WnS.setData (k:WnS b R J TJ W c) (s:List UInt8):WnS b R J TJ (W.setCell ⟨b,4,none⟩ (.string ⟨s.toArray⟩)) { c with data:=s } :=
 ⟨cell_off k.c0 (by decide),cell_off k.c1 (by decide),cell_off k.c2 (by decide),cell_off k.c3 (by decide),cell_set_same k.c4,λo=>by rw[frozen_set];exact k.fz o,(k.st1 _ _).1,(k.st1 _ _).2,k.d1,k.d2,k.d3⟩
theorem WnS.setR {W':World} {r:Fr} (k:WnS b R J TJ W c) (hr:FrS R W' r) (hc:Ch (λi=>i=R) W W'):WnS b R J TJ W' { c with r:=r } :=
 have hb:¬b=R:=λe=>k.d1 e.symm
 have cc:∀ {i u},W.cell? ⟨b,i,none⟩=some u→W'.cell? ⟨b,i,none⟩=some u:=fun {i u} hh=>(hc.cell (p:=⟨b,i,none⟩) (cell_lt hh) hb).trans hh
 ⟨cc k.c0,cc k.c1,cc k.c2,cc k.c3,cc k.c4,λo=>(hc.frozen (p:=⟨b,o,none⟩) k.lt hb).trans (k.fz o),hr,(jnKin J).frame k.j hc (λ_ e e2=>k.d3 (e2▸e)),k.d1,k.d2,k.d3⟩
theorem WnS.setJ {W':World} {j:Jn} (k:WnS b R J TJ W c) (hp:Pst (JnAt J) TJ W j W'):WnS b R J (Add TJ W W') W' { c with j:=j } :=
 have cc:∀ {i u},W.cell? ⟨b,i,none⟩=some u→W'.cell? ⟨b,i,none⟩=some u:=fun {i u} hh=>(hp.2.cell (p:=⟨b,i,none⟩) (cell_lt hh) k.d2).trans hh
 ⟨cc k.c0,cc k.c1,cc k.c2,cc k.c3,cc k.c4,λo=>(hp.2.frozen (p:=⟨b,o,none⟩) k.lt k.d2).trans (k.fz o),k.r.ch hp.2 k.d3,hp.1,k.d1,λe=>e.elim k.d2 (λe=>absurd k.lt (Nat.not_lt.2 e.1)),λe=>e.elim k.d3 (λe=>absurd k.r.lt (Nat.not_lt.2 e.1))⟩
def wevZ (k:Nat):Option Wev→Value
 | none=>.agg #[.int .i64 k,.int .i64 (0:Nat),.int .i64 (0:Nat),.string ⟨#[]⟩]
 | some (.message op s)=>.agg #[.int .i64 (1:Nat),.int .i64 op,.int .i64 (0:Nat),.string ⟨s.toArray⟩]
 | some (.ping s)=>.agg #[.int .i64 (2:Nat),.int .i64 (0:Nat),.int .i64 (0:Nat),.string ⟨s.toArray⟩]
 | some (.closing n)=>.agg #[.int .i64 (3:Nat),.int .i64 (0:Nat),.int .i64 n,.string ⟨#[]⟩]
 | some (.failing n)=>.agg #[.int .i64 (4:Nat),.int .i64 (0:Nat),.int .i64 n,.string ⟨#[]⟩]
theorem wnone_any (k:WnS b R J TJ W c):Calls prog 82 #[.pointer (some ⟨b,0,none⟩)] W λe w'=>e=.returned (.bool false)∧W=w':=by
 have c0:=k.c0
 clear k
 go_enter func82,ntmps82
 go_wp2
 go_ret
 exact⟨rfl,rfl⟩
theorem wstate_any (k:WnS b R J TJ W c):Calls prog 48 #[.pointer (some ⟨b,0,none⟩)] W λe w'=>e=.returned (.int .i64 c.st)∧W=w':=by
 have c2:=k.c2
 have hn:=hid (wnone_any k)
 clear k
 go_enter func48,ntmps48
 go_wp2_with fail
 refine hn.out.mono ?_
 rintro e w1⟨rfl,rfl⟩
 go_wp2
 go_ret
 exact⟨rfl,rfl⟩
theorem wover_any (k:WnS b R J TJ W c):Calls prog 46 #[.pointer (some ⟨b,0,none⟩)] W λe w'=>e=.returned (.tuple #[])∧WnS b R J TJ w' (wnOver c)∧Ch (λi=>i=b) W w':=by
 have c2:=k.c2
 have fz:=k.fz
 have k':=hid k
 clear k
 go_enter func46,ntmps46
 go_wp2
 go_end0
 exact⟨rfl,k'.out.setSt 3,Ch.setCell (T:=λi=>i=b) _ (a:=⟨b,2,none⟩) rfl _⟩
theorem wfeed_any (k:WnS b R J TJ W c) (s:List UInt8) (hs:c.r.inp.length+s.length≤4611686018427387900) :
  Calls prog 40 #[.pointer (some ⟨b,0,none⟩),.string ⟨s.toArray⟩] W λe w'=>e=.returned (.tuple #[])∧WnS b R J TJ w' (wnFeed c s)∧Ch (λi=>i=R) W w':=by
 have c0:=k.c0
 have hst:=hid (wstate_any k)
 have hf:=hid (frfeed_any R W c.r s k.r hs)
 have k':=hid k
 clear k
 by_cases h:c.st=3
 ·have hv:=hid (show wnFeed c s=c by unfold wnFeed;rw[if_pos h])
  rw[h] at hst
  clear h
  go_enter func40,ntmps40
  go_wp2_with fail
  refine hst.out.mono ?_
  rintro e w1⟨rfl,rfl⟩
  go_wp2
  go_end0
  rw[hv.out]
  exact⟨rfl,k'.out,Ch.refl _ _⟩
 ·have hv:=hid (show wnFeed c s={ c with r:=frFeed c.r s } by unfold wnFeed;rw[if_neg h])
  have hz:((c.st:Int) != 3)=true:=bne_iff_ne.2 (by omega)
  clear h
  go_enter func40,ntmps40
  go_wp2_with fail
  refine hst.out.mono ?_
  rintro e w1⟨rfl,rfl⟩
  go_wp2_with fail
  refine hf.out.mono ?_
  rintro e w1⟨rfl,hr,hc⟩
  go_wp2
  go_end0
  rw[hv.out]
  exact⟨rfl,k'.out.setR hr hc,hc⟩
end
section
variable {b R J:Nat} {TJ:Nat→Prop} {W:World} {c:Wn}
abbrev we0 (W:World):World:=W.alloc (.cells #[.int .i64 0,.int .i64 0,.int .i64 0,.string ⟨#[]⟩] 129)
theorem WnS.tell {W0 W1 w':World} {c':Wn} {TJ':Nat→Prop} {M:Nat} (k:WnS b R J TJ W c) (hM:W.heap.size=M) (hp:WnS b R J TJ' W1 c') (hJ:∀ i,TJ' i→TJ i∨M<i) (hc:Ch (λi=>i=M) W1 w'):WnS b R J TJ' w' c':=by
 have hb:=k.lt
 have hR:=k.r.lt
 refine hp.ch hc (by omega) (by omega) (λi e e2=>?_)
 rcases hJ i e with e3 | e3
 ·have:=(jnKin J).lt k.j i e3;omega
 ·omega
theorem wfails_any (k:WnS b R J TJ W c) (n:Nat) :
  Calls prog 121 #[.pointer (some ⟨b,0,none⟩),.int .i64 n] W λe w'=>e=.returned (.tuple #[wevZ 0 (some (.failing n)),.bool true])∧WnS b R J TJ w' (wnOver c)∧Ch (λi=>i=b) W w':=by
 obtain⟨W0,hW0⟩:∃ W0,we0 W=W0:=⟨_,rfl⟩
 have g:=hid (show Gr W W0 from hW0▸Gr.alloc W _)
 obtain⟨M,hM⟩:∃ M,W.heap.size=M:=⟨_,rfl⟩
 have h0:=hid (show W0.heap.size=M+1 by rw[←hW0,←hM];simp)
 have ho:=hid (wover_any (k.gr g.out))
 have hlt:=k.lt
 have hMb:b≠M:=by omega
 have hnM:¬(M=b):=λe=>hMb e.symm
 have hMs:M<W0.heap.size:=by have:=h0.out;omega
 have m0:W0.cell? ⟨M,0,none⟩=some (.int .i64 0):=by rw[←hW0,←hM];exact cell_new7 _ _ _ 0 _ rfl
 have m1:W0.cell? ⟨M,1,none⟩=some (.int .i64 0):=by rw[←hW0,←hM];exact cell_new7 _ _ _ 1 _ rfl
 have m2:W0.cell? ⟨M,2,none⟩=some (.int .i64 0):=by rw[←hW0,←hM];exact cell_new7 _ _ _ 2 _ rfl
 have m3:W0.cell? ⟨M,3,none⟩=some (.string ⟨#[]⟩):=by rw[←hW0,←hM];exact cell_new7 _ _ _ 3 _ rfl
 have mz:∀ o,W0.frozen? ⟨M,o,none⟩=false:=λo=>by rw[←hW0,←hM];exact World.frozen?_alloc_at _ _ _ _ rfl
 have k':=hid k
 have hM':=hid hM
 clear k hlt
 go_enter func121,ntmps121
 go_wp2_with fail
 refine ho.out.mono ?_
 rintro e w1⟨rfl,hk,hc⟩
 replace m0:=(hc.cell (p:=⟨M,0,none⟩) hMs hnM).trans m0
 replace m1:=(hc.cell (p:=⟨M,1,none⟩) hMs hnM).trans m1
 replace m2:=(hc.cell (p:=⟨M,2,none⟩) hMs hnM).trans m2
 replace m3:=(hc.cell (p:=⟨M,3,none⟩) hMs hnM).trans m3
 replace mz:∀ o,w1.frozen? ⟨M,o,none⟩=false:=λo=>(hc.frozen (p:=⟨M,o,none⟩) hMs hnM).trans (mz o)
 have hM1:M<w1.heap.size:=cell_lt m0
 have hk':=hid hk
 have hc':=hid hc
 clear hk hc hMs
 go_wp2
 refine bodyPost_ret (v:=.tuple #[wevZ 0 (some (.failing n)),.bool true]) (by simp[results,results121,go_sem,wevZ,m0,m1,m2,m3]) rfl ⟨rfl,?_,?_⟩
 ·exact k'.out.tell (W0:=W0) hM'.out hk'.out (λi e=>.inl e) ((((Ch.setCell (T:=λi=>i=M) w1 (a:=⟨M,0,none⟩) rfl _).trans (Ch.setCell (T:=λi=>i=M) _ (a:=⟨M,1,none⟩) rfl _)).trans (Ch.setCell (T:=λi=>i=M) _ (a:=⟨M,2,none⟩) rfl _)).trans (Ch.setCell (T:=λi=>i=M) _ (a:=⟨M,3,none⟩) rfl _))
 ·exact ((g.out.to_ch _).trans hc'.out).drop_new ((((Ch.setCell (T:=λi=>i=M) w1 (a:=⟨M,0,none⟩) rfl _).trans (Ch.setCell (T:=λi=>i=M) _ (a:=⟨M,1,none⟩) rfl _)).trans (Ch.setCell (T:=λi=>i=M) _ (a:=⟨M,2,none⟩) rfl _)).trans (Ch.setCell (T:=λi=>i=M) _ (a:=⟨M,3,none⟩) rfl _)) (λi e=>.inr (by rw[e];have:=hM'.out;omega))
end
def WcPost (b R J:Nat) (TJ:Nat→Prop) (W:World) (x:Wn×Option Wev) (e:Ending) (W':World):Prop :=
 e=.returned (.tuple #[wevZ 0 x.2,.bool x.2.isSome])∧WnS b R J TJ W' x.1∧Ch (λi=>i=b) W W'
section
variable {b R J:Nat} {TJ:Nat→Prop} {W:World} {c:Wn}
abbrev wc0 (W:World) (kk o:Int) (f:Bool) (n:Int) (t:List UInt8):World:=(W.alloc (.cells #[.int .i64 kk,.int .i64 o,.bool f,.int .i64 n,.string ⟨t.toArray⟩] 159)).alloc (.cells #[.int .i64 0,.int .i64 0,.int .i64 0,.string ⟨#[]⟩] 129)
structure Wc0 (b R J:Nat) (TJ:Nat→Prop) (W:World) (c:Wn) (kk o:Int) (f:Bool) (n:Int) (t:List UInt8) (W0:World) (M:Nat):Prop where
 g:Gr W W0
 hM:W.heap.size+1=M
 k:WnS b R J TJ W0 c
 e0:W0.cell? ⟨W.heap.size,0,none⟩=some (.int .i64 kk)
 e1:W0.cell? ⟨W.heap.size,1,none⟩=some (.int .i64 o)
 e2:W0.cell? ⟨W.heap.size,2,none⟩=some (.bool f)
 e3:W0.cell? ⟨W.heap.size,3,none⟩=some (.int .i64 n)
 e4:W0.cell? ⟨W.heap.size,4,none⟩=some (.string ⟨t.toArray⟩)
 m0:W0.cell? ⟨M,0,none⟩=some (.int .i64 0)
 m1:W0.cell? ⟨M,1,none⟩=some (.int .i64 0)
 m2:W0.cell? ⟨M,2,none⟩=some (.int .i64 0)
 m3:W0.cell? ⟨M,3,none⟩=some (.string ⟨#[]⟩)
 mz:∀ o,W0.frozen? ⟨M,o,none⟩=false
theorem wc0_of (k:WnS b R J TJ W c) (kk o:Int) (f:Bool) (n:Int) (t:List UInt8):Wc0 b R J TJ W c kk o f n t (wc0 W kk o f n t) (W.heap.size+1):=by
 have hs:(W.alloc (.cells #[.int .i64 kk,.int .i64 o,.bool f,.int .i64 n,.string ⟨t.toArray⟩] 159)).heap.size=W.heap.size+1:=by simp
 have g1:Gr W (W.alloc (.cells #[.int .i64 kk,.int .i64 o,.bool f,.int .i64 n,.string ⟨t.toArray⟩] 159)):=Gr.alloc W _
 have g2:Gr (W.alloc (.cells #[.int .i64 kk,.int .i64 o,.bool f,.int .i64 n,.string ⟨t.toArray⟩] 159)) (wc0 W kk o f n t):=Gr.alloc _ _
 exact⟨g1.trans g2,rfl,k.gr (g1.trans g2),g2.cell (cell_new7 _ _ _ 0 _ rfl),g2.cell (cell_new7 _ _ _ 1 _ rfl),g2.cell (cell_new7 _ _ _ 2 _ rfl),g2.cell (cell_new7 _ _ _ 3 _ rfl),g2.cell (cell_new7 _ _ _ 4 _ rfl),
  hs▸cell_new7 _ _ _ 0 _ rfl,hs▸cell_new7 _ _ _ 1 _ rfl,hs▸cell_new7 _ _ _ 2 _ rfl,hs▸cell_new7 _ _ _ 3 _ rfl,λ_=>World.frozen?_alloc_at _ _ _ _ hs.symm⟩
theorem WnS.tells {W0 W1 w':World} {c':Wn} {M:Nat} (k:WnS b R J TJ W c) (g:Gr W W0) (hM:W.heap.size+1=M) (hp:WnS b R J TJ W1 c') (h1:Ch (λi=>i=b) W0 W1) (hc:Ch (λi=>i=M) W1 w'):WnS b R J TJ w' c'∧Ch (λi=>i=b) W w':=by
 have hb:=k.lt
 have hR:=k.r.lt
 refine⟨hp.ch hc (by omega) (by omega) (λi e e2=>?_),((g.to_ch _).trans h1).drop_new hc (λi e=>.inr (by rw[e];omega))⟩
 have:=(jnKin J).lt k.j i e
 omega
theorem wctl_piece (k:WnS b R J TJ W c) (s:List UInt8) (hs:c.data.length+s.length≤4611686018427387900) :
  Calls prog 122 #[.pointer (some ⟨b,0,none⟩),(Fev.piece s).V] W (WcPost b R J TJ W (wnControl c (.piece s))):=by
 obtain⟨W0,hW0⟩:∃ W0,wc0 W 2 0 false 0 s=W0:=⟨_,rfl⟩
 obtain⟨M,hM⟩:∃ M,W.heap.size+1=M:=⟨_,rfl⟩
 have z:=wc0_of k 2 0 false 0 s
 rw[hW0,hM] at z
 have z':=hid z
 have e0:=z.e0
 have e4:=z.e4
 have m0:=z.m0
 have m1:=z.m1
 have m2:=z.m2
 have m3:=z.m3
 have mz:=z.mz
 have c2:=z.k.c2
 have c3:=z.k.c3
 have c4:=z.k.c4
 have fz:=z.k.fz
 have hlt:=k.lt
 have hMb:b≠M:=by omega
 have hbE:b≠W.heap.size:=by omega
 have hbs:b<W0.heap.size:=z.k.lt
 have hMs:M<W0.heap.size:=cell_lt m0
 have hEs:W.heap.size<W0.heap.size:=cell_lt e0
 have k':=hid k
 have hM':=hid hM
 clear k hlt z
 have hcat:(⟨c.data.toArray⟩:ByteArray)++(⟨s.toArray⟩:ByteArray)=⟨(c.data++s).toArray⟩:=cat_mk _ _
 unfold Fev.V
 go_enter func122,ntmps122
 go_upto_region 2 with (fail)
 clear c2 c3 m0 m1 m2 m3 mz e0
 go_big_region
 have m0:=z'.out.m0
 have m1:=z'.out.m1
 have m2:=z'.out.m2
 have m3:=z'.out.m3
 have mz:=z'.out.mz
 go_wp2
 refine bodyPost_ret (v:=.tuple #[wevZ 0 none,.bool false]) (by simp[results,results122,go_sem,wevZ,m0,m1,m2,m3,hMb,Ne.symm hMb]) rfl ?_
 exact⟨rfl,k'.out.tells z'.out.g hM'.out ((z'.out.k.setData (c.data++s)).gr (Gr.drew' _)) ((Ch.setCell (T:=λi=>i=b) W0 (a:=⟨b,4,none⟩) rfl _).trans (Ch.drew _ _)) ((((Ch.setCell (T:=λi=>i=M) _ (a:=⟨M,0,none⟩) rfl _).trans (Ch.setCell (T:=λi=>i=M) _ (a:=⟨M,1,none⟩) rfl _)).trans (Ch.setCell (T:=λi=>i=M) _ (a:=⟨M,2,none⟩) rfl _)).trans (Ch.setCell (T:=λi=>i=M) _ (a:=⟨M,3,none⟩) rfl _))⟩
theorem wctl_ping (k:WnS b R J TJ W c) (kk o:Int) (f:Bool) (n:Int) (t:List UInt8) (hk:(kk==2)=false) (h9:c.control=9) (hst:c.st=1) :
  Calls prog 122 #[.pointer (some ⟨b,0,none⟩),.agg #[.int .i64 kk,.int .i64 o,.bool f,.int .i64 n,.string ⟨t.toArray⟩]] W (WcPost b R J TJ W ({ c with control:=0 },some (.ping c.data))):=by
 obtain⟨W0,hW0⟩:∃ W0,wc0 W kk o f n t=W0:=⟨_,rfl⟩
 obtain⟨M,hM⟩:∃ M,W.heap.size+1=M:=⟨_,rfl⟩
 have z:=wc0_of k kk o f n t
 rw[hW0,hM] at z
 have z':=hid z
 have e0:=z.e0
 have e4:=z.e4
 have m0:=z.m0
 have m1:=z.m1
 have m2:=z.m2
 have m3:=z.m3
 have mz:=z.mz
 have c2:=z.k.c2
 have c3:=z.k.c3
 have c4:=z.k.c4
 have fz:=z.k.fz
 have hlt:=k.lt
 have hMb:b≠M:=by omega
 have hbE:b≠W.heap.size:=by omega
 have hbs:b<W0.heap.size:=z.k.lt
 have hMs:M<W0.heap.size:=cell_lt m0
 have hEs:W.heap.size<W0.heap.size:=cell_lt e0
 have k':=hid k
 have hM':=hid hM
 clear k hlt z
 rw[h9] at c3
 rw[hst] at c2
 clear h9 hst
 go_enter func122,ntmps122
 go_wp2
 refine bodyPost_ret (v:=.tuple #[wevZ 0 (some (.ping c.data)),.bool true]) (by simp[results,results122,go_sem,wevZ,m0,m1,m2,m3,hMb,Ne.symm hMb]) rfl ?_
 exact⟨rfl,k'.out.tells z'.out.g hM'.out (z'.out.k.setControl 0) (Ch.setCell (T:=λi=>i=b) W0 (a:=⟨b,3,none⟩) rfl _) ((((Ch.setCell (T:=λi=>i=M) _ (a:=⟨M,0,none⟩) rfl _).trans (Ch.setCell (T:=λi=>i=M) _ (a:=⟨M,1,none⟩) rfl _)).trans (Ch.setCell (T:=λi=>i=M) _ (a:=⟨M,2,none⟩) rfl _)).trans (Ch.setCell (T:=λi=>i=M) _ (a:=⟨M,3,none⟩) rfl _))⟩
theorem wctl_else (k:WnS b R J TJ W c) (kk o:Int) (f:Bool) (n:Int) (t:List UInt8) (hk:(kk==2)=false) (h8:c.control≠8) (h9:¬(c.control=9∧c.st=1)) :
  Calls prog 122 #[.pointer (some ⟨b,0,none⟩),.agg #[.int .i64 kk,.int .i64 o,.bool f,.int .i64 n,.string ⟨t.toArray⟩]] W (WcPost b R J TJ W ({ c with control:=0 },none)):=by
 obtain⟨W0,hW0⟩:∃ W0,wc0 W kk o f n t=W0:=⟨_,rfl⟩
 obtain⟨M,hM⟩:∃ M,W.heap.size+1=M:=⟨_,rfl⟩
 have z:=wc0_of k kk o f n t
 rw[hW0,hM] at z
 have z':=hid z
 have e0:=z.e0
 have e4:=z.e4
 have m0:=z.m0
 have m1:=z.m1
 have m2:=z.m2
 have m3:=z.m3
 have mz:=z.mz
 have c2:=z.k.c2
 have c3:=z.k.c3
 have c4:=z.k.c4
 have fz:=z.k.fz
 have hlt:=k.lt
 have hMb:b≠M:=by omega
 have hbE:b≠W.heap.size:=by omega
 have hbs:b<W0.heap.size:=z.k.lt
 have hMs:M<W0.heap.size:=cell_lt m0
 have hEs:W.heap.size<W0.heap.size:=cell_lt e0
 have k':=hid k
 have hM':=hid hM
 clear k hlt z
 have z8:((c.control:Int)==8)=false:=beq_eq_false_iff_ne.2 (by omega)
 have hw0:=hid (λ(w':World)=>k'.out.tells (w':=w') z'.out.g hM'.out (z'.out.k.setControl 0) (Ch.setCell (T:=λi=>i=b) W0 (a:=⟨b,3,none⟩) rfl _))
 by_cases h:c.control=9
 ·have hst:((c.st:Int)==1)=false:=beq_eq_false_iff_ne.2 (by omega)
  rw[h] at c3
  clear h h8 h9 z8
  go_enter func122,ntmps122
  go_wp2
  refine bodyPost_ret (v:=.tuple #[wevZ 0 none,.bool false]) (by simp[results,results122,go_sem,wevZ,m0,m1,m2,m3,hMb,Ne.symm hMb]) rfl ?_
  exact⟨rfl,hw0.out _ ((((Ch.setCell (T:=λi=>i=M) _ (a:=⟨M,0,none⟩) rfl _).trans (Ch.setCell (T:=λi=>i=M) _ (a:=⟨M,1,none⟩) rfl _)).trans (Ch.setCell (T:=λi=>i=M) _ (a:=⟨M,2,none⟩) rfl _)).trans (Ch.setCell (T:=λi=>i=M) _ (a:=⟨M,3,none⟩) rfl _))⟩
 have z9:((c.control:Int)==9)=false:=beq_eq_false_iff_ne.2 (by omega)
 clear h h8 h9
 go_enter func122,ntmps122
 go_wp2
 refine bodyPost_ret (v:=.tuple #[wevZ 0 none,.bool false]) (by simp[results,results122,go_sem,wevZ,m0,m1,m2,m3,hMb,Ne.symm hMb]) rfl ?_
 exact⟨rfl,hw0.out _ ((((Ch.setCell (T:=λi=>i=M) _ (a:=⟨M,0,none⟩) rfl _).trans (Ch.setCell (T:=λi=>i=M) _ (a:=⟨M,1,none⟩) rfl _)).trans (Ch.setCell (T:=λi=>i=M) _ (a:=⟨M,2,none⟩) rfl _)).trans (Ch.setCell (T:=λi=>i=M) _ (a:=⟨M,3,none⟩) rfl _))⟩
end
section
variable {b R J:Nat} {TJ:Nat→Prop} {W:World} {c:Wn}
theorem wctl_cbad (k:WnS b R J TJ W c) (kk o:Int) (f:Bool) (n:Int) (t:List UInt8) (hk:(kk==2)=false) (h8:c.control=8) (hd:c.data.length≤4611686018427387900) (hb:(readC c.data).2≠0) :
  Calls prog 122 #[.pointer (some ⟨b,0,none⟩),.agg #[.int .i64 kk,.int .i64 o,.bool f,.int .i64 n,.string ⟨t.toArray⟩]] W (WcPost b R J TJ W (wnFail { c with control:=0 } (readC c.data).2)):=by
 obtain⟨W0,hW0⟩:∃ W0,wc0 W kk o f n t=W0:=⟨_,rfl⟩
 obtain⟨M,hM⟩:∃ M,W.heap.size+1=M:=⟨_,rfl⟩
 have z:=wc0_of k kk o f n t
 rw[hW0,hM] at z
 have z':=hid z
 have e0:=z.e0
 have e4:=z.e4
 have m0:=z.m0
 have m1:=z.m1
 have m2:=z.m2
 have m3:=z.m3
 have mz:=z.mz
 have c2:=z.k.c2
 have c3:=z.k.c3
 have c4:=z.k.c4
 have fz:=z.k.fz
 have hlt:=k.lt
 have hMb:b≠M:=by omega
 have hbE:b≠W.heap.size:=by omega
 have hbs:b<W0.heap.size:=z.k.lt
 have hMs:M<W0.heap.size:=cell_lt m0
 have hEs:W.heap.size<W0.heap.size:=cell_lt e0
 have k':=hid k
 have hM':=hid hM
 clear k hlt z
 rw[h8] at c3
 have hz:(((readC c.data).2:Int) != 0)=true:=bne_iff_ne.2 (by omega)
 clear h8 hb
 go_enter func122,ntmps122
 obtain⟨Wc,hWc⟩:∃ Wc,W0.setCell ⟨b,3,none⟩ (.int .i64 0)=Wc:=⟨_,rfl⟩
 have kc:=hid (show WnS b R J TJ Wc { c with control:=0 } from hWc▸z'.out.k.setControl 0)
 have cc:=hid (show Ch (λi=>i=b) W0 Wc from hWc▸Ch.setCell (T:=λi=>i=b) W0 (a:=⟨b,3,none⟩) rfl _)
 have hcr:=hid (cread_any c.data Wc hd)
 have d4:Wc.cell? ⟨b,4,none⟩=some (.string ⟨c.data.toArray⟩):=kc.out.c4
 go_wp2_with fail
 refine hcr.out.mono ?_
 rintro e w1⟨⟨rr,rfl⟩,g1⟩
 have hf:=hid (wfails_any (kc.out.gr g1) (readC c.data).2)
 go_wp2_with fail
 refine hf.out.mono ?_
 rintro e w2⟨rfl,hkv,hcv⟩
 unfold wevZ
 have hnM:¬(M=b):=λe=>hMb e.symm
 have hx:=hid ((cc.out.trans (g1.to_ch _)).trans hcv)
 replace m0:=(hx.out.cell (p:=⟨M,0,none⟩) hMs hnM).trans m0
 replace m1:=(hx.out.cell (p:=⟨M,1,none⟩) hMs hnM).trans m1
 replace m2:=(hx.out.cell (p:=⟨M,2,none⟩) hMs hnM).trans m2
 replace m3:=(hx.out.cell (p:=⟨M,3,none⟩) hMs hnM).trans m3
 replace mz:∀ o,w2.frozen? ⟨M,o,none⟩=false:=λo=>(hx.out.frozen (p:=⟨M,o,none⟩) hMs hnM).trans (mz o)
 have hM2:M<w2.heap.size:=cell_lt m0
 have hkv':=hid hkv
 clear hcv hkv hMs hbs hEs c2 c3 c4 fz e0 e4 g1 hWc d4
 go_wp2
 refine bodyPost_ret (v:=.tuple #[wevZ 0 (some (.failing (readC c.data).2)),.bool true]) (by simp[results,results122,go_sem,wevZ,m0,m1,m2,m3]) rfl ?_
 exact⟨rfl,k'.out.tells z'.out.g hM'.out hkv'.out hx.out ((((Ch.setCell (T:=λi=>i=M) _ (a:=⟨M,0,none⟩) rfl _).trans (Ch.setCell (T:=λi=>i=M) _ (a:=⟨M,1,none⟩) rfl _)).trans (Ch.setCell (T:=λi=>i=M) _ (a:=⟨M,2,none⟩) rfl _)).trans (Ch.setCell (T:=λi=>i=M) _ (a:=⟨M,3,none⟩) rfl _))⟩
theorem wctl_close (k:WnS b R J TJ W c) (kk o:Int) (f:Bool) (n:Int) (t:List UInt8) (hk:(kk==2)=false) (h8:c.control=8) (hd:c.data.length≤4611686018427387900) (hb:(readC c.data).2=0) :
  Calls prog 122 #[.pointer (some ⟨b,0,none⟩),.agg #[.int .i64 kk,.int .i64 o,.bool f,.int .i64 n,.string ⟨t.toArray⟩]] W (WcPost b R J TJ W ({ c with control:=0,st:=3 },some (.closing (readC c.data).1))):=by
 obtain⟨W0,hW0⟩:∃ W0,wc0 W kk o f n t=W0:=⟨_,rfl⟩
 obtain⟨M,hM⟩:∃ M,W.heap.size+1=M:=⟨_,rfl⟩
 have z:=wc0_of k kk o f n t
 rw[hW0,hM] at z
 have z':=hid z
 have e0:=z.e0
 have e4:=z.e4
 have m0:=z.m0
 have m1:=z.m1
 have m2:=z.m2
 have m3:=z.m3
 have mz:=z.mz
 have c2:=z.k.c2
 have c3:=z.k.c3
 have c4:=z.k.c4
 have fz:=z.k.fz
 have hlt:=k.lt
 have hMb:b≠M:=by omega
 have hbE:b≠W.heap.size:=by omega
 have hbs:b<W0.heap.size:=z.k.lt
 have hMs:M<W0.heap.size:=cell_lt m0
 have hEs:W.heap.size<W0.heap.size:=cell_lt e0
 have k':=hid k
 have hM':=hid hM
 clear k hlt z
 rw[h8] at c3
 clear h8
 go_enter func122,ntmps122
 obtain⟨Wc,hWc⟩:∃ Wc,W0.setCell ⟨b,3,none⟩ (.int .i64 0)=Wc:=⟨_,rfl⟩
 have kc:=hid (show WnS b R J TJ Wc { c with control:=0 } from hWc▸z'.out.k.setControl 0)
 have cc:=hid (show Ch (λi=>i=b) W0 Wc from hWc▸Ch.setCell (T:=λi=>i=b) W0 (a:=⟨b,3,none⟩) rfl _)
 have hcr:=hid (cread_any c.data Wc hd)
 have d4:Wc.cell? ⟨b,4,none⟩=some (.string ⟨c.data.toArray⟩):=kc.out.c4
 go_wp2_with fail
 refine hcr.out.mono ?_
 rintro e w1⟨⟨rr,rfl⟩,g1⟩
 have hf:=hid (wover_any (kc.out.gr g1))
 rw[hb]
 go_wp2_with fail
 refine hf.out.mono ?_
 rintro e w2⟨rfl,hkv,hcv⟩
 have hnM:¬(M=b):=λe=>hMb e.symm
 have hx:=hid ((cc.out.trans (g1.to_ch _)).trans hcv)
 replace m0:=(hx.out.cell (p:=⟨M,0,none⟩) hMs hnM).trans m0
 replace m1:=(hx.out.cell (p:=⟨M,1,none⟩) hMs hnM).trans m1
 replace m2:=(hx.out.cell (p:=⟨M,2,none⟩) hMs hnM).trans m2
 replace m3:=(hx.out.cell (p:=⟨M,3,none⟩) hMs hnM).trans m3
 replace mz:∀ o,w2.frozen? ⟨M,o,none⟩=false:=λo=>(hx.out.frozen (p:=⟨M,o,none⟩) hMs hnM).trans (mz o)
 have hM2:M<w2.heap.size:=cell_lt m0
 have hkv':=hid hkv
 clear hcv hkv hMs hbs hEs c2 c3 c4 fz e0 e4 g1 hWc d4
 go_wp2
 refine bodyPost_ret (v:=.tuple #[wevZ 0 (some (.closing (readC c.data).1)),.bool true]) (by simp[results,results122,go_sem,wevZ,m0,m1,m2,m3]) rfl ?_
 exact⟨rfl,k'.out.tells z'.out.g hM'.out hkv'.out hx.out ((((Ch.setCell (T:=λi=>i=M) _ (a:=⟨M,0,none⟩) rfl _).trans (Ch.setCell (T:=λi=>i=M) _ (a:=⟨M,1,none⟩) rfl _)).trans (Ch.setCell (T:=λi=>i=M) _ (a:=⟨M,2,none⟩) rfl _)).trans (Ch.setCell (T:=λi=>i=M) _ (a:=⟨M,3,none⟩) rfl _))⟩
end
end Go.Proofs.YtadobobfjnmdlaaGreatDoor
namespace Go.Proofs.YtadobobfjnmdlaaGreatDoor
open Go.RowKit Go.Shelf
section
variable {b R J:Nat} {TJ:Nat→Prop} {W:World} {c:Wn}
theorem wctl_rest (k:WnS b R J TJ W c) (kk o:Int) (f:Bool) (n:Int) (t:List UInt8) (hk:(kk==2)=false) (hd:c.data.length≤4611686018427387900) :
  Calls prog 122 #[.pointer (some ⟨b,0,none⟩),.agg #[.int .i64 kk,.int .i64 o,.bool f,.int .i64 n,.string ⟨t.toArray⟩]] W (WcPost b R J TJ W
   (if c.control=8 then (if (readC c.data).2≠0 then wnFail { c with control:=0 } (readC c.data).2 else ({ c with control:=0,st:=3 },some (.closing (readC c.data).1)))
    else if c.control=9∧c.st=1 then ({ c with control:=0 },some (.ping c.data)) else ({ c with control:=0 },none))):=by
 by_cases h8:c.control=8
 ·rw[if_pos h8]
  by_cases hb:(readC c.data).2=0
  ·rw[if_neg (λe=>e hb)]
   exact wctl_close k kk o f n t hk h8 hd hb
  ·rw[if_pos hb]
   exact wctl_cbad k kk o f n t hk h8 hd hb
 ·rw[if_neg h8]
  by_cases h9:c.control=9∧c.st=1
  ·rw[if_pos h9]
   exact wctl_ping k kk o f n t hk h9.1 h9.2
  ·rw[if_neg h9]
   exact wctl_else k kk o f n t hk h8 h9
def fevLen:Fev→Nat
 | .piece s=>s.length
 | _=>0
theorem wcontrols_any (k:WnS b R J TJ W c) (e:Fev) (hd:c.data.length+fevLen e≤4611686018427387900) :
  Calls prog 122 #[.pointer (some ⟨b,0,none⟩),e.V] W (WcPost b R J TJ W (wnControl c e)):=by
 cases e with
 | piece s=>exact wctl_piece k s hd
 | begin' f o n=>exact wctl_rest k 1 o f n [] rfl hd
 | fin=>exact wctl_rest k 3 0 false 0 [] rfl hd
 | fail=>exact wctl_rest k 4 0 false 0 [] rfl hd
end
