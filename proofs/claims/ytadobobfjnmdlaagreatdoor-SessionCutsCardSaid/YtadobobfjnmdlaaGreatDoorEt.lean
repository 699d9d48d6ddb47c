/-
  The laws of sessions: numbers counted round; a talk's rounds. (Printed by mk_et.py.)
-/
import Derived.Test.YtadobobfjnmdlaaGreatDoorEm
set_option linter.unnecessarySimpa false
set_option linter.unusedVariables false
set_option linter.unusedSimpArgs false
set_option maxHeartbeats 16000000
set_option maxRecDepth 100000
open Go.Lib (hid)
open Go.Proofs.Tryz
namespace Go.Proofs.YtadobobfjnmdlaaGreatDoor
open Go.RowKit Go.Shelf
attribute [local go_sem] Oper.semAt_some
theorem turn_any (n:Int) (m:Nat) (W:World) (h0:0<m) (hm:m≤100000) (hn1:-9223372036854775808≤n) (hn2:n≤9223372036854775807) :
  Calls prog 35 #[.int .i64 n,.int .i64 m] W λe w'=>(∃ k:Nat,e=.returned (.int .i64 k)∧k<m)∧W=w':=by
 have z0:((m:Int)==0)=false:=beq_eq_false_iff_ne.2 (by omega)
 obtain⟨T,hT⟩:∃ T,n.tmod m=T:=⟨_,rfl⟩
 have hTb:-(m:Int)<T∧T<m:=by
  rw[←hT]
  exact⟨by have:=Int.lt_tmod_of_pos n (show (0:Int)<m by omega);omega,Int.tmod_lt_of_pos n (by omega)⟩
 have hTb1:-100001<T:=by omega
 have hTb2:T<100001:=by omega
 have t1:=hTb.1
 have t2:=hTb.2
 clear hTb
 by_cases hs:T<0
 ·have hp:=hid (show ∃ k:Nat,T+m=k∧k<m from⟨(T+m).toNat,by omega,by omega⟩)
  go_enter func35,ntmps35
  go_wp2
  go_ret
  obtain⟨k,e,h⟩:=hp.out
  exact⟨⟨k,by rw[e];rfl,h⟩,rfl⟩
 ·have hp:=hid (show ∃ k:Nat,T=k∧k<m from⟨T.toNat,by omega,by omega⟩)
  go_enter func35,ntmps35
  go_wp2
  go_ret
  obtain⟨k,e,h⟩:=hp.out
  exact⟨⟨k,by rw[e];rfl,h⟩,rfl⟩
def evL (x:Nat×List UInt8):List Value:=[.int .i64 2,.int .i64 x.1,.string ⟨x.2.toArray⟩]
theorem infoEvent:(prog.info? 28).map (λi=>(i.zero,i.size,i.bytes))=some (some (.agg #[.int .i64 0,.int .i64 0,.string ⟨#[]⟩]),3,32):=by kernel_rfl
def OwnE (B:Nat) (W:World) (v:Value) (l:List (Nat×List UInt8)):Prop:=W.ownsRow B 28 3 v l.length (rcells evL l)
theorem OwnE.to {B:Nat} {W W':World} {v:Value} {l:List (Nat×List UInt8)} {S:Nat→Prop} (h:OwnE B W v l) (hc:Ch S W W') (hS:∀ k,v.ownBlock=some k→¬S k):OwnE B W' v l:=by
 obtain⟨h1,h2⟩:=h
 refine⟨h1,?_⟩
 rcases h2 with h2 | ⟨g,cap,cur,rfl,hb,hh,hn,hm,hcs,ht'⟩
 ·exact .inl h2
 ·exact .inr ⟨g,cap,cur,rfl,hb,hc.get hh (hS g rfl),hn,hm,hcs,ht'⟩
structure Tk (w:World) (kt kl ks b:Nat) (T:Nat→Prop) (s:Ss) (t:List UInt8) (l:List (Nat×List UInt8)) (W:World):Prop where
 n:SnL w b T s W
 ct:W.cell? ⟨kt,0,none⟩=some (.string ⟨t.toArray⟩)
 ft:W.frozen? ⟨kt,0,none⟩=false
 cl:∃ p cap,W.cell? ⟨kl,0,none⟩=some (.slice p l.length cap)∧OwnE w.heap.size W (.slice p l.length cap) l∧∀ k,(Value.slice p l.length cap).ownBlock=some k→¬T k∧k≠kt∧k≠kl∧k≠ks
 fl:W.frozen? ⟨kl,0,none⟩=false
 cs:W.cell? ⟨ks,0,none⟩=some (.pointer (some ⟨b,0,none⟩))
 ap:¬T kt∧¬T kl∧¬T ks
 ne:kt≠kl∧kt≠ks∧kl≠ks
 ge:w.heap.size≤kt∧w.heap.size≤kl∧w.heap.size≤ks
section
variable {w:World} {kt kl ks b:Nat} {T:Nat→Prop} {s:Ss} {t:List UInt8} {l:List (Nat×List UInt8)} {W:World}
theorem Tk.ln {s':Ss} {W':World} (h:Tk w kt kl ks b T s t l W) (p:LnPost w b T W s' W'):∃ T',Tk w kt kl ks b T' s' t l W':=by
 obtain⟨T',h',hc,hn⟩:=p
 obtain⟨p,cap,q1,q2,q3⟩:=h.cl
 have at_:∀ {k:Nat} {u:Value},¬T k→W.cell? ⟨k,0,none⟩=some u→W'.cell? ⟨k,0,none⟩=some u:=fun {k u} hk e=>(hc.cell (p:=⟨k,0,none⟩) (cell_lt e) hk).trans e
 have fz:∀ {k:Nat} {u:Value},¬T k→W.cell? ⟨k,0,none⟩=some u→W.frozen? ⟨k,0,none⟩=false→W'.frozen? ⟨k,0,none⟩=false:=fun {k u} hk e f=>(hc.frozen (p:=⟨k,0,none⟩) (cell_lt e) hk).trans f
 exact⟨T',h',at_ h.ap.1 h.ct,fz h.ap.1 h.ct h.ft,⟨p,cap,at_ h.ap.2.1 q1,q2.to hc (λk e=>(q3 k e).1),λk e=>⟨hn k (World.ownsRow.lt q2 k e).2 (q3 k e).1,(q3 k e).2⟩⟩,fz h.ap.2.1 q1 h.fl,at_ h.ap.2.2 h.cs,
  ⟨hn kt (cell_lt h.ct) h.ap.1,hn kl (cell_lt q1) h.ap.2.1,hn ks (cell_lt h.cs) h.ap.2.2⟩,h.ne,h.ge⟩
theorem Tk.grow {W':World} (h:Tk w kt kl ks b T s t l W) (g:Gr W W'):Tk w kt kl ks b T s t l W':=by
 have hc:=g.to_ch (λ_=>False)
 obtain⟨p,cap,q1,q2,q3⟩:=h.cl
 have fz:∀ {k:Nat} {u:Value},W.cell? ⟨k,0,none⟩=some u→W.frozen? ⟨k,0,none⟩=false→W'.frozen? ⟨k,0,none⟩=false:=fun {k u} e f=>(hc.frozen (p:=⟨k,0,none⟩) (cell_lt e) (λe=>e)).trans f
 exact⟨h.n.grow g,g.cell h.ct,fz h.ct h.ft,⟨p,cap,g.cell q1,q2.to hc (λ_ _ e=>e),q3⟩,fz q1 h.fl,g.cell h.cs,h.ap,h.ne,h.ge⟩
theorem Tk.text (h:Tk w kt kl ks b T s t l W) (u:List UInt8):Tk w kt kl ks b T s u l (W.setCell ⟨kt,0,none⟩ (.string ⟨u.toArray⟩)):=by
 have hc:Ch (λk=>k=kt) W (W.setCell ⟨kt,0,none⟩ (.string ⟨u.toArray⟩)):=Ch.putB W _
 obtain⟨p,cap,q1,q2,q3⟩:=h.cl
 obtain⟨n1,n2,n3⟩:=h.ne
 refine⟨h.n.ch hc (λk e=>by subst e;exact⟨h.ap.1,h.ge.1⟩),?_,?_,⟨p,cap,(hc.cell (p:=⟨kl,0,none⟩) (cell_lt q1) (λe=>n1 e.symm)).trans q1,q2.to hc (λk e=>(q3 k e).2.1),q3⟩,(hc.frozen (p:=⟨kl,0,none⟩) (cell_lt q1) (λe=>n1 e.symm)).trans h.fl,(hc.cell (p:=⟨ks,0,none⟩) (cell_lt h.cs) (λe=>n2 e.symm)).trans h.cs,h.ap,h.ne,h.ge⟩
 ·exact World.cell?_setCell_same _ _ _ h.ct
 ·rw[World.frozen?_setCell];exact h.ft
theorem Tk.said {W3:World} {o:Obj} {p2:Option Addr} {cap2:Nat} {v:Value} {x:Nat×List UInt8} (h:Tk w kt kl ks b T s t l W) (hv:W.cell? ⟨kl,0,none⟩=some v) (hown:W3.ownsRow w.heap.size 28 3 (.slice p2 (l.length+1) cap2) (l.length+1) (rcells evL l++evL x))
  (hg:(W.alloc o).grownBy W3 v.ownBlock) (hat:(Value.slice p2 (l.length+1) cap2).ownBlock=v.ownBlock∨(Value.slice p2 (l.length+1) cap2).ownBlock=some (W.heap.size+1)) :
  Tk w kt kl ks b T s t (l++[x]) (W3.setCell ⟨kl,0,none⟩ (.slice p2 (l.length+1) cap2)):=by
 obtain⟨p,cap,q1,q2,q3⟩:=h.cl
 rw[q1] at hv
 cases hv
 have hlen:(l++[x]).length=l.length+1:=by rw[List.length_append];rfl
 have hc0:Ch (λk=>(Value.slice p l.length cap).ownBlock=some k) W W3:=(Ch.alloc _ W o).trans (Ch.of_grown hg)
 have hcA:Ch (λk=>(Value.slice p l.length cap).ownBlock=some k∨k=kl) W (W3.setCell ⟨kl,0,none⟩ (.slice p2 (l.length+1) cap2)):=(hc0.mono (λ_ e=>.inl e)).trans ((Ch.putB W3 _).mono (λ_ e=>.inr e))
 obtain⟨n1,n2,n3⟩:=h.ne
 have row:OwnE w.heap.size W3 (.slice p2 (l++[x]).length cap2) (l++[x]):=by
  unfold OwnE
  rw[hlen,rcells_app,rcells_one1]
  exact hown
 have k1:W3.cell? ⟨kl,0,none⟩=some (.slice p l.length cap):=(hc0.cell (p:=⟨kl,0,none⟩) (cell_lt q1) (λe=>(q3 kl e).2.2.1 rfl)).trans q1
 have k2:W3.frozen? ⟨kl,0,none⟩=false:=(hc0.frozen (p:=⟨kl,0,none⟩) (cell_lt q1) (λe=>(q3 kl e).2.2.1 rfl)).trans h.fl
 have apart:∀ k,(Value.slice p2 (l.length+1) cap2).ownBlock=some k→¬T k∧k≠kt∧k≠kl∧k≠ks:=λk e=>by
  rcases hat with hat | hat
  ·exact q3 k (hat▸e)
  ·rw[hat] at e
   cases e
   have a1:=cell_lt h.ct
   have a2:=cell_lt q1
   have a3:=cell_lt h.cs
   dsimp only at a1 a2 a3
   exact⟨λe=>by have:=h.n.lt _ e;omega,by omega,by omega,by omega⟩
 refine⟨h.n.ch hcA (λk e=>?_),?_,?_,⟨p2,cap2,?_,?_,?_⟩,?_,?_,h.ap,h.ne,h.ge⟩
 ·rcases e with e | e
  ·exact⟨(q3 k e).1,(World.ownsRow.lt q2 k e).1⟩
  ·subst e;exact⟨h.ap.2.1,h.ge.2.1⟩
 ·exact (hcA.cell (p:=⟨kt,0,none⟩) (cell_lt h.ct) (λe=>e.elim (λe=>(q3 kt e).2.1 rfl) n1)).trans h.ct
 ·exact (hcA.frozen (p:=⟨kt,0,none⟩) (cell_lt h.ct) (λe=>e.elim (λe=>(q3 kt e).2.1 rfl) n1)).trans h.ft
 ·rw[hlen];exact World.cell?_setCell_same _ _ _ k1
 ·refine row.to (S:=λk=>k=kl) (Ch.putB W3 _) (λk e=>?_)
  rw[hlen] at e
  exact (apart k e).2.2.1
 ·rw[hlen];exact apart
 ·rw[World.frozen?_setCell];exact k2
 ·exact (hcA.cell (p:=⟨ks,0,none⟩) (cell_lt h.cs) (λe=>e.elim (λe=>(q3 ks e).2.2.2 rfl) (λe=>n3 e.symm))).trans h.cs
end
theorem Runs.keeps {n:Nat} {s sf:Ss} {t:List UInt8} {l:List (Nat×List UInt8)} {m:Nat} (h:Runs serveH s t l m sf) (hn:n≤100000):Sok s→SsB n s→RepsB s→Sok sf∧SsB n sf∧RepsB sf∧t.length≤m*3000000000000∧l.length≤m:=by
 induction h with
 | stop h1 h2=>exact λa b c=>⟨a.next.out,b.next.out,(c.next b hn).out,Nat.zero_le _,Nat.zero_le _⟩
 | @go s t l m sf hg hk ih =>
  intro a b c
  obtain⟨i1,i2,i3,i4,i5⟩:=ih a.next.out b.next.out (c.next b hn).out
  have ho:=out_le (c.next b hn) (SsB.next (H:=serveH) b) hn
  refine⟨i1,i2,i3,?_,?_⟩
  ·rw[List.length_append,Nat.succ_mul];omega
  ·have:(saidS (ssNext serveH s).2).length≤1:=by
    unfold saidS
    split
    ·exact Nat.le_refl _
    ·exact Nat.zero_le _
   rw[List.length_append];omega
def TalkRel (w:World) (kt kl ks b n:Nat) (tf:List UInt8) (lf:List (Nat×List UInt8)) (sf:Ss) (i:Value) (wr:World):Prop :=
 ∃ (k m:Nat) (T:Nat→Prop) (s:Ss) (t t2:List UInt8) (l l2:List (Nat×List UInt8)),i=.int .i64 k∧k+m≤3990∧Tk w kt kl ks b T s t l wr∧Sok s∧SsB n s∧Runs serveH s t2 l2 m sf∧t++t2=tf∧l++l2=lf
theorem talk1_any {w W:World} {kt kl ks b n m:Nat} {T:Nat→Prop} {s sf:Ss} {t t2:List UInt8} {l l2:List (Nat×List UInt8)} (hG:G w) (h:Tk w kt kl ks b T s t l W) (hS:Sok s) (hB:SsB n s) (hn:n≤90000) (hr:Runs serveH s t2 l2 m sf) (hm:m≤3990)
  (ht:(t++t2).length≤1000000000000000000) (hl:(l++l2).length≤1000000) :
  Calls prog 34 #[.pointer (some ⟨ks,0,none⟩),.pointer (some ⟨kl,0,none⟩),.pointer (some ⟨kt,0,none⟩)] W λe w'=>e=.returned (.tuple #[])∧∃ T',Tk w kt kl ks b T' sf (t++t2) (l++l2) w':=by
 have hst:=hid (show TalkRel w kt kl ks b n (t++t2) (l++l2) sf (.int .i64 ((0:Nat):Int)) W from⟨0,m,T,s,t,t2,l,l2,rfl,by omega,h,hS,hB,hr,rfl,rfl⟩)
 obtain⟨tf,htf⟩:∃ x,t++t2=x:=⟨_,rfl⟩
 obtain⟨lf,hlf⟩:∃ x,l++l2=x:=⟨_,rfl⟩
 rw[htf] at hst ht ⊢
 rw[hlf] at hst hl ⊢
 have hG':=hid hG
 have hn':=hid hn
 have ht':=hid ht
 have hl':=hid hl
 obtain⟨i0,hi,hz0,hz1,hz2⟩:=info_parts infoEvent
 clear hG h hS hB hr hm htf hlf ht hl hn t t2 l l2 s m T
 go_enter func34,ntmps34
 go_upto_region 1 with (fail)
 go_loopw [3] (λi wr=>TalkRel w kt kl ks b n tf lf sf i wr) (λi _=>4000 - (intOf i).toNat)
 case atStart=>exact hst.out
 case round =>
  clear hst
  obtain⟨k,m,T,s,t,t2,l,l2,rfl,hkm,h,hS,hB,hr,htt,hll⟩:=hrel
  have hkI:(k:Int)<4000:=by omega
  have hnx:=lsn_next h.n hG'.out hB hS hn'.out
  have hB1:SsB n (ssNext serveH s).1:=hB.next
  have hS1:Sok (ssNext serveH s).1:=hS.next
  have hou:=λT W (h:SnL w b T (ssNext serveH s).1 W)=>lsn_out h hB1 hS1 hn'.out
  have hS2:Sok (ssOut (ssNext serveH s).1).1:=hS1.out
  have hB2:SsB n (ssOut (ssNext serveH s).1).1:=hB1.out
  have cs:=h.cs
  have hh:=hid h
  clear h hS hB hB1 hS1
  cases hr with
  | stop g1 g2 =>
   rw[g1] at hnx
   rw[g2] at hou
   clear g1 g2
   obtain⟨s1,hs1⟩:∃ x,(ssNext serveH s).1=x:=⟨_,rfl⟩
   rw[hs1] at hnx hou hS2 hB2
   obtain⟨s2,hs2⟩:∃ x,(ssOut s1).1=x:=⟨_,rfl⟩
   rw[hs2] at hou hS2 hB2
   have hs1h:=hid hs1
   have hs2h:=hid hs2
   clear hs1 hs2
   unfold sevO at hnx
   dsimp only[Option.isSome] at hnx
   unfold outV at hou
   dsimp only at hou
   have hnx:=hid hnx
   have hou:=hid hou
   have hS2:=hid hS2
   have hB2:=hid hB2
   have hfin:=hid (show ∀ T9 W9,Tk w kt kl ks b T9 s2 t l W9→Tk w kt kl ks b T9 s2 tf lf W9 from λT9 W9 h=>by subst htt hll;rw[List.append_nil,List.append_nil];exact h)
   have hN1:=hid (show t.length+0≤1000000000000000000 by have h1:=ht'.out;rw[←htt] at h1;simp[toldS,List.length_append] at h1;omega)
   have hL1:=hid (show l.length+0≤1000000 by have h1:=hl'.out;rw[←hll] at h1;simp[saidS,List.length_append] at h1;omega)
   clear htt hll hS2 hB2
   go_wp2_with fail
   refine hnx.out.mono ?_
   rintro e w1⟨rfl,hp⟩
   obtain⟨T1,h1⟩:=hh.out.ln hp
   have g1:=hid (Gr.alloc w1 (.cells #[.int .i64 0,.int .i64 0,.string ⟨#[]⟩] 28))
   have h1s:=hid h1
   clear hp h1 hnx cs hh
   go_upto_region 4 with (fail)
   have h2:=h1s.out.grow g1.out
   have e0:=cell_new7 w1 [.int .i64 0,.int .i64 0,.string ⟨#[]⟩] 28 0 _ rfl
   have e1:=cell_new7 w1 [.int .i64 0,.int .i64 0,.string ⟨#[]⟩] 28 1 _ rfl
   have e2:=cell_new7 w1 [.int .i64 0,.int .i64 0,.string ⟨#[]⟩] 28 2 _ rfl
   obtain⟨w2,hw2⟩:∃ w2,w1.alloc (.cells #[.int .i64 0,.int .i64 0,.string ⟨#[]⟩] 28)=w2:=⟨_,rfl⟩
   rw[hw2] at h2 e0 e1 e2
   try rw[hw2]
   obtain⟨xb,hxb⟩:∃ xb,w1.heap.size=xb:=⟨_,rfl⟩
   try rw[hxb] at e0 e1 e2
   try rw[hxb]
   have h2s:=hid h2
   have h4:=h2s
   clear h2 g1 h1s hw2 hxb hi hz0 hz1 hz2
   go_upto_region 6 with (fail)
   have cs4:=h4.out.cs
   go_wp2_with fail
   refine (hou.out _ _ h4.out.n).mono ?_
   rintro e w5⟨rfl,hp5⟩
   obtain⟨T5,h5⟩:=h4.out.ln hp5
   have h5s:=hid h5
   have ct:=h5.ct
   have ft:=h5.ft
   have hcat:(⟨t.toArray⟩:ByteArray)++⟨#[]⟩=⟨t.toArray⟩:=(cat_mk t []).trans (by rw[List.append_nil])
   have hlen:¬9223372036854775807<t.length:=by have:=hN1.out;omega
   have h6:=hid (h5.text t)
   clear hp5 h5 hou h4 cs4 h2s
   go_wp2
   refine bodyPost_ret (results_none rfl _ _ _) rfl ?_
   refine⟨rfl,T5,?_⟩
   have hz:=hfin.out _ _ h6.out
   rw[←hs2h.out,←hs1h.out] at hz
   exact hz
  | @go _ t3 l3 m _ hg hr =>
   obtain⟨ov,hov⟩:∃ x,(ssOut (ssNext serveH s).1).2=x:=⟨_,rfl⟩
   obtain⟨ev,hev⟩:∃ x,(ssNext serveH s).2=x:=⟨_,rfl⟩
   rw[hov] at hg hou htt
   rw[hev] at hg hnx hll
   clear hov hev
   obtain⟨s1,hs1⟩:∃ x,(ssNext serveH s).1=x:=⟨_,rfl⟩
   rw[hs1] at hnx hou hS2 hB2 hr
   obtain⟨s2,hs2⟩:∃ x,(ssOut s1).1=x:=⟨_,rfl⟩
   rw[hs2] at hou hS2 hB2 hr
   clear hs1 hs2
   cases ev with
   | none =>
    cases ov with
    | none =>
     exact absurd hg (by simp)
    | some yy =>
     obtain⟨y,en⟩:=yy
     clear hg
     unfold sevO at hnx
     dsimp only[Option.isSome] at hnx
     unfold outV at hou
     dsimp only at hou
     have hnx:=hid hnx
     have hou:=hid hou
     have hS2:=hid hS2
     have hB2:=hid hB2
     have hfin:=hid (show ∀ T9 W9,Tk w kt kl ks b T9 s2 (t++y) l W9→TalkRel w kt kl ks b n tf lf sf (.int .i64 ((k+1:Nat):Int)) W9 from λT9 W9 h=>⟨k+1,m,T9,s2,_,_,_,_,rfl,by omega,h,hS2.out,hB2.out,hr,by rw[←htt];simp[toldS],by rw[←hll];simp[saidS]⟩)
     have hN1:=hid (show t.length+y.length≤1000000000000000000 by have h1:=ht'.out;rw[←htt] at h1;simp[toldS,List.length_append] at h1;omega)
     have hL1:=hid (show l.length+0≤1000000 by have h1:=hl'.out;rw[←hll] at h1;simp[saidS,List.length_append] at h1;omega)
     clear hr htt hll hS2 hB2
     go_wp2_with fail
     refine hnx.out.mono ?_
     rintro e w1⟨rfl,hp⟩
     obtain⟨T1,h1⟩:=hh.out.ln hp
     have g1:=hid (Gr.alloc w1 (.cells #[.int .i64 0,.int .i64 0,.string ⟨#[]⟩] 28))
     have h1s:=hid h1
     clear hp h1 hnx cs hh
     go_upto_region 4 with (fail)
     have h2:=h1s.out.grow g1.out
     have e0:=cell_new7 w1 [.int .i64 0,.int .i64 0,.string ⟨#[]⟩] 28 0 _ rfl
     have e1:=cell_new7 w1 [.int .i64 0,.int .i64 0,.string ⟨#[]⟩] 28 1 _ rfl
     have e2:=cell_new7 w1 [.int .i64 0,.int .i64 0,.string ⟨#[]⟩] 28 2 _ rfl
     obtain⟨w2,hw2⟩:∃ w2,w1.alloc (.cells #[.int .i64 0,.int .i64 0,.string ⟨#[]⟩] 28)=w2:=⟨_,rfl⟩
     rw[hw2] at h2 e0 e1 e2
     try rw[hw2]
     obtain⟨xb,hxb⟩:∃ xb,w1.heap.size=xb:=⟨_,rfl⟩
     try rw[hxb] at e0 e1 e2
     try rw[hxb]
     have h2s:=hid h2
     have h4:=h2s
     clear h2 g1 h1s hw2 hxb hi hz0 hz1 hz2
     go_upto_region 6 with (fail)
     have cs4:=h4.out.cs
     go_wp2_with fail
     refine (hou.out _ _ h4.out.n).mono ?_
     rintro e w5⟨rfl,hp5⟩
     obtain⟨T5,h5⟩:=h4.out.ln hp5
     have h5s:=hid h5
     have ct:=h5.ct
     have ft:=h5.ft
     have hcat:(⟨t.toArray⟩:ByteArray)++⟨y.toArray⟩=⟨(t++y).toArray⟩:=cat_mk _ _
     have hlen:¬9223372036854775807<t.length+y.length:=by have:=hN1.out;omega
     have h6:=hid (h5.text (t++y))
     clear hp5 h5 hou h4 cs4 h2s
     go_wp2
     go_roundw
     case rel=>exact hfin.out _ _ h6.out
     case measure=>simp[intOf];omega
   | some ev =>
    cases ev with
    | upgraded =>
     cases ov with
     | none =>
      clear hg
      unfold sevO at hnx
      unfold sevV at hnx
      dsimp only[Option.isSome] at hnx
      unfold outV at hou
      dsimp only at hou
      have hnx:=hid hnx
      have hou:=hid hou
      have hS2:=hid hS2
      have hB2:=hid hB2
      have hfin:=hid (show ∀ T9 W9,Tk w kt kl ks b T9 s2 t l W9→TalkRel w kt kl ks b n tf lf sf (.int .i64 ((k+1:Nat):Int)) W9 from λT9 W9 h=>⟨k+1,m,T9,s2,_,_,_,_,rfl,by omega,h,hS2.out,hB2.out,hr,by rw[←htt];simp[toldS],by rw[←hll];simp[saidS]⟩)
      have hN1:=hid (show t.length+0≤1000000000000000000 by have h1:=ht'.out;rw[←htt] at h1;simp[toldS,List.length_append] at h1;omega)
      have hL1:=hid (show l.length+0≤1000000 by have h1:=hl'.out;rw[←hll] at h1;simp[saidS,List.length_append] at h1;omega)
      clear hr htt hll hS2 hB2
      go_wp2_with fail
      refine hnx.out.mono ?_
      rintro e w1⟨rfl,hp⟩
      obtain⟨T1,h1⟩:=hh.out.ln hp
      have g1:=hid (Gr.alloc w1 (.cells #[.int .i64 1,.int .i64 0,.string ⟨#[]⟩] 28))
      have h1s:=hid h1
      clear hp h1 hnx cs hh
      go_upto_region 4 with (fail)
      have h2:=h1s.out.grow g1.out
      have e0:=cell_new7 w1 [.int .i64 1,.int .i64 0,.string ⟨#[]⟩] 28 0 _ rfl
      have e1:=cell_new7 w1 [.int .i64 1,.int .i64 0,.string ⟨#[]⟩] 28 1 _ rfl
      have e2:=cell_new7 w1 [.int .i64 1,.int .i64 0,.string ⟨#[]⟩] 28 2 _ rfl
      obtain⟨w2,hw2⟩:∃ w2,w1.alloc (.cells #[.int .i64 1,.int .i64 0,.string ⟨#[]⟩] 28)=w2:=⟨_,rfl⟩
      rw[hw2] at h2 e0 e1 e2
      try rw[hw2]
      obtain⟨xb,hxb⟩:∃ xb,w1.heap.size=xb:=⟨_,rfl⟩
      try rw[hxb] at e0 e1 e2
      try rw[hxb]
      have h2s:=hid h2
      have h4:=h2s
      clear h2 g1 h1s hw2 hxb hi hz0 hz1 hz2
      go_upto_region 6 with (fail)
      have cs4:=h4.out.cs
      go_wp2_with fail
      refine (hou.out _ _ h4.out.n).mono ?_
      rintro e w5⟨rfl,hp5⟩
      obtain⟨T5,h5⟩:=h4.out.ln hp5
      have h5s:=hid h5
      have ct:=h5.ct
      have ft:=h5.ft
      have hcat:(⟨t.toArray⟩:ByteArray)++⟨#[]⟩=⟨t.toArray⟩:=(cat_mk t []).trans (by rw[List.append_nil])
      have hlen:¬9223372036854775807<t.length:=by have:=hN1.out;omega
      have h6:=hid (h5.text t)
      clear hp5 h5 hou h4 cs4 h2s
      go_wp2
      go_roundw
      case rel=>exact hfin.out _ _ h6.out
      case measure=>simp[intOf];omega
     | some yy =>
      obtain⟨y,en⟩:=yy
      clear hg
      unfold sevO at hnx
      unfold sevV at hnx
      dsimp only[Option.isSome] at hnx
      unfold outV at hou
      dsimp only at hou
      have hnx:=hid hnx
      have hou:=hid hou
      have hS2:=hid hS2
      have hB2:=hid hB2
      have hfin:=hid (show ∀ T9 W9,Tk w kt kl ks b T9 s2 (t++y) l W9→TalkRel w kt kl ks b n tf lf sf (.int .i64 ((k+1:Nat):Int)) W9 from λT9 W9 h=>⟨k+1,m,T9,s2,_,_,_,_,rfl,by omega,h,hS2.out,hB2.out,hr,by rw[←htt];simp[toldS],by rw[←hll];simp[saidS]⟩)
      have hN1:=hid (show t.length+y.length≤1000000000000000000 by have h1:=ht'.out;rw[←htt] at h1;simp[toldS,List.length_append] at h1;omega)
      have hL1:=hid (show l.length+0≤1000000 by have h1:=hl'.out;rw[←hll] at h1;simp[saidS,List.length_append] at h1;omega)
      clear hr htt hll hS2 hB2
      go_wp2_with fail
      refine hnx.out.mono ?_
      rintro e w1⟨rfl,hp⟩
      obtain⟨T1,h1⟩:=hh.out.ln hp
      have g1:=hid (Gr.alloc w1 (.cells #[.int .i64 1,.int .i64 0,.string ⟨#[]⟩] 28))
      have h1s:=hid h1
      clear hp h1 hnx cs hh
      go_upto_region 4 with (fail)
      have h2:=h1s.out.grow g1.out
      have e0:=cell_new7 w1 [.int .i64 1,.int .i64 0,.string ⟨#[]⟩] 28 0 _ rfl
      have e1:=cell_new7 w1 [.int .i64 1,.int .i64 0,.string ⟨#[]⟩] 28 1 _ rfl
      have e2:=cell_new7 w1 [.int .i64 1,.int .i64 0,.string ⟨#[]⟩] 28 2 _ rfl
      obtain⟨w2,hw2⟩:∃ w2,w1.alloc (.cells #[.int .i64 1,.int .i64 0,.string ⟨#[]⟩] 28)=w2:=⟨_,rfl⟩
      rw[hw2] at h2 e0 e1 e2
      try rw[hw2]
      obtain⟨xb,hxb⟩:∃ xb,w1.heap.size=xb:=⟨_,rfl⟩
      try rw[hxb] at e0 e1 e2
      try rw[hxb]
      have h2s:=hid h2
      have h4:=h2s
      clear h2 g1 h1s hw2 hxb hi hz0 hz1 hz2
      go_upto_region 6 with (fail)
      have cs4:=h4.out.cs
      go_wp2_with fail
      refine (hou.out _ _ h4.out.n).mono ?_
      rintro e w5⟨rfl,hp5⟩
      obtain⟨T5,h5⟩:=h4.out.ln hp5
      have h5s:=hid h5
      have ct:=h5.ct
      have ft:=h5.ft
      have hcat:(⟨t.toArray⟩:ByteArray)++⟨y.toArray⟩=⟨(t++y).toArray⟩:=cat_mk _ _
      have hlen:¬9223372036854775807<t.length+y.length:=by have:=hN1.out;omega
      have h6:=hid (h5.text (t++y))
      clear hp5 h5 hou h4 cs4 h2s
      go_wp2
      go_roundw
      case rel=>exact hfin.out _ _ h6.out
      case measure=>simp[intOf];omega
    | done =>
     cases ov with
     | none =>
      clear hg
      unfold sevO at hnx
      unfold sevV at hnx
      dsimp only[Option.isSome] at hnx
      unfold outV at hou
      dsimp only at hou
      have hnx:=hid hnx
      have hou:=hid hou
      have hS2:=hid hS2
      have hB2:=hid hB2
      have hfin:=hid (show ∀ T9 W9,Tk w kt kl ks b T9 s2 t l W9→TalkRel w kt kl ks b n tf lf sf (.int .i64 ((k+1:Nat):Int)) W9 from λT9 W9 h=>⟨k+1,m,T9,s2,_,_,_,_,rfl,by omega,h,hS2.out,hB2.out,hr,by rw[←htt];simp[toldS],by rw[←hll];simp[saidS]⟩)
      have hN1:=hid (show t.length+0≤1000000000000000000 by have h1:=ht'.out;rw[←htt] at h1;simp[toldS,List.length_append] at h1;omega)
      have hL1:=hid (show l.length+0≤1000000 by have h1:=hl'.out;rw[←hll] at h1;simp[saidS,List.length_append] at h1;omega)
      clear hr htt hll hS2 hB2
      go_wp2_with fail
      refine hnx.out.mono ?_
      rintro e w1⟨rfl,hp⟩
      obtain⟨T1,h1⟩:=hh.out.ln hp
      have g1:=hid (Gr.alloc w1 (.cells #[.int .i64 3,.int .i64 0,.string ⟨#[]⟩] 28))
      have h1s:=hid h1
      clear hp h1 hnx cs hh
      go_upto_region 4 with (fail)
      have h2:=h1s.out.grow g1.out
      have e0:=cell_new7 w1 [.int .i64 3,.int .i64 0,.string ⟨#[]⟩] 28 0 _ rfl
      have e1:=cell_new7 w1 [.int .i64 3,.int .i64 0,.string ⟨#[]⟩] 28 1 _ rfl
      have e2:=cell_new7 w1 [.int .i64 3,.int .i64 0,.string ⟨#[]⟩] 28 2 _ rfl
      obtain⟨w2,hw2⟩:∃ w2,w1.alloc (.cells #[.int .i64 3,.int .i64 0,.string ⟨#[]⟩] 28)=w2:=⟨_,rfl⟩
      rw[hw2] at h2 e0 e1 e2
      try rw[hw2]
      obtain⟨xb,hxb⟩:∃ xb,w1.heap.size=xb:=⟨_,rfl⟩
      try rw[hxb] at e0 e1 e2
      try rw[hxb]
      have h2s:=hid h2
      have h4:=h2s
      clear h2 g1 h1s hw2 hxb hi hz0 hz1 hz2
      go_upto_region 6 with (fail)
      have cs4:=h4.out.cs
      go_wp2_with fail
      refine (hou.out _ _ h4.out.n).mono ?_
      rintro e w5⟨rfl,hp5⟩
      obtain⟨T5,h5⟩:=h4.out.ln hp5
      have h5s:=hid h5
      have ct:=h5.ct
      have ft:=h5.ft
      have hcat:(⟨t.toArray⟩:ByteArray)++⟨#[]⟩=⟨t.toArray⟩:=(cat_mk t []).trans (by rw[List.append_nil])
      have hlen:¬9223372036854775807<t.length:=by have:=hN1.out;omega
      have h6:=hid (h5.text t)
      clear hp5 h5 hou h4 cs4 h2s
      go_wp2
      go_roundw
      case rel=>exact hfin.out _ _ h6.out
      case measure=>simp[intOf];omega
     | some yy =>
      obtain⟨y,en⟩:=yy
      clear hg
      unfold sevO at hnx
      unfold sevV at hnx
      dsimp only[Option.isSome] at hnx
      unfold outV at hou
      dsimp only at hou
      have hnx:=hid hnx
      have hou:=hid hou
      have hS2:=hid hS2
      have hB2:=hid hB2
      have hfin:=hid (show ∀ T9 W9,Tk w kt kl ks b T9 s2 (t++y) l W9→TalkRel w kt kl ks b n tf lf sf (.int .i64 ((k+1:Nat):Int)) W9 from λT9 W9 h=>⟨k+1,m,T9,s2,_,_,_,_,rfl,by omega,h,hS2.out,hB2.out,hr,by rw[←htt];simp[toldS],by rw[←hll];simp[saidS]⟩)
      have hN1:=hid (show t.length+y.length≤1000000000000000000 by have h1:=ht'.out;rw[←htt] at h1;simp[toldS,List.length_append] at h1;omega)
      have hL1:=hid (show l.length+0≤1000000 by have h1:=hl'.out;rw[←hll] at h1;simp[saidS,List.length_append] at h1;omega)
      clear hr htt hll hS2 hB2
      go_wp2_with fail
      refine hnx.out.mono ?_
      rintro e w1⟨rfl,hp⟩
      obtain⟨T1,h1⟩:=hh.out.ln hp
      have g1:=hid (Gr.alloc w1 (.cells #[.int .i64 3,.int .i64 0,.string ⟨#[]⟩] 28))
      have h1s:=hid h1
      clear hp h1 hnx cs hh
      go_upto_region 4 with (fail)
      have h2:=h1s.out.grow g1.out
      have e0:=cell_new7 w1 [.int .i64 3,.int .i64 0,.string ⟨#[]⟩] 28 0 _ rfl
      have e1:=cell_new7 w1 [.int .i64 3,.int .i64 0,.string ⟨#[]⟩] 28 1 _ rfl
      have e2:=cell_new7 w1 [.int .i64 3,.int .i64 0,.string ⟨#[]⟩] 28 2 _ rfl
      obtain⟨w2,hw2⟩:∃ w2,w1.alloc (.cells #[.int .i64 3,.int .i64 0,.string ⟨#[]⟩] 28)=w2:=⟨_,rfl⟩
      rw[hw2] at h2 e0 e1 e2
      try rw[hw2]
      obtain⟨xb,hxb⟩:∃ xb,w1.heap.size=xb:=⟨_,rfl⟩
      try rw[hxb] at e0 e1 e2
      try rw[hxb]
      have h2s:=hid h2
      have h4:=h2s
      clear h2 g1 h1s hw2 hxb hi hz0 hz1 hz2
      go_upto_region 6 with (fail)
      have cs4:=h4.out.cs
      go_wp2_with fail
      refine (hou.out _ _ h4.out.n).mono ?_
      rintro e w5⟨rfl,hp5⟩
      obtain⟨T5,h5⟩:=h4.out.ln hp5
      have h5s:=hid h5
      have ct:=h5.ct
      have ft:=h5.ft
      have hcat:(⟨t.toArray⟩:ByteArray)++⟨y.toArray⟩=⟨(t++y).toArray⟩:=cat_mk _ _
      have hlen:¬9223372036854775807<t.length+y.length:=by have:=hN1.out;omega
      have h6:=hid (h5.text (t++y))
      clear hp5 h5 hou h4 cs4 h2s
      go_wp2
      go_roundw
      case rel=>exact hfin.out _ _ h6.out
      case measure=>simp[intOf];omega
    | said op x =>
     cases ov with
     | none =>
      clear hg
      unfold sevO at hnx
      unfold sevV at hnx
      dsimp only[Option.isSome] at hnx
      unfold outV at hou
      dsimp only at hou
      have hnx:=hid hnx
      have hou:=hid hou
      have hS2:=hid hS2
      have hB2:=hid hB2
      have hfin:=hid (show ∀ T9 W9,Tk w kt kl ks b T9 s2 t (l++[(op,x)]) W9→TalkRel w kt kl ks b n tf lf sf (.int .i64 ((k+1:Nat):Int)) W9 from λT9 W9 h=>⟨k+1,m,T9,s2,_,_,_,_,rfl,by omega,h,hS2.out,hB2.out,hr,by rw[←htt];simp[toldS],by rw[←hll];simp[saidS]⟩)
      have hN1:=hid (show t.length+0≤1000000000000000000 by have h1:=ht'.out;rw[←htt] at h1;simp[toldS,List.length_append] at h1;omega)
      have hL1:=hid (show l.length+1≤1000000 by have h1:=hl'.out;rw[←hll] at h1;simp[saidS,List.length_append] at h1;omega)
      clear hr htt hll hS2 hB2
      go_wp2_with fail
      refine hnx.out.mono ?_
      rintro e w1⟨rfl,hp⟩
      obtain⟨T1,h1⟩:=hh.out.ln hp
      have g1:=hid (Gr.alloc w1 (.cells #[.int .i64 2,.int .i64 op,.string ⟨x.toArray⟩] 28))
      have h1s:=hid h1
      clear hp h1 hnx cs hh
      go_upto_region 4 with (fail)
      have h2:=h1s.out.grow g1.out
      have e0:=cell_new7 w1 [.int .i64 2,.int .i64 op,.string ⟨x.toArray⟩] 28 0 _ rfl
      have e1:=cell_new7 w1 [.int .i64 2,.int .i64 op,.string ⟨x.toArray⟩] 28 1 _ rfl
      have e2:=cell_new7 w1 [.int .i64 2,.int .i64 op,.string ⟨x.toArray⟩] 28 2 _ rfl
      obtain⟨w2,hw2⟩:∃ w2,w1.alloc (.cells #[.int .i64 2,.int .i64 op,.string ⟨x.toArray⟩] 28)=w2:=⟨_,rfl⟩
      rw[hw2] at h2 e0 e1 e2
      try rw[hw2]
      obtain⟨xb,hxb⟩:∃ xb,w1.heap.size=xb:=⟨_,rfl⟩
      try rw[hxb] at e0 e1 e2
      try rw[hxb]
      have h2s:=hid h2
      obtain⟨pv,cv,q1,q2,q3⟩:=h2.cl
      have q2s:=hid q2
      have q1s:=hid q1
      have flz:=h2.fl
      have hlt:=hid (show w.heap.size≤w2.heap.size from Nat.le_of_lt (Nat.lt_of_le_of_lt h2.ge.1 (cell_lt h2.ct)))
      have hkl:kl<w2.heap.size:=cell_lt q1
      clear h2 g1 h1s hw2 hxb q2 q3
      go_wp2_with (at_builtin;refine wpList_append_own_at _ rfl _ _ 24 rfl w.heap.size 28 i0 (.agg #[.int .i64 0,.int .i64 0,.string ⟨#[]⟩]) 3 32 underlying24 hi hz0 hz1 hz2 rfl (by decide) _ l.length (rcells evL l) rfl (World.ownsRow.alloc q2s.out _) ⟨w2.heap.size,0,none⟩ 1 1 [.int .i64 2,.int .i64 op,.string ⟨x.toArray⟩] rfl rfl ?qc2 (by simp[Value.oneCell']) ?qc4 ?qc5 ?qc6 ?_)
      case qc2=>exact cells_new _ [.int .i64 2,.int .i64 op,.string ⟨x.toArray⟩] _
      case qc4=>have:=hL1.out;unfold maxLen;omega
      case qc5=>have:=hL1.out;omega
      case qc6=>have:=hlt.out;simp;omega
      intro v3 w3 hown3 hgrow3 _ hat3
      obtain⟨p3,cap3,rfl⟩:=ownsRow_slice hown3
      have h4:=hid (h2s.out.said (x:=(op,x)) q1s.out hown3 hgrow3 hat3)
      have c3:=h4.out.cl
      have hc9:Ch (λk=>(Value.slice pv l.length cv).ownBlock=some k) w2 w3:=(Ch.alloc _ w2 _).trans (Ch.of_grown hgrow3)
      have hq9:=hc9.cell (p:=⟨kl,0,none⟩) hkl (λe=>by obtain⟨_,_,a1,_,a3⟩:=h2s.out.cl;rw[q1s.out] at a1;cases a1;exact (a3 kl e).2.2.1 rfl)
      have hf9:=(hc9.frozen (p:=⟨kl,0,none⟩) hkl (λe=>by obtain⟨_,_,a1,_,a3⟩:=h2s.out.cl;rw[q1s.out] at a1;cases a1;exact (a3 kl e).2.2.1 rfl)).trans flz
      replace hq9:=hq9.trans q1s.out
      clear hown3 hgrow3 hat3 q1 q1s q2s flz hkl hlt h2s e0 e1 e2 c3 hc9 hi hz0 hz1 hz2
      go_upto_region 6 with (fail)
      have cs4:=h4.out.cs
      obtain⟨w4,hw4⟩:∃ w4,(w3.setCell ⟨kl,0,none⟩ (.slice p3 (l.length+1) cap3))=w4:=⟨_,rfl⟩
      rw[hw4] at h4 cs4
      try rw[hw4]
      clear hw4 hq9 hf9
      go_wp2_with fail
      refine (hou.out _ _ h4.out.n).mono ?_
      rintro e w5⟨rfl,hp5⟩
      obtain⟨T5,h5⟩:=h4.out.ln hp5
      have h5s:=hid h5
      have ct:=h5.ct
      have ft:=h5.ft
      have hcat:(⟨t.toArray⟩:ByteArray)++⟨#[]⟩=⟨t.toArray⟩:=(cat_mk t []).trans (by rw[List.append_nil])
      have hlen:¬9223372036854775807<t.length:=by have:=hN1.out;omega
      have h6:=hid (h5.text t)
      clear hp5 h5 hou h4 cs4
      go_wp2
      go_roundw
      case rel=>exact hfin.out _ _ h6.out
      case measure=>simp[intOf];omega
     | some yy =>
      obtain⟨y,en⟩:=yy
      clear hg
      unfold sevO at hnx
      unfold sevV at hnx
      dsimp only[Option.isSome] at hnx
      unfold outV at hou
      dsimp only at hou
      have hnx:=hid hnx
      have hou:=hid hou
      have hS2:=hid hS2
      have hB2:=hid hB2
      have hfin:=hid (show ∀ T9 W9,Tk w kt kl ks b T9 s2 (t++y) (l++[(op,x)]) W9→TalkRel w kt kl ks b n tf lf sf (.int .i64 ((k+1:Nat):Int)) W9 from λT9 W9 h=>⟨k+1,m,T9,s2,_,_,_,_,rfl,by omega,h,hS2.out,hB2.out,hr,by rw[←htt];simp[toldS],by rw[←hll];simp[saidS]⟩)
      have hN1:=hid (show t.length+y.length≤1000000000000000000 by have h1:=ht'.out;rw[←htt] at h1;simp[toldS,List.length_append] at h1;omega)
      have hL1:=hid (show l.length+1≤1000000 by have h1:=hl'.out;rw[←hll] at h1;simp[saidS,List.length_append] at h1;omega)
      clear hr htt hll hS2 hB2
      go_wp2_with fail
      refine hnx.out.mono ?_
      rintro e w1⟨rfl,hp⟩
      obtain⟨T1,h1⟩:=hh.out.ln hp
      have g1:=hid (Gr.alloc w1 (.cells #[.int .i64 2,.int .i64 op,.string ⟨x.toArray⟩] 28))
      have h1s:=hid h1
      clear hp h1 hnx cs hh
      go_upto_region 4 with (fail)
      have h2:=h1s.out.grow g1.out
      have e0:=cell_new7 w1 [.int .i64 2,.int .i64 op,.string ⟨x.toArray⟩] 28 0 _ rfl
      have e1:=cell_new7 w1 [.int .i64 2,.int .i64 op,.string ⟨x.toArray⟩] 28 1 _ rfl
      have e2:=cell_new7 w1 [.int .i64 2,.int .i64 op,.string ⟨x.toArray⟩] 28 2 _ rfl
      obtain⟨w2,hw2⟩:∃ w2,w1.alloc (.cells #[.int .i64 2,.int .i64 op,.string ⟨x.toArray⟩] 28)=w2:=⟨_,rfl⟩
      rw[hw2] at h2 e0 e1 e2
      try rw[hw2]
      obtain⟨xb,hxb⟩:∃ xb,w1.heap.size=xb:=⟨_,rfl⟩
      try rw[hxb] at e0 e1 e2
      try rw[hxb]
      have h2s:=hid h2
      obtain⟨pv,cv,q1,q2,q3⟩:=h2.cl
      have q2s:=hid q2
      have q1s:=hid q1
      have flz:=h2.fl
      have hlt:=hid (show w.heap.size≤w2.heap.size from Nat.le_of_lt (Nat.lt_of_le_of_lt h2.ge.1 (cell_lt h2.ct)))
      have hkl:kl<w2.heap.size:=cell_lt q1
      clear h2 g1 h1s hw2 hxb q2 q3
      go_wp2_with (at_builtin;refine wpList_append_own_at _ rfl _ _ 24 rfl w.heap.size 28 i0 (.agg #[.int .i64 0,.int .i64 0,.string ⟨#[]⟩]) 3 32 underlying24 hi hz0 hz1 hz2 rfl (by decide) _ l.length (rcells evL l) rfl (World.ownsRow.alloc q2s.out _) ⟨w2.heap.size,0,none⟩ 1 1 [.int .i64 2,.int .i64 op,.string ⟨x.toArray⟩] rfl rfl ?qc2 (by simp[Value.oneCell']) ?qc4 ?qc5 ?qc6 ?_)
      case qc2=>exact cells_new _ [.int .i64 2,.int .i64 op,.string ⟨x.toArray⟩] _
      case qc4=>have:=hL1.out;unfold maxLen;omega
      case qc5=>have:=hL1.out;omega
      case qc6=>have:=hlt.out;simp;omega
      intro v3 w3 hown3 hgrow3 _ hat3
      obtain⟨p3,cap3,rfl⟩:=ownsRow_slice hown3
      have h4:=hid (h2s.out.said (x:=(op,x)) q1s.out hown3 hgrow3 hat3)
      have c3:=h4.out.cl
      have hc9:Ch (λk=>(Value.slice pv l.length cv).ownBlock=some k) w2 w3:=(Ch.alloc _ w2 _).trans (Ch.of_grown hgrow3)
      have hq9:=hc9.cell (p:=⟨kl,0,none⟩) hkl (λe=>by obtain⟨_,_,a1,_,a3⟩:=h2s.out.cl;rw[q1s.out] at a1;cases a1;exact (a3 kl e).2.2.1 rfl)
      have hf9:=(hc9.frozen (p:=⟨kl,0,none⟩) hkl (λe=>by obtain⟨_,_,a1,_,a3⟩:=h2s.out.cl;rw[q1s.out] at a1;cases a1;exact (a3 kl e).2.2.1 rfl)).trans flz
      replace hq9:=hq9.trans q1s.out
      clear hown3 hgrow3 hat3 q1 q1s q2s flz hkl hlt h2s e0 e1 e2 c3 hc9 hi hz0 hz1 hz2
      go_upto_region 6 with (fail)
      have cs4:=h4.out.cs
      obtain⟨w4,hw4⟩:∃ w4,(w3.setCell ⟨kl,0,none⟩ (.slice p3 (l.length+1) cap3))=w4:=⟨_,rfl⟩
      rw[hw4] at h4 cs4
      try rw[hw4]
      clear hw4 hq9 hf9
      go_wp2_with fail
      refine (hou.out _ _ h4.out.n).mono ?_
      rintro e w5⟨rfl,hp5⟩
      obtain⟨T5,h5⟩:=h4.out.ln hp5
      have h5s:=hid h5
      have ct:=h5.ct
      have ft:=h5.ft
      have hcat:(⟨t.toArray⟩:ByteArray)++⟨y.toArray⟩=⟨(t++y).toArray⟩:=cat_mk _ _
      have hlen:¬9223372036854775807<t.length+y.length:=by have:=hN1.out;omega
      have h6:=hid (h5.text (t++y))
      clear hp5 h5 hou h4 cs4
      go_wp2
      go_roundw
      case rel=>exact hfin.out _ _ h6.out
      case measure=>simp[intOf];omega
