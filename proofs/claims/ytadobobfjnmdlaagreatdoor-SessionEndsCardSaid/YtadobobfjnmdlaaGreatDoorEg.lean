/-
  A session in memory: the next request, what a socket says. (Printed by mk_eg.py.)
-/
import Derived.Test.YtadobobfjnmdlaaGreatDoorHd
set_option linter.unnecessarySimpa false
set_option linter.unusedVariables false
set_option linter.unusedSimpArgs false
set_option maxHeartbeats 16000000
set_option maxRecDepth 100000
open Go.Lib (hid)
namespace Go.Proofs.YtadobobfjnmdlaaGreatDoor
open Go.RowKit Go.Shelf
attribute [local go_sem] Oper.semAt_some
theorem sevV_agg (e:Sev):∃ (a c:Int) (t:ByteArray),sevV e=.agg #[.int .i64 a,.int .i64 c,.string t]:=by cases e <;> exact⟨_,_,_,rfl⟩
theorem reason_sm (c:Int):(reasonL c).length≤1000000:=by
 unfold reasonL
 repeat' split
 all_goals decide
theorem G.hi {T:Nat→Prop} {W W':World} (h:G W) (hi:Hi T) (hc:Ch T W W'):G W':=h.ch hc (fun g hg e=>absurd (hi g e) (by omega))
theorem RqB.sm {n:Nat} {r:Rq} (h:RqB n r) (hn:n≤100000):RqSm r:=⟨Nat.le_trans h.l (by decide),fun f hf=>⟨Nat.le_trans (h.f f hf).1 hn,Nat.le_trans (h.f f hf).2 hn⟩,Nat.le_trans h.m hn,Nat.le_trans h.p hn,Nat.le_trans h.q hn,Nat.le_trans h.b (by decide)⟩
theorem pqbad_at' {b:Nat} {hv:Value} {T:Nat→Prop} {W:World} {s:Ss} (h:SnAt b hv T W s):∃ pb,W.cell? ⟨b,3,none⟩=some (.pointer (some ⟨pb,0,none⟩))∧Calls Tryz.prog 69 #[.pointer (some ⟨pb,0,none⟩)] W fun e w'=>e=.returned (.int .i64 s.p.bad)∧W=w':=by
 obtain⟨⟨c,pb,bb,cv,h,hT⟩,hl⟩:=h
 exact⟨pb,h.c3,pqbad_at h.kp⟩
section
variable {b:Nat} {g:Nat} {lb:Array Value} {F T:Nat→Prop} {H:Rq→Rp} {W:World} {s:Ss}
theorem sn_asks (h:SnAt b (.func (.func g) #[] lb) T W s) (hG:G W) (hi:Hi T) (hH:Hnd g lb F H W) (hF:∀ k,F k→¬T k) (hlim:s.limit≤1099511627776) (hB:PsB 90000 s.p):Calls Tryz.prog 41 #[.pointer (some ⟨b,0,none⟩)] W fun e w'=>e=.returned (.tuple #[sevO (ssAsks H s).2,.bool (ssAsks H s).2.isSome])∧Pst (SnAt b (.func (.func g) #[] lb)) T W (ssAsks H s).1 w':=by
 have hl':=hid h.2
 obtain⟨⟨c,pb,bb,cv,h,hT⟩,hl⟩:=h
 obtain⟨W1,hW1⟩:∃ W1,W.alloc (.cells #[.int .i64 0,.int .i64 0,.string ⟨#[]⟩] 28)=W1:=⟨_,rfl⟩
 have g1:Gr W W1:=hW1▸Gr.alloc W _
 have hE1:=hid (show W.heap.size<W1.heap.size by rw[←hW1];simp)
 have e0:W1.cell? ⟨W.heap.size,0,none⟩=some (.int .i64 0):=by rw[←hW1];exact cell_new7 _ _ _ 0 _ rfl
 have e1:W1.cell? ⟨W.heap.size,1,none⟩=some (.int .i64 0):=by rw[←hW1];exact cell_new7 _ _ _ 1 _ rfl
 have e2:W1.cell? ⟨W.heap.size,2,none⟩=some (.string ⟨#[]⟩):=by rw[←hW1];exact cell_new7 _ _ _ 2 _ rfl
 have ez:∀ o,W1.frozen? ⟨W.heap.size,o,none⟩=false:=fun o=>by rw[←hW1];exact World.frozen?_alloc_at _ _ _ _ rfl
 have h1:=h.gr g1
 have hl1:=hid (fun k (e:T k)=>Nat.lt_of_lt_of_le (hl k e) (Below.size g1))
 have hG1:=hG.gr g1
 have hH1:=hH.gr g1
 have hn:=hid (pqnext_at hG1 h1.kp hB.sum)
 obtain⟨hB2,hr,hbad⟩:=hB.next
 have c3:=h1.c3
 have hT':=hid hT
 have g1':=hid g1
 have h1':=hid h1
 have hG1':=hid hG1
 have hH1':=hid hH1
 obtain⟨p',o,hpo⟩:∃ p' o,nextQ s.p=(p',o):=⟨_,_,rfl⟩
 have hq0:ssAsks H s=match ((p',o):Ps×Option Rq) with
   |(p,some r)=>((ssAnswers H { s with p:=p } r).1,some (ssAnswers H { s with p:=p } r).2)
   |(p,none)=>if p.bad=0 then ({ s with p:=p },none) else (ssPuts { s with p:=p } ⟨p.bad,[],reasonL p.bad⟩ false true,some .done):=by rw[←hpo];rfl
 rw[hpo] at hn hB2 hr hbad
 dsimp only at hn hB2 hr hbad
 have hq:=hid hq0
 have hr':=hid hr
 have hbad':=hid hbad
 have hB2':=hid hB2
 clear h hT hl hG hH hB hq0 hpo hr hbad hB2 g1 h1 hG1 hH1
 go_enter Tryz.func41,Tryz.ntmps41
 go_wp2_with (fail)
 refine hn.out.mono ?_
 rintro e w2 ⟨rv,rfl,hf,hp⟩
 try rw[hW1]
 have hf':=hid hf
 obtain⟨pf,capf,rfl,_⟩:=hf
 unfold Rq.V
 have h2:=h1'.out.setP hp
 have hpst:=hid (h2.pst hl1.out (hp.2.mono (fun k e=>hT'.out k (by rw[show c k=2 from e];decide))) (add_of hT'.out (Nat.le_refl _)))
 have hp':=hid hpst
 have hEX:W.heap.size<W1.heap.size:=cell_lt e0
 have hET:¬T (W.heap.size):=fun e=>by have:=hl'.out _ e;omega
 replace e0:=(hpst.out.2.cell (p:=⟨W.heap.size,0,none⟩) hEX hET).trans e0
 replace e1:=(hpst.out.2.cell (p:=⟨W.heap.size,1,none⟩) hEX hET).trans e1
 replace e2:=(hpst.out.2.cell (p:=⟨W.heap.size,2,none⟩) hEX hET).trans e2
 replace ez:∀ o,w2.frozen? ⟨W.heap.size,o,none⟩=false:=fun o=>(hpst.out.2.frozen (p:=⟨W.heap.size,o,none⟩) hEX hET).trans (ez o)
 have hEX':=hid hEX
 clear hEX
 clear h2 hp c3 hW1
 go_upto_region 2 with (fail)
 obtain⟨w3,hw3⟩:∃ w3,w2.alloc (.cells #[.string ⟨(rqO o).m.toArray⟩,.string ⟨(rqO o).p.toArray⟩,.string ⟨(rqO o).q.toArray⟩,.int .i64 (rqO o).v,.slice pf (rqO o).fs.length capf,.string ⟨(rqO o).b.toArray⟩,.bool (rqO o).c] 78)=w3:=⟨_,rfl⟩
 try rw[hw3]
 have g3:Gr w2 w3:=hw3▸Gr.alloc w2 _
 have hE2:W.heap.size<w2.heap.size:=cell_lt e0
 replace e0:=g3.cell e0
 replace e1:=g3.cell e1
 replace e2:=g3.cell e2
 replace ez:∀ o,w3.frozen? ⟨W.heap.size,o,none⟩=false:=fun o=>(Below.frozen g3 (p:=⟨W.heap.size,o,none⟩) hE2).trans (ez o)
 have hp3:=hid ((snKin b (.func (.func g) #[] lb)).behind hpst.out g3)
 have hf3:=hid (hf'.out.gr g3)
 have hG3:=hid ((hG1'.out.hi hi hpst.out.2).gr g3)
 have hH3:=hid ((hH1'.out.ch hpst.out.2 hF).gr g3)
 cases o with
 | some r =>
  have hrq:=(hr'.out r rfl).sm (by decide)
  have han:=hid (sn_answers hp3.out.1 hG3.out hH3.out r _ hf3.out hrq hlim hB2'.out.sum)
  unfold Rq.V at han
  have r0:w3.cell? ⟨w2.heap.size,0,none⟩=some (.string ⟨r.m.toArray⟩):=by rw[←hw3];exact cell_new7 _ _ _ 0 _ rfl
  have r1:w3.cell? ⟨w2.heap.size,1,none⟩=some (.string ⟨r.p.toArray⟩):=by rw[←hw3];exact cell_new7 _ _ _ 1 _ rfl
  have r2:w3.cell? ⟨w2.heap.size,2,none⟩=some (.string ⟨r.q.toArray⟩):=by rw[←hw3];exact cell_new7 _ _ _ 2 _ rfl
  have r3:w3.cell? ⟨w2.heap.size,3,none⟩=some (.int .i64 r.v):=by rw[←hw3];exact cell_new7 _ _ _ 3 _ rfl
  have r4:w3.cell? ⟨w2.heap.size,4,none⟩=some (.slice pf r.fs.length capf):=by rw[←hw3];exact cell_new7 _ _ _ 4 _ rfl
  have r5:w3.cell? ⟨w2.heap.size,5,none⟩=some (.string ⟨r.b.toArray⟩):=by rw[←hw3];exact cell_new7 _ _ _ 5 _ rfl
  have r6:w3.cell? ⟨w2.heap.size,6,none⟩=some (.bool r.c):=by rw[←hw3];exact cell_new7 _ _ _ 6 _ rfl
  have hq2:=hid (show ssAsks H s=((ssAnswers H { s with p:=p' } r).1,some (ssAnswers H { s with p:=p' } r).2) from hq.out)
  clear hw3 g3 hn
  go_wp2_with (fail)
  refine han.out.mono ?_
  rintro e w4 ⟨rfl,hp4⟩
  obtain⟨n0,n1,nt,hnv⟩:=sevV_agg (ssAnswers H { s with p:=p' } r).2
  rw[hnv]
  have hnv':=hid hnv
  have hp5:=hid ((snKin b (.func (.func g) #[] lb)).trans hp3.out hp4)
  clear hnv r0 r1 r2 r3 r4 r5 r6
  have hEX:W.heap.size<w3.heap.size:=cell_lt e0
  have hET:¬Add T W1 w3 (W.heap.size):=fun e=>by
   have:=hE1.out
   rcases e with e | e
   ·have:=hl'.out _ e;omega
   ·have:=e.1;omega
  replace e0:=(hp4.2.cell (p:=⟨W.heap.size,0,none⟩) hEX hET).trans e0
  replace e1:=(hp4.2.cell (p:=⟨W.heap.size,1,none⟩) hEX hET).trans e1
  replace e2:=(hp4.2.cell (p:=⟨W.heap.size,2,none⟩) hEX hET).trans e2
  replace ez:∀ o,w4.frozen? ⟨W.heap.size,o,none⟩=false:=fun o=>(hp4.2.frozen (p:=⟨W.heap.size,o,none⟩) hEX hET).trans (ez o)
  have hEX':=hid hEX
  clear hEX
  go_wp2
  refine bodyPost_ret (v:=.tuple #[.agg #[.int .i64 n0,.int .i64 n1,.string nt],.bool true]) (by simp[results,Tryz.results41,go_sem,sevV,sevO,e0,e1,e2]) rfl ?_
  rw[hq2.out]
  exact⟨by rw[←hnv'.out];rfl,kin_told (snKin b (.func (.func g) #[] lb)) hl'.out g1'.out hp5.out (ch3 w4 W.heap.size _ _ _) (fun k e=>⟨by rw[show k=W.heap.size from e];exact Nat.le_refl _,by rw[show k=W.heap.size from e];exact hE1.out⟩)⟩
 | none =>
  have hbd:=hid (pqbad_at' hp3.out.1)
  have hq1:ssAsks H s=if p'.bad=0 then ({ s with p:=p' },none) else (ssPuts { s with p:=p' } ⟨p'.bad,[],reasonL p'.bad⟩ false true,some .done):=hq.out
  have hb431:=hbad'.out rfl
  by_cases hz:p'.bad=0
  ·have hq2:=hid (hq1.trans (if_pos hz))
   rw[hz] at hbd
   clear hq1 hz hw3 g3 hn hb431
   obtain⟨pbx,k3,hbd⟩:=hbd.out
   have hbd:=hid hbd
   go_wp2_with (fail)
   refine hbd.out.mono ?_
   rintro e w4 ⟨rfl,rfl⟩
   go_wp2
   refine bodyPost_ret (v:=.tuple #[sevO none,.bool false]) (by simp[results,Tryz.results41,go_sem,sevV,sevO,e0,e1,e2]) rfl ?_
   rw[hq2.out]
   exact⟨rfl,kin_told (snKin b (.func (.func g) #[] lb)) hl'.out g1'.out hp3.out (ch3 w3 W.heap.size _ _ _) (fun k e=>⟨by rw[show k=W.heap.size from e];exact Nat.le_refl _,by rw[show k=W.heap.size from e];exact hE1.out⟩)⟩
  ·have hq2:=hid (hq1.trans (if_neg hz))
   have hzI:((p'.bad:Int)==0)=false:=beq_false_of_ne (by omega)
   have hpu:=hid (fun w (gw:Gr w3 w)=>sn_puts ((snKin b (.func (.func g) #[] lb)).gr hp3.out.1 gw) (hG3.out.gr gw) ⟨p'.bad,[],reasonL p'.bad⟩ (.slice none 0 0) (fieldsAt_none w 0) ⟨Nat.zero_le _,(fun f hf=>by cases hf),reason_sm _,(by dsimp only;omega),(by dsimp only;omega)⟩ false true)
   unfold Rp.V at hpu
   clear hq1 hz hw3 g3 hn hb431
   obtain⟨pbx,k3,hbd⟩:=hbd.out
   have hbd:=hid hbd
   have hre:=hid (reason_any (p'.bad:Int) w3)
   go_wp2_with (fail)
   refine hbd.out.mono ?_
   rintro e w4 ⟨rfl,rfl⟩
   go_wp2_with (fail)
   refine hre.out.mono ?_
   rintro e w4 ⟨rfl,rfl⟩
   go_wp2_with (fail)
   refine (hpu.out _ (Gr.refl _)).mono ?_
   rintro e w4 ⟨rfl,hp4⟩
   have hp5:=hid ((snKin b (.func (.func g) #[] lb)).trans hp3.out hp4)
   have hEX:W.heap.size<w3.heap.size:=cell_lt e0
   have hET:¬Add T W1 w3 (W.heap.size):=fun e=>by
    have:=hE1.out
    rcases e with e | e
    ·have:=hl'.out _ e;omega
    ·have:=e.1;omega
   replace e0:=(hp4.2.cell (p:=⟨W.heap.size,0,none⟩) hEX hET).trans e0
   replace e1:=(hp4.2.cell (p:=⟨W.heap.size,1,none⟩) hEX hET).trans e1
   replace e2:=(hp4.2.cell (p:=⟨W.heap.size,2,none⟩) hEX hET).trans e2
   replace ez:∀ o,w4.frozen? ⟨W.heap.size,o,none⟩=false:=fun o=>(hp4.2.frozen (p:=⟨W.heap.size,o,none⟩) hEX hET).trans (ez o)
   have hEX':=hid hEX
   clear hEX
   clear hp4
   go_wp2
   refine bodyPost_ret (v:=.tuple #[sevV .done,.bool true]) (by simp[results,Tryz.results41,go_sem,sevV,sevO,e0,e1,e2]) rfl ?_
   rw[hq2.out]
   exact⟨rfl,kin_told (snKin b (.func (.func g) #[] lb)) hl'.out g1'.out hp5.out (ch3 w4 W.heap.size _ _ _) (fun k e=>⟨by rw[show k=W.heap.size from e];exact Nat.le_refl _,by rw[show k=W.heap.size from e];exact hE1.out⟩)⟩
end
end Go.Proofs.YtadobobfjnmdlaaGreatDoor
namespace Go.Proofs.YtadobobfjnmdlaaGreatDoor
def codeW:Wev→Nat
 | .closing n=>n
 | .failing n=>n
 | _=>0
def pingW:Wev→Nat
 | .ping t=>t.length
 | _=>0
theorem jnFail_bad {j:Jn} {c:Nat} (h:j.bad≤1009) (hc:c≤1009):(jnFail j c).bad≤1009:=by
 unfold jnFail
 split
 ·exact hc
 ·exact h
theorem jnBegin_bad {j:Jn} (h:j.bad≤1009) (l:Bool) (o n:Nat):(jnBegin j l o n).bad≤1009:=by
 unfold jnBegin
 repeat' split
 all_goals first | exact h | exact jnFail_bad h (by decide)
theorem jnPiece_bad {j:Jn} (h:j.bad≤1009) (s:List UInt8):(jnPiece j s).bad≤1009:=by
 unfold jnPiece
 repeat' split
 all_goals first | exact h | exact jnFail_bad h (by decide)
theorem jnEnd_bad {j:Jn} (h:j.bad≤1009):(jnEnd j).1.bad≤1009:=by
 unfold jnEnd
 repeat' split
 all_goals first | exact h | exact jnFail_bad h (by decide)
theorem readC_code (s:List UInt8):(readC s).1≤65535∧(readC s).2≤1009:=by
 have h0:=(s.getD 0 0).toNat_lt
 have h1:=(s.getD 1 0).toNat_lt
 unfold readC
 repeat' split
 all_goals (refine⟨?_,?_⟩ <;> dsimp only <;> omega)
theorem wnTakes_codes {c:Wn} (h:c.j.bad≤1009) (e:Fev):(wnTakes c e).1.j.bad≤1009∧∀ x,(wnTakes c e).2=some x→codeW x≤65535∧pingW x≤c.data.length:=by
 have hr:=readC_code c.data
 have hb:=fun l o n=>jnBegin_bad h l o n
 have hp:=fun s=>jnPiece_bad h s
 have he:=jnEnd_bad h
 have none:∀ x,(none:Option Wev)=some x→codeW x≤65535∧pingW x≤c.data.length:=fun x e=>by cases e
 have fail:∀ n,n≤1009→∀ x,some (Wev.failing n)=some x→codeW x≤65535∧pingW x≤c.data.length:=fun n hn x e=>by cases e;exact⟨Nat.le_trans hn (by decide),Nat.zero_le _⟩
 have ctl:∀ e,(wnControl c e).1.j.bad≤1009∧∀ x,(wnControl c e).2=some x→codeW x≤65535∧pingW x≤c.data.length:=by
  intro e
  unfold wnControl
  split
  ·exact⟨h,none⟩
  ·split
   ·split
    ·exact⟨h,fail _ hr.2⟩
    ·exact⟨h,fun x e=>by cases e;exact⟨hr.1,Nat.zero_le _⟩⟩
   ·split
    ·exact⟨h,fun x e=>by cases e;exact⟨Nat.zero_le _,Nat.le_refl _⟩⟩
    ·exact⟨h,none⟩
 have join:∀ e,(wnJoin c e).1.j.bad≤1009∧∀ x,(wnJoin c e).2=some x→codeW x≤65535∧pingW x≤c.data.length:=by
  intro e
  unfold wnJoin
  cases e with
  | begin' l o n =>
   dsimp only
   split
   ·exact⟨hb l o n,fail _ (hb l o n)⟩
   ·exact⟨hb l o n,none⟩
  | piece s =>
   dsimp only
   split
   ·exact⟨hp s,fail _ (hp s)⟩
   ·exact⟨hp s,none⟩
  | fin =>
   dsimp only
   split
   ·exact⟨he,fail _ he⟩
   ·refine⟨he,fun x e=>?_⟩
    cases hq:(jnEnd c.j).2 with
    | none=>rw[hq] at e;cases e
    | some m=>rw[hq] at e;cases e;exact⟨Nat.zero_le _,Nat.zero_le _⟩
  | fail=>exact⟨h,none⟩
 unfold wnTakes
 cases e with
 | fail=>exact⟨h,fail _ (by decide)⟩
 | begin' l o n =>
  dsimp only
  split
  ·exact⟨h,none⟩
  ·split
   ·exact ctl _
   ·split
    ·exact⟨h,none⟩
    ·exact join _
 | piece s =>
  dsimp only
  split
  ·exact ctl _
  ·split
   ·exact⟨h,none⟩
   ·exact join _
 | fin =>
  dsimp only
  split
  ·exact ctl _
  ·split
   ·exact⟨h,none⟩
   ·exact join _
theorem wnGo_codes {n:Nat}:∀ (m:Nat) (c:Wn),WnB n c→c.j.bad≤1009→(wnGo m c).1.j.bad≤1009∧∀ x,(wnGo m c).2=some x→codeW x≤65535∧pingW x≤n
 | 0,c,_,h=>⟨h,fun x e=>by cases e⟩
 | m+1,c,hB,h=>by
  unfold wnGo
  split
  ·exact⟨h,fun x e=>by cases e⟩
  ·cases hn:frNext c.r with
   | mk r o =>
    cases o with
    | none=>exact⟨h,fun x e=>by cases e⟩
    | some e =>
     have hs:=hB.step hn
     have hc:=wnTakes_codes (c:={ c with r:=r }) h e
     have hd:c.data.length≤n:=by have:=hB.d;omega
     dsimp only
     split
     ·rename_i c' x hx
      rw[hx] at hc
      exact⟨hc.1,fun y ey=>by cases ey;exact⟨(hc.2 _ rfl).1,Nat.le_trans (hc.2 _ rfl).2 hd⟩⟩
     ·rename_i c' hx
      rw[hx] at hc hs
      exact wnGo_codes m c' hs.1 hc.1
structure WnC (n:Nat) (c:Wn):Prop where
 b:WnB n c
 j:c.j.bad≤1009
theorem wn0_c (limit:Nat):WnC 0 (wn0 limit):=⟨wn0_b limit,Nat.zero_le _⟩
theorem WnC.le {n m:Nat} {c:Wn} (h:WnC n c) (hm:n≤m):WnC m c:=⟨h.b.le hm,h.j⟩
theorem WnC.feed {n:Nat} {c:Wn} (h:WnC n c) (b:List UInt8):WnC (n+b.length) (wnFeed c b):=⟨h.b.feed b,by
 have:=h.j
 unfold wnFeed
 split <;> exact this⟩
theorem WnC.over {n:Nat} {c:Wn} (h:WnC n c):WnC n (wnOver c):=⟨h.b.over,h.j⟩
theorem WnC.shut {n:Nat} {c:Wn} (h:WnC n c):WnC n (wnShut c):=⟨h.b.shut,by
 have:=h.j
 unfold wnShut
 split <;> exact this⟩
theorem WnC.next {n:Nat} {c:Wn} (h:WnC n c):WnC n (wnNext c).1∧∀ x,(wnNext c).2=some x→codeW x≤65535∧pingW x≤n :=
 ⟨⟨h.b.next,(wnGo_codes _ c h.b h.j).1⟩,(wnGo_codes _ c h.b h.j).2⟩
structure BxT (n:Nat) (x:Bx):Prop where
 p:∀ s,x.pong=some s→s.length≤n
 m:∀ i∈x.msgs,i.text.length≤n
 c:∀ s,x.close=some s→s.length≤2
theorem bx0_t (q:Nat):BxT 0 (bx0 q):=⟨(fun s e=>by cases e),(fun i hi=>by cases hi),(fun s e=>by cases e)⟩
theorem BxT.le {n m:Nat} {x:Bx} (h:BxT n x) (hm:n≤m):BxT m x:=⟨fun s e=>Nat.le_trans (h.p s e) hm,fun i hi=>Nat.le_trans (h.m i hi) hm,h.c⟩
theorem BxT.reply {n:Nat} {x:Bx} (h:BxT n x) (s:List UInt8):BxT n (bxReply x s).1:=by
 unfold bxReply
 repeat' split
 all_goals exact⟨h.p,h.m,h.c⟩
theorem BxT.pong {n:Nat} {x:Bx} (h:BxT n x) (s:List UInt8) (hs:s.length≤n):BxT n (bxPong x s).1:=by
 unfold bxPong
 split
 ·exact h
 ·exact⟨fun t e=>by cases e;exact hs,h.m,h.c⟩
theorem BxT.message {n:Nat} {x:Bx} (h:BxT n x) (op:Int) (s:List UInt8) (hs:s.length≤n):BxT n (bxMessage x op s).1:=by
 unfold bxMessage
 repeat' split
 ·exact h
 ·exact h
 ·refine⟨h.p,fun i hi=>?_,h.c⟩
  rcases List.mem_append.1 hi with hi | hi
  ·exact h.m i hi
  ·rw[List.mem_singleton.1 hi];exact hs
theorem closW_len (c:Nat):(closW c).length≤2:=by
 unfold closW
 split
 ·exact Nat.zero_le _
 ·split
  ·exact Nat.le_refl _
  ·exact Nat.zero_le _
theorem BxT.close {n:Nat} {x:Bx} (h:BxT n x) (s:List UInt8) (hs:s.length≤2):BxT n (bxClose x s).1:=by
 unfold bxClose
 split
 ·exact h
 ·exact⟨h.p,h.m,fun t e=>by cases e;exact hs⟩
theorem BxT.end' {n:Nat} {x:Bx} (h:BxT n x):BxT n (bxEnd x):=⟨h.p,h.m,h.c⟩
theorem BxT.next {n:Nat} {x:Bx} (h:BxT n x):BxT n (bxNext x).1∧∀ it,(bxNext x).2=some it→it.kind=1∨it.text.length≤n+2:=by
 obtain⟨q,reps,pong,msgs,close,closed,ends,told⟩:=x
 obtain⟨h1,h2,h3⟩:=h
 dsimp only at h1 h2 h3
 unfold bxNext
 dsimp only
 cases reps with
 | cons a l=>exact⟨⟨h1,h2,h3⟩,fun it e=>by cases e;exact .inl rfl⟩
 | nil =>
  cases pong with
  | some a=>exact⟨⟨(fun s e=>by cases e),h2,h3⟩,fun it e=>by cases e;exact .inr (Nat.le_trans (h1 a rfl) (Nat.le_add_right _ _))⟩
  | none =>
   cases msgs with
   | cons a l=>exact⟨⟨h1,fun i hi=>h2 i (List.mem_cons_of_mem _ hi),h3⟩,fun it e=>by cases e;exact .inr (Nat.le_trans (h2 a (List.mem_cons_self ..)) (Nat.le_add_right _ _))⟩
   | nil =>
    cases close with
    | some a=>exact⟨⟨h1,h2,(fun s e=>by cases e)⟩,fun it e=>by cases e;exact .inr (Nat.le_trans (h3 a rfl) (Nat.le_add_left _ _))⟩
    | none =>
     dsimp only
     split
     ·exact⟨⟨h1,h2,h3⟩,fun it e=>by cases e;exact .inr (Nat.zero_le _)⟩
     ·exact⟨⟨h1,h2,h3⟩,fun it e=>by cases e⟩
structure SsB (n:Nat) (s:Ss):Prop where
 lim:s.limit≤1099511627776
 p:PsB n s.p
 w:∀ w,s.c=some w→WnC n w
 x:BxT n s.x
theorem ss0_b {q limit:Nat} (h:limit≤1099511627776):SsB 0 (ss0 q limit) :=
 ⟨h,ps0_b,(fun w e=>by cases e),bx0_t q⟩
theorem SsB.le {n m:Nat} {s:Ss} (h:SsB n s) (hm:n≤m):SsB m s:=⟨h.lim,h.p.le hm,fun w e=>(h.w w e).le hm,h.x.le hm⟩
theorem SsB.feed {n:Nat} {s:Ss} (h:SsB n s) (b:List UInt8):SsB (n+b.length) (ssFeed s b):=by
 have h':=h.le (Nat.le_add_right n b.length)
 unfold ssFeed
 split
 ·exact⟨h'.lim,h.p.feed b,h'.w,h'.x⟩
 ·split
  ·refine⟨h'.lim,h'.p,fun w e=>?_,h'.x⟩
   dsimp only at e
   cases hc:s.c with
   | none=>rw[hc] at e;cases e
   | some c=>rw[hc] at e;cases e;exact (h.w c hc).feed b
  ·exact h'
theorem SsB.ends {n:Nat} {s:Ss} (h:SsB n s):SsB n (ssEnds s):=⟨h.lim,h.p,h.w,h.x.end'⟩
theorem SsB.puts {n:Nat} {s:Ss} (h:SsB n s) (x:Rp) (hd cl:Bool):SsB n (ssPuts s x hd cl):=by
 have h1:SsB n { s with x:=(bxReply s.x (putB x hd cl)).1 }:=⟨h.lim,h.p,h.w,h.x.reply _⟩
 unfold ssPuts
 split
 ·exact h1.ends
 ·exact h1
theorem SsB.up {n:Nat} {s:Ss} (h:SsB n s):SsB n (ssUp s):=by
 obtain⟨h1,h2⟩:=h.p.rest
 refine⟨h.lim,h1,fun w e=>?_,h.x⟩
 cases e
 have:=(wn0_c s.limit).feed (restQ s.p).2
 rw[Nat.zero_add] at this
 exact this.le h2
theorem SsB.answers {n:Nat} {s:Ss} {H:Rq→Rp} (h:SsB n s) (r:Rq):SsB n (ssAnswers H s r).1:=by
 unfold ssAnswers
 split
 ·split
  ·exact (h.puts _ _ _).up
  ·exact h.puts _ _ _
 ·exact h.puts _ _ _
theorem SsB.asks {n:Nat} {s:Ss} {H:Rq→Rp} (h:SsB n s):SsB n (ssAsks H s).1:=by
 have hp:=h.p.next.1
 unfold ssAsks
 split
 ·rename_i p r hq
  rw[hq] at hp
  exact SsB.answers (s:={ s with p:=p }) ⟨h.lim,hp,h.w,h.x⟩ r
 ·rename_i p hq
  rw[hq] at hp
  have h1:SsB n { s with p:=p }:=⟨h.lim,hp,h.w,h.x⟩
  split
  ·exact h1
  ·exact SsB.puts (s:={ s with p:=p }) h1 ⟨p.bad,[],reasonL p.bad⟩ false true
theorem SsB.closes {n:Nat} {s:Ss} (h:SsB n s) (code:Nat):SsB n (ssCloses s code):=⟨h.lim,h.p,h.w,h.x.close _ (closW_len _)⟩
theorem SsB.gone {n:Nat} {s:Ss} (h:SsB n s) (was code:Nat):SsB n (ssGone s was code):=by
 unfold ssGone
 split
 ·exact (h.closes _).ends
 ·exact h.ends
theorem SsB.setC {n:Nat} {s:Ss} (h:SsB n s) {w:Wn} (hw:WnC n w):SsB n { s with c:=some w }:=⟨h.lim,h.p,fun w' e=>by cases e;exact hw,h.x⟩
theorem wn00_c (n:Nat):WnC n (wn0 0):=(wn0_c 0).le (Nat.zero_le _)
theorem SsB.wn {n:Nat} {s:Ss} (h:SsB n s):WnC n (ssWn s):=by
 unfold ssWn
 cases hc:s.c with
 | none=>exact wn00_c n
 | some c=>exact h.w c hc
theorem SsB.says {n:Nat} {s:Ss} (h:SsB n s):SsB n (ssSays s).1:=by
 have hw:=h.wn.next
 unfold ssSays
 cases e:wnNext (ssWn s) with
 | mk c o =>
  rw[e] at hw
  have h1:=h.setC hw.1
  cases o with
  | none=>exact h1
  | some x =>
   cases x with
   | message op t=>exact h1
   | ping t=>exact⟨h1.lim,h1.p,h1.w,h.x.pong t (hw.2 _ rfl).2⟩
   | closing code=>exact h1.gone _ _
   | failing code=>exact h1.gone _ _
theorem SsB.fresh {n:Nat} {s:Ss} (h:SsB n s) (f:Bool):SsB n { s with fresh:=f }:=⟨h.lim,h.p,h.w,h.x⟩
theorem SsB.next {n:Nat} {s:Ss} {H:Rq→Rp} (h:SsB n s):SsB n (ssNext H s).1:=by
 unfold ssNext
 split
 ·exact h
 ·dsimp only
  have h1:SsB n (ssAsks H s).1:=h.asks
  have h2:SsB n (ssSays s).1:=h.says
  by_cases q:s.st=1
  ·rw[if_pos q]
   split
   ·exact h1.fresh _
   ·exact h1
  ·rw[if_neg q]
   split
   ·exact h2.fresh _
   ·exact h2
theorem SsB.out {n:Nat} {s:Ss} (h:SsB n s):SsB n (ssOut s).1:=⟨h.lim,h.p,h.w,h.x.next.1⟩
theorem SsB.over {n:Nat} {s:Ss} (h:SsB n s):SsB n (ssOver s):=by
 refine⟨h.lim,h.p,fun w e=>?_,h.x⟩
 have e:s.c.map wnOver=some w:=e
 cases hc:s.c with
 | none=>rw[hc] at e;cases e
 | some c=>rw[hc] at e;cases e;exact (h.w c hc).over
theorem SsB.finish {n:Nat} {s:Ss} (h:SsB n s):SsB n (ssFinish s):=by
 unfold ssFinish
 split
 ·exact h
 ·split
  ·exact h.over.ends
  ·exact h.ends
theorem SsB.stop {n:Nat} {s:Ss} (h:SsB n s):SsB n (ssStop s):=by
 unfold ssStop
 split
 ·exact h.ends
 ·split
  ·refine⟨h.lim,h.p,fun w e=>?_,(h.closes 1001).x⟩
   have e:s.c.map wnShut=some w:=e
   cases hc:s.c with
   | none=>rw[hc] at e;cases e
   | some c=>rw[hc] at e;cases e;exact (h.w c hc).shut
  ·exact h
theorem SsB.lapse {n:Nat} {s:Ss} (h:SsB n s):SsB n (ssLapse s):=by
 unfold ssLapse
 split
 ·exact h.over.ends
 ·exact h.stop
theorem SsB.send {n:Nat} {s:Ss} (h:SsB n s) (op:Int) (t:List UInt8):SsB (n+t.length) (ssSend s op t).1:=by
 have h':=h.le (Nat.le_add_right n t.length)
 unfold ssSend
 split
 ·exact h'
 ·exact⟨h'.lim,h'.p,h'.w,h'.x.message op t (Nat.le_add_left _ _)⟩
open Go.RowKit Go.Shelf
attribute [local go_sem] Oper.semAt_some
section
variable {b:Nat} {g:Nat} {lb:Array Value} {F T:Nat→Prop} {H:Rq→Rp} {W:World} {s:Ss} {hv:Value}
theorem sn_says (h:SnAt b hv T W s) {w:Wn} (hw:s.c=some w) {n:Nat} (hB:WnB n w) (hn:n≤4611686018427387900) (hcode:∀ x,(wnNext w).2=some x→codeW x≤65535):Calls Tryz.prog 42 #[.pointer (some ⟨b,0,none⟩)] W fun e w'=>e=.returned (.tuple #[sevO (ssSays s).2,.bool (ssSays s).2.isSome])∧Pst (SnAt b hv) T W (ssSays s).1 w':=by
 have hl':=hid h.2
 obtain⟨⟨c,pb,bb,cv,h,hT⟩,hl⟩:=h
 obtain⟨W1,hW1⟩:∃ W1,W.alloc (.cells #[.int .i64 0,.int .i64 0,.string ⟨#[]⟩] 28)=W1:=⟨_,rfl⟩
 have g1:Gr W W1:=hW1▸Gr.alloc W _
 have hE1:=hid (show W.heap.size<W1.heap.size by rw[←hW1];simp)
 have e0:W1.cell? ⟨W.heap.size,0,none⟩=some (.int .i64 0):=by rw[←hW1];exact cell_new7 _ _ _ 0 _ rfl
 have e1:W1.cell? ⟨W.heap.size,1,none⟩=some (.int .i64 0):=by rw[←hW1];exact cell_new7 _ _ _ 1 _ rfl
 have e2:W1.cell? ⟨W.heap.size,2,none⟩=some (.string ⟨#[]⟩):=by rw[←hW1];exact cell_new7 _ _ _ 2 _ rfl
 have ez:∀ o,W1.frozen? ⟨W.heap.size,o,none⟩=false:=fun o=>by rw[←hW1];exact World.frozen?_alloc_at _ _ _ _ rfl
 have h1:=h.gr g1
 have hl1:=hid (fun k (e:T k)=>Nat.lt_of_lt_of_le (hl k e) (Below.size g1))
 have kw:=h1.kw
 rw[hw] at kw
 obtain⟨k0,rfl,kw⟩:=kw
 have c4:=h1.c4
 have hst:=hid (wstate_at kw)
 have hnx0:=wnext_at kw hB hn
 have hT':=hid hT
 have g1':=hid g1
 have h1':=hid h1
 have hw':=hid hw
 obtain⟨w',o,hwo⟩:∃ w' o,wnNext w=(w',o):=⟨_,_,rfl⟩
 have hwn:ssWn s=w:=by unfold ssWn;rw[hw];rfl
 have hq0:ssSays s=match ((w',o):Wn×Option Wev) with
   |(c,none)=>({ s with c:=some c },none)
   |(c,some (.message op t))=>({ s with c:=some c },some (.said op t))
   |(c,some (.ping t))=>({ s with c:=some c,x:=(bxPong s.x t).1 },some .done)
   |(c,some (.closing code))=>(ssGone { s with c:=some c } w.st code,some .done)
   |(c,some (.failing code))=>(ssGone { s with c:=some c } w.st code,some .done):=by
  rw[←hwo]
  unfold ssSays
  rw[hwn]
  cases wnNext w with
  | mk c o=>cases o with
   | none=>rfl
   | some x=>cases x <;> rfl
 rw[hwo] at hnx0 hcode
 dsimp only at hnx0 hcode
 have hnx:=hid hnx0
 have hq:=hid hq0
 clear h hT hl hB hq0 hwo g1 h1 hw hwn kw hnx0
 go_enter Tryz.func42,Tryz.ntmps42
 go_wp2_with (fail)
 refine hst.out.mono ?_
 rintro e w2 ⟨rfl,rfl⟩
 go_wp2_with (fail)
 refine hnx.out.mono ?_
 rintro e w2 ⟨rfl,hp⟩
 try rw[hW1]
 have hpst:=hid ((h1'.out.setW hw'.out hp).pst hl1.out (hp.2.mono (fun k e=>hT'.out k (by rw[show c k=3 from e];decide))) (add_of hT'.out (Nat.le_refl _)))
 have hEX:W.heap.size<W1.heap.size:=cell_lt e0
 have hET:¬T (W.heap.size):=fun e=>by have:=hl'.out _ e;omega
 replace e0:=(hpst.out.2.cell (p:=⟨W.heap.size,0,none⟩) hEX hET).trans e0
 replace e1:=(hpst.out.2.cell (p:=⟨W.heap.size,1,none⟩) hEX hET).trans e1
 replace e2:=(hpst.out.2.cell (p:=⟨W.heap.size,2,none⟩) hEX hET).trans e2
 replace ez:∀ o,w2.frozen? ⟨W.heap.size,o,none⟩=false:=fun o=>(hpst.out.2.frozen (p:=⟨W.heap.size,o,none⟩) hEX hET).trans (ez o)
 have hEX':=hid hEX
 clear hEX
 clear hp c4 hW1
 cases o with
 | none =>
  have hq2:=hid (show ssSays s=({ s with c:=some w' },none) from hq.out)
  unfold wevZ
  dsimp only
  go_upto_region 3 with (fail)
  obtain⟨w3,hw3⟩:∃ w3,w2.alloc (.cells #[.int .i64 0,.int .i64 0,.int .i64 0,.string ⟨#[]⟩] 129)=w3:=⟨_,rfl⟩
  have g3:Gr w2 w3:=hw3▸Gr.alloc w2 _
  have hp3:=hid ((snKin b hv).behind hpst.out g3)
  have v0:w3.cell? ⟨w2.heap.size,0,none⟩=some (.int .i64 0):=by rw[←hw3];exact cell_new7 _ _ _ 0 _ rfl
  have v1:w3.cell? ⟨w2.heap.size,1,none⟩=some (.int .i64 0):=by rw[←hw3];exact cell_new7 _ _ _ 1 _ rfl
  have v2:w3.cell? ⟨w2.heap.size,2,none⟩=some (.int .i64 0):=by rw[←hw3];exact cell_new7 _ _ _ 2 _ rfl
  have v3:w3.cell? ⟨w2.heap.size,3,none⟩=some (.string ⟨#[]⟩):=by rw[←hw3];exact cell_new7 _ _ _ 3 _ rfl
  have hE2:W.heap.size<w2.heap.size:=cell_lt e0
  replace e0:=g3.cell e0
  replace e1:=g3.cell e1
  replace e2:=g3.cell e2
  replace ez:∀ o,w3.frozen? ⟨W.heap.size,o,none⟩=false:=fun o=>(Below.frozen g3 (p:=⟨W.heap.size,o,none⟩) hE2).trans (ez o)
  try rw[hw3]
  have g3':=hid g3
  clear hw3 v0 v1 v2 v3 hE2 g3
  go_wp2
  refine bodyPost_ret (v:=.tuple #[sevO none,.bool false]) (by simp[results,Tryz.results42,go_sem,sevV,sevO,e0,e1,e2]) rfl ?_
  rw[hq2.out]
  exact⟨rfl,kin_told (snKin b hv) hl'.out g1'.out hp3.out (ch3 w3 W.heap.size _ _ _) (fun k e=>⟨by rw[show k=W.heap.size from e];exact Nat.le_refl _,by rw[show k=W.heap.size from e];exact hE1.out⟩)⟩
 | some x =>
  have hcx:=hcode x rfl
  cases x with
  | message op t =>
   have hq2:=hid (show ssSays s=({ s with c:=some w' },some (.said op t)) from hq.out)
   unfold wevZ
   dsimp only
   go_upto_region 3 with (fail)
   obtain⟨w3,hw3⟩:∃ w3,w2.alloc (.cells #[.int .i64 1,.int .i64 op,.int .i64 0,.string ⟨t.toArray⟩] 129)=w3:=⟨_,rfl⟩
   have g3:Gr w2 w3:=hw3▸Gr.alloc w2 _
   have hp3:=hid ((snKin b hv).behind hpst.out g3)
   have v0:w3.cell? ⟨w2.heap.size,0,none⟩=some (.int .i64 1):=by rw[←hw3];exact cell_new7 _ _ _ 0 _ rfl
   have v1:w3.cell? ⟨w2.heap.size,1,none⟩=some (.int .i64 op):=by rw[←hw3];exact cell_new7 _ _ _ 1 _ rfl
   have v2:w3.cell? ⟨w2.heap.size,2,none⟩=some (.int .i64 0):=by rw[←hw3];exact cell_new7 _ _ _ 2 _ rfl
   have v3:w3.cell? ⟨w2.heap.size,3,none⟩=some (.string ⟨t.toArray⟩):=by rw[←hw3];exact cell_new7 _ _ _ 3 _ rfl
   have hE2:W.heap.size<w2.heap.size:=cell_lt e0
   replace e0:=g3.cell e0
   replace e1:=g3.cell e1
   replace e2:=g3.cell e2
   replace ez:∀ o,w3.frozen? ⟨W.heap.size,o,none⟩=false:=fun o=>(Below.frozen g3 (p:=⟨W.heap.size,o,none⟩) hE2).trans (ez o)
   try rw[hw3]
   have g3':=hid g3
   have hs3:w2.heap.size<w3.heap.size:=cell_lt v0
   have hEn:W.heap.size≠w2.heap.size:=by omega
   clear hw3 hE2 g3
   go_wp2
   refine bodyPost_ret (v:=.tuple #[sevV (.said op t),.bool true]) (by simp[results,Tryz.results42,go_sem,sevV,sevO,e0,e1,e2]) rfl ?_
   rw[hq2.out]
   exact⟨rfl,kin_told (snKin b hv) hl'.out g1'.out hp3.out (ch3 w3 W.heap.size _ _ _) (fun k e=>⟨by rw[show k=W.heap.size from e];exact Nat.le_refl _,by rw[show k=W.heap.size from e];exact hE1.out⟩)⟩
  | ping t =>
   have hq2:=hid (show ssSays s=({ s with c:=some w',x:=(bxPong s.x t).1 },some .done) from hq.out)
   unfold wevZ
   dsimp only
   go_upto_region 3 with (fail)
   obtain⟨w3,hw3⟩:∃ w3,w2.alloc (.cells #[.int .i64 2,.int .i64 0,.int .i64 0,.string ⟨t.toArray⟩] 129)=w3:=⟨_,rfl⟩
   have g3:Gr w2 w3:=hw3▸Gr.alloc w2 _
   have hp3:=hid ((snKin b hv).behind hpst.out g3)
   have v0:w3.cell? ⟨w2.heap.size,0,none⟩=some (.int .i64 2):=by rw[←hw3];exact cell_new7 _ _ _ 0 _ rfl
   have v1:w3.cell? ⟨w2.heap.size,1,none⟩=some (.int .i64 0):=by rw[←hw3];exact cell_new7 _ _ _ 1 _ rfl
   have v2:w3.cell? ⟨w2.heap.size,2,none⟩=some (.int .i64 0):=by rw[←hw3];exact cell_new7 _ _ _ 2 _ rfl
   have v3:w3.cell? ⟨w2.heap.size,3,none⟩=some (.string ⟨t.toArray⟩):=by rw[←hw3];exact cell_new7 _ _ _ 3 _ rfl
   have hE2:W.heap.size<w2.heap.size:=cell_lt e0
   replace e0:=g3.cell e0
   replace e1:=g3.cell e1
   replace e2:=g3.cell e2
   replace ez:∀ o,w3.frozen? ⟨W.heap.size,o,none⟩=false:=fun o=>(Below.frozen g3 (p:=⟨W.heap.size,o,none⟩) hE2).trans (ez o)
   try rw[hw3]
   have g3':=hid g3
   clear hE2 g3
   go_upto_region 12 with (fail)
   try rw[hw3]
   clear hw3
   obtain⟨⟨⟨c9,pb9,bb9,cv9,h9,hT9⟩,hl9⟩,hc9⟩:=hp3.out
   have c5:=h9.c5
   have h9':=hid h9
   have hT9':=hid hT9
   have hl9':=hid hl9
   clear h9 hT9 hl9 hc9
   go_region_with (first
    |(go_at_call 73;refine (bpong_any t (h9'.out.gr (Gr.drew' _)).kx).mono ?_;rintro e w4 ⟨rfl,hp4⟩;have hp4':=hid hp4;clear hp4))
   all_goals
    have h10:=(h9'.out.gr (Gr.drew' _)).setX hp4'.out
    have hp5:=(snKin b hv).ahead (Gr.drew' w3) (h10.pst (fun k e=>Nat.lt_of_lt_of_le (hl9'.out k e) (Below.size (Gr.drew' w3))) (hp4'.out.2.mono (fun k e=>hT9'.out k (by rw[show c9 k=4 from e];decide))) (add_of hT9'.out (Nat.le_refl _)))
    have hp6:=hid ((snKin b hv).trans hp3.out hp5)
    have hEX:W.heap.size<w3.heap.size:=cell_lt e0
    have hET:¬Add T W1 w3 (W.heap.size):=fun e=>by
     have:=hE1.out
     rcases e with e | e
     ·have:=hl'.out _ e;omega
     ·have:=e.1;omega
    replace e0:=(hp5.2.cell (p:=⟨W.heap.size,0,none⟩) hEX hET).trans e0
    replace e1:=(hp5.2.cell (p:=⟨W.heap.size,1,none⟩) hEX hET).trans e1
    replace e2:=(hp5.2.cell (p:=⟨W.heap.size,2,none⟩) hEX hET).trans e2
    replace ez:∀ o,w4.frozen? ⟨W.heap.size,o,none⟩=false:=fun o=>(hp5.2.frozen (p:=⟨W.heap.size,o,none⟩) hEX hET).trans (ez o)
    have hEX':=hid hEX
    clear hEX
    clear h10 hp5 c5 v0 v1 v2 v3
    go_wp2
    refine bodyPost_ret (v:=.tuple #[sevV .done,.bool true]) (by simp[results,Tryz.results42,go_sem,sevV,sevO,e0,e1,e2]) rfl ?_
    rw[hq2.out]
    exact⟨rfl,kin_told (snKin b hv) hl'.out g1'.out hp6.out (ch3 w4 W.heap.size _ _ _) (fun k e=>⟨by rw[show k=W.heap.size from e];exact Nat.le_refl _,by rw[show k=W.heap.size from e];exact hE1.out⟩)⟩
  | closing code =>
   have hq1:ssSays s=(ssGone { s with c:=some w' } w.st code,some .done):=hq.out
   have hcx':code≤65535:=hcx
   unfold wevZ
   dsimp only
   go_upto_region 3 with (fail)
   obtain⟨w3,hw3⟩:∃ w3,w2.alloc (.cells #[.int .i64 3,.int .i64 0,.int .i64 code,.string ⟨#[]⟩] 129)=w3:=⟨_,rfl⟩
   have g3:Gr w2 w3:=hw3▸Gr.alloc w2 _
   have hp3:=hid ((snKin b hv).behind hpst.out g3)
   have v0:w3.cell? ⟨w2.heap.size,0,none⟩=some (.int .i64 3):=by rw[←hw3];exact cell_new7 _ _ _ 0 _ rfl
   have v1:w3.cell? ⟨w2.heap.size,1,none⟩=some (.int .i64 0):=by rw[←hw3];exact cell_new7 _ _ _ 1 _ rfl
   have v2:w3.cell? ⟨w2.heap.size,2,none⟩=some (.int .i64 code):=by rw[←hw3];exact cell_new7 _ _ _ 2 _ rfl
   have v3:w3.cell? ⟨w2.heap.size,3,none⟩=some (.string ⟨#[]⟩):=by rw[←hw3];exact cell_new7 _ _ _ 3 _ rfl
   have hE2:W.heap.size<w2.heap.size:=cell_lt e0
   replace e0:=g3.cell e0
   replace e1:=g3.cell e1
   replace e2:=g3.cell e2
   replace ez:∀ o,w3.frozen? ⟨W.heap.size,o,none⟩=false:=fun o=>(Below.frozen g3 (p:=⟨W.heap.size,o,none⟩) hE2).trans (ez o)
   try rw[hw3]
   have g3':=hid g3
   have hcl:=hid (sn_closes hp3.out.1 code hcx')
   have hen:=hid (sn_ends hp3.out.1)
   clear hE2 g3
   by_cases h1s:w.st=1
   ·have hq2:=hid (show ssSays s=(ssEnds (ssCloses { s with c:=some w' } code),some .done) by rw[hq1];unfold ssGone;rw[if_pos h1s])
    have hz1:((w.st:Int)==1)=true:=beq_iff_eq.2 (by omega)
    clear h1s hq1
    go_wp2_with (fail)
    try rw[hw3]
    refine hcl.out.mono ?_
    rintro e w4 ⟨rfl,hp4⟩
    have hen2:=hid (sn_ends hp4.1)
    have hp4':=hid hp4
    clear hp4 v0 v1 v2 v3 hw3
    go_wp2_with (fail)
    refine hen2.out.mono ?_
    rintro e w5 ⟨rfl,hp5⟩
    have hp45:=(snKin b hv).trans hp4'.out hp5
    have hp6:=hid ((snKin b hv).trans hp3.out hp45)
    have hEX:W.heap.size<w3.heap.size:=cell_lt e0
    have hET:¬Add T W1 w3 (W.heap.size):=fun e=>by
     have:=hE1.out
     rcases e with e | e
     ·have:=hl'.out _ e;omega
     ·have:=e.1;omega
    replace e0:=(hp45.2.cell (p:=⟨W.heap.size,0,none⟩) hEX hET).trans e0
    replace e1:=(hp45.2.cell (p:=⟨W.heap.size,1,none⟩) hEX hET).trans e1
    replace e2:=(hp45.2.cell (p:=⟨W.heap.size,2,none⟩) hEX hET).trans e2
    replace ez:∀ o,w5.frozen? ⟨W.heap.size,o,none⟩=false:=fun o=>(hp45.2.frozen (p:=⟨W.heap.size,o,none⟩) hEX hET).trans (ez o)
    have hEX':=hid hEX
    clear hEX
    clear hp45 hp5
    go_wp2
    refine bodyPost_ret (v:=.tuple #[sevV .done,.bool true]) (by simp[results,Tryz.results42,go_sem,sevV,sevO,e0,e1,e2]) rfl ?_
    rw[hq2.out]
    exact⟨rfl,kin_told (snKin b hv) hl'.out g1'.out hp6.out (ch3 w5 W.heap.size _ _ _) (fun k e=>⟨by rw[show k=W.heap.size from e];exact Nat.le_refl _,by rw[show k=W.heap.size from e];exact hE1.out⟩)⟩
   ·have hq2:=hid (show ssSays s=(ssEnds { s with c:=some w' },some .done) by rw[hq1];unfold ssGone;rw[if_neg h1s])
    have hz1:((w.st:Int)==1)=false:=beq_false_of_ne (by omega)
    clear h1s hq1
    go_wp2_with (fail)
    try rw[hw3]
    refine hen.out.mono ?_
    rintro e w5 ⟨rfl,hp5⟩
    have hp6:=hid ((snKin b hv).trans hp3.out hp5)
    have hEX:W.heap.size<w3.heap.size:=cell_lt e0
    have hET:¬Add T W1 w3 (W.heap.size):=fun e=>by
     have:=hE1.out
     rcases e with e | e
     ·have:=hl'.out _ e;omega
     ·have:=e.1;omega
    replace e0:=(hp5.2.cell (p:=⟨W.heap.size,0,none⟩) hEX hET).trans e0
    replace e1:=(hp5.2.cell (p:=⟨W.heap.size,1,none⟩) hEX hET).trans e1
    replace e2:=(hp5.2.cell (p:=⟨W.heap.size,2,none⟩) hEX hET).trans e2
    replace ez:∀ o,w5.frozen? ⟨W.heap.size,o,none⟩=false:=fun o=>(hp5.2.frozen (p:=⟨W.heap.size,o,none⟩) hEX hET).trans (ez o)
    have hEX':=hid hEX
    clear hEX
    clear hp5 v0 v1 v2 v3 hw3
    go_wp2
    refine bodyPost_ret (v:=.tuple #[sevV .done,.bool true]) (by simp[results,Tryz.results42,go_sem,sevV,sevO,e0,e1,e2]) rfl ?_
    rw[hq2.out]
    exact⟨rfl,kin_told (snKin b hv) hl'.out g1'.out hp6.out (ch3 w5 W.heap.size _ _ _) (fun k e=>⟨by rw[show k=W.heap.size from e];exact Nat.le_refl _,by rw[show k=W.heap.size from e];exact hE1.out⟩)⟩
  | failing code =>
   have hq1:ssSays s=(ssGone { s with c:=some w' } w.st code,some .done):=hq.out
   have hcx':code≤65535:=hcx
   unfold wevZ
   dsimp only
   go_upto_region 3 with (fail)
   obtain⟨w3,hw3⟩:∃ w3,w2.alloc (.cells #[.int .i64 4,.int .i64 0,.int .i64 code,.string ⟨#[]⟩] 129)=w3:=⟨_,rfl⟩
   have g3:Gr w2 w3:=hw3▸Gr.alloc w2 _
   have hp3:=hid ((snKin b hv).behind hpst.out g3)
   have v0:w3.cell? ⟨w2.heap.size,0,none⟩=some (.int .i64 4):=by rw[←hw3];exact cell_new7 _ _ _ 0 _ rfl
   have v1:w3.cell? ⟨w2.heap.size,1,none⟩=some (.int .i64 0):=by rw[←hw3];exact cell_new7 _ _ _ 1 _ rfl
   have v2:w3.cell? ⟨w2.heap.size,2,none⟩=some (.int .i64 code):=by rw[←hw3];exact cell_new7 _ _ _ 2 _ rfl
   have v3:w3.cell? ⟨w2.heap.size,3,none⟩=some (.string ⟨#[]⟩):=by rw[←hw3];exact cell_new7 _ _ _ 3 _ rfl
   have hE2:W.heap.size<w2.heap.size:=cell_lt e0
   replace e0:=g3.cell e0
   replace e1:=g3.cell e1
   replace e2:=g3.cell e2
   replace ez:∀ o,w3.frozen? ⟨W.heap.size,o,none⟩=false:=fun o=>(Below.frozen g3 (p:=⟨W.heap.size,o,none⟩) hE2).trans (ez o)
   try rw[hw3]
   have g3':=hid g3
   have hcl:=hid (sn_closes hp3.out.1 code hcx')
   have hen:=hid (sn_ends hp3.out.1)
   clear hE2 g3
   by_cases h1s:w.st=1
   ·have hq2:=hid (show ssSays s=(ssEnds (ssCloses { s with c:=some w' } code),some .done) by rw[hq1];unfold ssGone;rw[if_pos h1s])
    have hz1:((w.st:Int)==1)=true:=beq_iff_eq.2 (by omega)
    clear h1s hq1
    go_wp2_with (fail)
    try rw[hw3]
    refine hcl.out.mono ?_
    rintro e w4 ⟨rfl,hp4⟩
    have hen2:=hid (sn_ends hp4.1)
    have hp4':=hid hp4
    clear hp4 v0 v1 v2 v3 hw3
    go_wp2_with (fail)
    refine hen2.out.mono ?_
    rintro e w5 ⟨rfl,hp5⟩
    have hp45:=(snKin b hv).trans hp4'.out hp5
    have hp6:=hid ((snKin b hv).trans hp3.out hp45)
    have hEX:W.heap.size<w3.heap.size:=cell_lt e0
    have hET:¬Add T W1 w3 (W.heap.size):=fun e=>by
     have:=hE1.out
     rcases e with e | e
     ·have:=hl'.out _ e;omega
     ·have:=e.1;omega
    replace e0:=(hp45.2.cell (p:=⟨W.heap.size,0,none⟩) hEX hET).trans e0
    replace e1:=(hp45.2.cell (p:=⟨W.heap.size,1,none⟩) hEX hET).trans e1
    replace e2:=(hp45.2.cell (p:=⟨W.heap.size,2,none⟩) hEX hET).trans e2
    replace ez:∀ o,w5.frozen? ⟨W.heap.size,o,none⟩=false:=fun o=>(hp45.2.frozen (p:=⟨W.heap.size,o,none⟩) hEX hET).trans (ez o)
    have hEX':=hid hEX
    clear hEX
    clear hp45 hp5
    go_wp2
    refine bodyPost_ret (v:=.tuple #[sevV .done,.bool true]) (by simp[results,Tryz.results42,go_sem,sevV,sevO,e0,e1,e2]) rfl ?_
    rw[hq2.out]
    exact⟨rfl,kin_told (snKin b hv) hl'.out g1'.out hp6.out (ch3 w5 W.heap.size _ _ _) (fun k e=>⟨by rw[show k=W.heap.size from e];exact Nat.le_refl _,by rw[show k=W.heap.size from e];exact hE1.out⟩)⟩
   ·have hq2:=hid (show ssSays s=(ssEnds { s with c:=some w' },some .done) by rw[hq1];unfold ssGone;rw[if_neg h1s])
    have hz1:((w.st:Int)==1)=false:=beq_false_of_ne (by omega)
    clear h1s hq1
    go_wp2_with (fail)
    try rw[hw3]
    refine hen.out.mono ?_
    rintro e w5 ⟨rfl,hp5⟩
    have hp6:=hid ((snKin b hv).trans hp3.out hp5)
    have hEX:W.heap.size<w3.heap.size:=cell_lt e0
    have hET:¬Add T W1 w3 (W.heap.size):=fun e=>by
     have:=hE1.out
     rcases e with e | e
     ·have:=hl'.out _ e;omega
     ·have:=e.1;omega
    replace e0:=(hp5.2.cell (p:=⟨W.heap.size,0,none⟩) hEX hET).trans e0
    replace e1:=(hp5.2.cell (p:=⟨W.heap.size,1,none⟩) hEX hET).trans e1
    replace e2:=(hp5.2.cell (p:=⟨W.heap.size,2,none⟩) hEX hET).trans e2
    replace ez:∀ o,w5.frozen? ⟨W.heap.size,o,none⟩=false:=fun o=>(hp5.2.frozen (p:=⟨W.heap.size,o,none⟩) hEX hET).trans (ez o)
    have hEX':=hid hEX
    clear hEX
    clear hp5 v0 v1 v2 v3 hw3
    go_wp2
    refine bodyPost_ret (v:=.tuple #[sevV .done,.bool true]) (by simp[results,Tryz.results42,go_sem,sevV,sevO,e0,e1,e2]) rfl ?_
    rw[hq2.out]
    exact⟨rfl,kin_told (snKin b hv) hl'.out g1'.out hp6.out (ch3 w5 W.heap.size _ _ _) (fun k e=>⟨by rw[show k=W.heap.size from e];exact Nat.le_refl _,by rw[show k=W.heap.size from e];exact hE1.out⟩)⟩
end
end Go.Proofs.YtadobobfjnmdlaaGreatDoor
