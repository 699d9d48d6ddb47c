/-
  Plain laws of sessions: what stays within bounds; no program in sight.
-/
import Derived.Test.YtadobobfjnmdlaaGreatDoorHb
set_option linter.unnecessarySimpa false
set_option linter.unusedVariables false
set_option linter.unusedSimpArgs false
set_option maxHeartbeats 16000000
set_option maxRecDepth 100000
open Go.Lib (hid)
open Go.Proofs.Tryz
namespace Go.Proofs.YtadobobfjnmdlaaGreatDoor
theorem splitE_one:∀ (s l:List UInt8),l∈splitE s→l.length≤s.length
 | [],l,h=>by
  unfold splitE at h
  rcases List.mem_singleton.1 h with rfl
  exact Nat.le_refl _
 | c :: t,l,h=>by
  unfold splitE at h
  split at h
  ·rcases List.mem_cons.1 h with rfl | h
   ·exact Nat.zero_le _
   ·have:=splitE_one t.tail l h
    rw[List.length_tail] at this
    rw[List.length_cons];omega
  ·have ih:=splitE_one t
   cases e:splitE t with
   | nil =>
    rw[e] at h
    rcases List.mem_singleton.1 h with rfl
    exact Nat.succ_le_succ (Nat.zero_le _)
   | cons x xs =>
    rw[e] at h ih
    rcases List.mem_cons.1 h with rfl | h
    ·have:=ih x (List.mem_cons_self ..)
     rw[List.length_cons,List.length_cons];omega
    ·have:=ih l (List.mem_cons_of_mem _ h)
     rw[List.length_cons];omega
 termination_by s=>s.length
 decreasing_by
  all_goals simp_wf
  all_goals (try omega)
theorem parseB_one (l:List UInt8):(parseB l).1.length≤l.length∧(parseB l).2.1.length≤l.length:=by
 unfold parseB
 split
 ·exact⟨cut_le1 l [58],Nat.le_trans (trimB_len _) (cut_le2 l [58])⟩
 ·exact⟨Nat.zero_le _,Nat.zero_le _⟩
theorem fieldsL_one (n:Nat):∀ (ls:List (List UInt8)) (fs:List Fl),fieldsL ls=some fs→(∀ l∈ls,l.length≤n)→fs.length=ls.length∧∀ f∈fs,f.1.length≤n∧f.2.length≤n
 | [],fs,h,_=>by
  cases h
  exact⟨rfl,λf hf=>by cases hf⟩
 | l :: t,fs,h,hl=>by
  unfold fieldsL at h
  split at h
  ·cases e:fieldsL t with
   | none=>rw[e] at h;cases h
   | some gs =>
    rw[e] at h
    cases h
    obtain⟨h1,h2⟩:=fieldsL_one n t gs e (λx hx=>hl x (List.mem_cons_of_mem _ hx))
    refine⟨by rw[List.length_cons,List.length_cons,h1],λf hf=>?_⟩
    rcases List.mem_cons.1 hf with rfl | hf
    ·have:=hl l (List.mem_cons_self ..)
     have h3:=parseB_one l
     exact⟨by dsimp only;omega,by dsimp only;omega⟩
    ·exact h2 f hf
  ·cases h
structure RqB (n:Nat) (r:Rq):Prop where
 l:r.fs.length≤33
 f:∀ f∈r.fs,f.1.length≤n∧f.2.length≤n
 m:r.m.length≤n
 p:r.p.length≤n
 q:r.q.length≤n
 b:r.b.length≤4096
theorem lineB_one (l:List UInt8):(lineB l).1.length≤l.length∧(lineB l).2.1.length≤l.length:=by
 unfold lineB
 dsimp only
 split
 ·exact⟨cut_le1 l [32],Nat.le_trans (cut_le1 _ [32]) (cut_le2 l [32])⟩
 ·exact⟨Nat.zero_le _,Nat.zero_le _⟩
theorem targetB_one (l:List UInt8):(targetB l).1.length≤l.length∧(targetB l).2.1.length≤l.length:=by
 unfold targetB
 dsimp only
 split
 ·exact⟨cut_le1 l [63],cut_le2 l [63]⟩
 ·exact⟨Nat.zero_le _,Nat.zero_le _⟩
theorem headQ_one {n:Nat} {ls:List (List UInt8)} (hl:∀ l∈ls,l.length≤n) {r:Rq} {k:Nat} {ch:Bool} (h:headQ ls=.good r k ch):RqB n r:=by
 have hb:=headQ_body h
 unfold headQ at h
 split at h
 ·cases h
 ·rename_i h33
  cases e:fieldsL ls.tail with
  | none=>rw[e] at h;cases h
  | some fs =>
   rw[e] at h
   obtain⟨f1,f2⟩:=fieldsL_one n ls.tail fs e (λl hx=>hl l (List.mem_of_mem_tail hx))
   have hh:(ls.headD []).length≤n:=by
    cases ls with
    | nil=>exact Nat.zero_le _
    | cons x t=>exact hl x (List.mem_cons_self ..)
   have l1:=lineB_one (ls.headD [])
   have t1:=targetB_one (lineB (ls.headD [])).2.1
   rw[List.length_tail] at f1
   dsimp only at h
   repeat' split at h
   all_goals first
    | cases h;done
    |(cases h
      exact⟨by dsimp only;omega,f2,by dsimp only;omega,by dsimp only;omega,by dsimp only;omega,Nat.zero_le _⟩)
theorem CkOk.data_le {c:Ck} (h:CkOk c):c.data.length≤4096:=h.data
theorem oneQ_one {n:Nat} {s:List UInt8} (hs:s.length≤n) {r:Rq} {k:Nat} (h:oneQ s=.got r k):RqB n r:=by
 unfold oneQ at h
 split at h
 ·cases e:headQ (splitE (s.take (Lib.index s eol2).toNat)) with
  | bad c=>rw[e] at h;cases h
  | good r0 m ch =>
   rw[e] at h
   have h0:=headQ_one (n:=n) (λl hl=>by
    have:=splitE_one _ l hl
    rw[List.length_take] at this
    omega) e
   have hm:=(headQ_body e).2
   dsimp only at h
   split at h
   ·split at h
    ·cases h
    ·split at h
     ·cases h
      exact⟨h0.l,h0.f,h0.m,h0.p,h0.q,(ck0_feed _).data_le⟩
     ·cases h
   ·split at h
    ·cases h
    ·cases h
     refine⟨h0.l,h0.f,h0.m,h0.p,h0.q,?_⟩
     dsimp only
     rw[List.length_take]
     omega
 ·split at h <;> cases h
structure PsB (n:Nat) (p:Ps):Prop where
 sum:p.inp.length+p.und.length≤n
 st:∃ s,Stands p s∧s.length≤n
theorem ps0_b:PsB 0 ps0:=⟨Nat.le_refl _,[],stands_new,Nat.le_refl _⟩
theorem PsB.le {n m:Nat} {p:Ps} (h:PsB n p) (hm:n≤m):PsB m p:=⟨Nat.le_trans h.sum hm,let ⟨s,h1,h2⟩:=h.st;⟨s,h1,Nat.le_trans h2 hm⟩⟩
theorem PsB.feed {n:Nat} {p:Ps} (h:PsB n p) (t:List UInt8):PsB (n+t.length) (feedQ p t):=by
 obtain⟨s,h1,h2⟩:=h.st
 refine⟨?_,s++t,h1.feed t,by rw[List.length_append];omega⟩
 have:=h.sum
 unfold feedQ
 split
 ·dsimp only;rw[List.length_append];omega
 ·omega
theorem readsQ_io (p:Ps) (t:List UInt8):(readsQ p t).inp=p.inp∧(readsQ p t).und=p.und:=by
 unfold readsQ
 cases headQ (splitE t) <;> exact⟨rfl,rfl⟩
theorem headsQ_len2 (p:Ps):(headsQ p).inp.length+(headsQ p).und.length=p.inp.length+p.und.length:=by
 unfold headsQ
 split
 ·obtain⟨i1,i2⟩:=readsQ_io p (p.inp.take (Lib.index p.inp eol2).toNat)
  split
  ·unfold takesQ
   dsimp only
   rw[i1,i2,List.length_append,List.length_take,List.length_drop];omega
  ·rw[i1,i2]
 ·split <;> rfl
theorem bodyQ_sum2 (p:Ps):(bodyQ p).1.inp.length+(bodyQ p).1.und.length≤p.inp.length+p.und.length:=by
 unfold bodyQ
 split
 ·split
  ·exact Nat.le_refl _
  ·dsimp only;rw[List.length_drop];omega
 ·simp only[takesQ,List.length_append,List.length_take,List.length_drop];omega
theorem PsB.next {n:Nat} {p:Ps} (h:PsB n p):PsB n (nextQ p).1∧(∀ r,(nextQ p).2=some r→RqB n r)∧((nextQ p).2=none→(nextQ p).1.bad≤431):=by
 obtain⟨s,h1,h2⟩:=h.st
 have hn:=h1.next
 have hsum:(nextQ p).1.inp.length+(nextQ p).1.und.length≤n:=by
  have hh:(if p.head then p else headsQ p).inp.length+(if p.head then p else headsQ p).und.length=p.inp.length+p.und.length:=by
   split
   ·rfl
   ·exact headsQ_len2 p
  have:=h.sum
  unfold nextQ
  split
  ·exact h.sum
  ·dsimp only
   generalize (if p.head then p else headsQ p)=x at hh ⊢
   have hb:=bodyQ_sum2 x
   split
   ·dsimp only;omega
   ·split
    ·dsimp only[ps0];rw[List.length_nil];omega
    ·dsimp only;omega
 unfold NextOk at hn
 cases e:oneQ s with
 | more =>
  rw[e] at hn
  exact⟨⟨hsum,s,hn.2.2,h2⟩,λr hr=>(by rw[hn.1] at hr;cases hr),λ_=>by rw[hn.2.1];decide⟩
 | bad c =>
  rw[e] at hn
  exact⟨⟨hsum,s,hn.2.2,h2⟩,λr hr=>(by rw[hn.1] at hr;cases hr),λ_=>by rw[hn.2.1];rcases oneQ_codes e with h | h | h <;> omega⟩
 | got r k =>
  rw[e] at hn
  refine⟨⟨hsum,s.drop k,?_,by rw[List.length_drop];omega⟩,λr' hr=>?_,λhr=>?_⟩
  ·rw[hn.2];exact .fresh rfl
  ·rw[hn.1] at hr
   cases hr
   exact oneQ_one h2 e
  ·rw[hn.1] at hr;cases hr
theorem PsB.rest {n:Nat} {p:Ps} (h:PsB n p):PsB n (restQ p).1∧(restQ p).2.length≤n:=by
 obtain⟨s,h1,h2⟩:=h.st
 rw[h1.rest]
 split
 ·exact⟨h,Nat.zero_le _⟩
 ·exact⟨ps0_b.le (Nat.zero_le _),h2⟩
open Go.RowKit Go.Shelf
attribute [local go_sem] Oper.semAt_some
theorem sevV_agg (e:Sev):∃ (a c:Int) (t:ByteArray),sevV e=.agg #[.int .i64 a,.int .i64 c,.string t]:=by cases e <;> exact⟨_,_,_,rfl⟩
theorem reason_sm (c:Int):(reasonL c).length≤1000000:=by
 unfold reasonL
 repeat' split
 all_goals decide
theorem G.hi {T:Nat→Prop} {W W':World} (h:G W) (hi:Hi T) (hc:Ch T W W'):G W':=h.ch hc (λg hg e=>absurd (hi g e) (by omega))
theorem RqB.sm {n:Nat} {r:Rq} (h:RqB n r) (hn:n≤100000):RqSm r:=⟨Nat.le_trans h.l (by decide),λf hf=>⟨Nat.le_trans (h.f f hf).1 hn,Nat.le_trans (h.f f hf).2 hn⟩,Nat.le_trans h.m hn,Nat.le_trans h.p hn,Nat.le_trans h.q hn,Nat.le_trans h.b (by decide)⟩
theorem pqbad_at' {b:Nat} {hv:Value} {T:Nat→Prop} {W:World} {s:Ss} (h:SnAt b hv T W s):∃ pb,W.cell? ⟨b,3,none⟩=some (.pointer (some ⟨pb,0,none⟩))∧Calls prog 69 #[.pointer (some ⟨pb,0,none⟩)] W λe w'=>e=.returned (.int .i64 s.p.bad)∧W=w':=by
 obtain⟨⟨c,pb,bb,cv,h,hT⟩,hl⟩:=h
 exact⟨pb,h.c3,pqbad_at h.kp⟩
section
variable {b:Nat} {g:Nat} {lb:Array Value} {F T:Nat→Prop} {H:Rq→Rp} {W:World} {s:Ss}
theorem sn_asks (h:SnAt b (.func (.func g) #[] lb) T W s) (hG:G W) (hi:Hi T) (hH:Hnd g lb F H W) (hF:∀ k,F k→¬T k) (hlim:s.limit≤1099511627776) (hB:PsB 90000 s.p):Calls prog 41 #[.pointer (some ⟨b,0,none⟩)] W λe w'=>e=.returned (.tuple #[sevO (ssAsks H s).2,.bool (ssAsks H s).2.isSome])∧Pst (SnAt b (.func (.func g) #[] lb)) T W (ssAsks H s).1 w':=by
 have hl':=hid h.2
 obtain⟨⟨c,pb,bb,cv,h,hT⟩,hl⟩:=h
 obtain⟨W1,hW1⟩:∃ W1,W.alloc (.cells #[.int .i64 0,.int .i64 0,.string ⟨#[]⟩] 28)=W1:=⟨_,rfl⟩
 have g1:Gr W W1:=hW1▸Gr.alloc W _
 have hE1:=hid (show W.heap.size<W1.heap.size by rw[←hW1];simp)
 have e0:W1.cell? ⟨W.heap.size,0,none⟩=some (.int .i64 0):=by rw[←hW1];exact cell_new7 _ _ _ 0 _ rfl
 have e1:W1.cell? ⟨W.heap.size,1,none⟩=some (.int .i64 0):=by rw[←hW1];exact cell_new7 _ _ _ 1 _ rfl
 have e2:W1.cell? ⟨W.heap.size,2,none⟩=some (.string ⟨#[]⟩):=by rw[←hW1];exact cell_new7 _ _ _ 2 _ rfl
 have ez:∀ o,W1.frozen? ⟨W.heap.size,o,none⟩=false:=λo=>by rw[←hW1];exact World.frozen?_alloc_at _ _ _ _ rfl
 have h1:=h.gr g1
 have hl1:=hid (λk (e:T k)=>Nat.lt_of_lt_of_le (hl k e) (Below.size g1))
 have hG1:=hG.gr g1
 have hH1:=hH.gr g1
 have hn:=hid (pqnext_at hG1 h1.kp hB.sum)
 obtain⟨hB2,hr,hbad⟩:=hB.next
 have c3:=h1.c3
 have hT':=hid hT
 have g1':=hid g1
 have h1':=hid h1
 have hG1':=hid hG1
 have hH1':=hid hH1
 obtain⟨p',o,hpo⟩:∃ p' o,nextQ s.p=(p',o):=⟨_,_,rfl⟩
 have hq0:ssAsks H s=match ((p',o):Ps×Option Rq) with
   |(p,some r)=>((ssAnswers H { s with p:=p } r).1,some (ssAnswers H { s with p:=p } r).2)
   |(p,none)=>if p.bad=0 then ({ s with p:=p },none) else (ssPuts { s with p:=p } ⟨p.bad,[],reasonL p.bad⟩ false true,some .done):=by rw[←hpo];rfl
 rw[hpo] at hn hB2 hr hbad
 dsimp only at hn hB2 hr hbad
 have hq:=hid hq0
 have hr':=hid hr
 have hbad':=hid hbad
 have hB2':=hid hB2
 clear h hT hl hG hH hB hq0 hpo hr hbad hB2 g1 h1 hG1 hH1
 go_enter func41,ntmps41
 go_wp2_with fail
 refine hn.out.mono ?_
 rintro e w2⟨rv,rfl,hf,hp⟩
 try rw[hW1]
 have hf':=hid hf
 obtain⟨pf,capf,rfl,_⟩:=hf
 unfold Rq.V
 have h2:=h1'.out.setP hp
 have hpst:=hid (h2.pst hl1.out (hp.2.mono (λk e=>hT'.out k (by rw[show c k=2 from e];decide))) (add_of hT'.out (Nat.le_refl _)))
 have hp':=hid hpst
 have hEX:W.heap.size<W1.heap.size:=cell_lt e0
 have hET:¬T (W.heap.size):=λe=>by have:=hl'.out _ e;omega
 replace e0:=(hpst.out.2.cell (p:=⟨W.heap.size,0,none⟩) hEX hET).trans e0
 replace e1:=(hpst.out.2.cell (p:=⟨W.heap.size,1,none⟩) hEX hET).trans e1
 replace e2:=(hpst.out.2.cell (p:=⟨W.heap.size,2,none⟩) hEX hET).trans e2
 replace ez:∀ o,w2.frozen? ⟨W.heap.size,o,none⟩=false:=λo=>(hpst.out.2.frozen (p:=⟨W.heap.size,o,none⟩) hEX hET).trans (ez o)
 have hEX':=hid hEX
 clear hEX
 clear h2 hp c3 hW1
 go_upto_region 2 with (fail)
 obtain⟨w3,hw3⟩:∃ w3,w2.alloc (.cells #[.string ⟨(rqO o).m.toArray⟩,.string ⟨(rqO o).p.toArray⟩,.string ⟨(rqO o).q.toArray⟩,.int .i64 (rqO o).v,.slice pf (rqO o).fs.length capf,.string ⟨(rqO o).b.toArray⟩,.bool (rqO o).c] 78)=w3:=⟨_,rfl⟩
 try rw[hw3]
 have g3:Gr w2 w3:=hw3▸Gr.alloc w2 _
 have hE2:W.heap.size<w2.heap.size:=cell_lt e0
 replace e0:=g3.cell e0
 replace e1:=g3.cell e1
 replace e2:=g3.cell e2
 replace ez:∀ o,w3.frozen? ⟨W.heap.size,o,none⟩=false:=λo=>(Below.frozen g3 (p:=⟨W.heap.size,o,none⟩) hE2).trans (ez o)
 have hp3:=hid ((snKin b (.func (.func g) #[] lb)).behind hpst.out g3)
 have hf3:=hid (hf'.out.gr g3)
 have hG3:=hid ((hG1'.out.hi hi hpst.out.2).gr g3)
 have hH3:=hid ((hH1'.out.ch hpst.out.2 hF).gr g3)
 cases o with
 | some r =>
  have hrq:=(hr'.out r rfl).sm (by decide)
  have han:=hid (sn_answers hp3.out.1 hG3.out hH3.out r _ hf3.out hrq hlim hB2'.out.sum)
  unfold Rq.V at han
  have r0:w3.cell? ⟨w2.heap.size,0,none⟩=some (.string ⟨r.m.toArray⟩):=by rw[←hw3];exact cell_new7 _ _ _ 0 _ rfl
  have r1:w3.cell? ⟨w2.heap.size,1,none⟩=some (.string ⟨r.p.toArray⟩):=by rw[←hw3];exact cell_new7 _ _ _ 1 _ rfl
  have r2:w3.cell? ⟨w2.heap.size,2,none⟩=some (.string ⟨r.q.toArray⟩):=by rw[←hw3];exact cell_new7 _ _ _ 2 _ rfl
  have r3:w3.cell? ⟨w2.heap.size,3,none⟩=some (.int .i64 r.v):=by rw[←hw3];exact cell_new7 _ _ _ 3 _ rfl
  have r4:w3.cell? ⟨w2.heap.size,4,none⟩=some (.slice pf r.fs.length capf):=by rw[←hw3];exact cell_new7 _ _ _ 4 _ rfl
  have r5:w3.cell? ⟨w2.heap.size,5,none⟩=some (.string ⟨r.b.toArray⟩):=by rw[←hw3];exact cell_new7 _ _ _ 5 _ rfl
  have r6:w3.cell? ⟨w2.heap.size,6,none⟩=some (.bool r.c):=by rw[←hw3];exact cell_new7 _ _ _ 6 _ rfl
  have hq2:=hid (show ssAsks H s=((ssAnswers H { s with p:=p' } r).1,some (ssAnswers H { s with p:=p' } r).2) from hq.out)
  clear hw3 g3 hn
  go_wp2_with fail
  refine han.out.mono ?_
  rintro e w4⟨rfl,hp4⟩
  obtain⟨n0,n1,nt,hnv⟩:=sevV_agg (ssAnswers H { s with p:=p' } r).2
  rw[hnv]
  have hnv':=hid hnv
  have hp5:=hid ((snKin b (.func (.func g) #[] lb)).trans hp3.out hp4)
  clear hnv r0 r1 r2 r3 r4 r5 r6
  have hEX:W.heap.size<w3.heap.size:=cell_lt e0
  have hET:¬Add T W1 w3 (W.heap.size):=λe=>by
   have:=hE1.out
   rcases e with e | e
   ·have:=hl'.out _ e;omega
   ·have:=e.1;omega
  replace e0:=(hp4.2.cell (p:=⟨W.heap.size,0,none⟩) hEX hET).trans e0
  replace e1:=(hp4.2.cell (p:=⟨W.heap.size,1,none⟩) hEX hET).trans e1
  replace e2:=(hp4.2.cell (p:=⟨W.heap.size,2,none⟩) hEX hET).trans e2
  replace ez:∀ o,w4.frozen? ⟨W.heap.size,o,none⟩=false:=λo=>(hp4.2.frozen (p:=⟨W.heap.size,o,none⟩) hEX hET).trans (ez o)
  have hEX':=hid hEX
  clear hEX
  go_wp2
  refine bodyPost_ret (v:=.tuple #[.agg #[.int .i64 n0,.int .i64 n1,.string nt],.bool true]) (by simp[results,results41,go_sem,sevV,sevO,e0,e1,e2]) rfl ?_
  rw[hq2.out]
  exact⟨by rw[←hnv'.out];rfl,kin_told (snKin b (.func (.func g) #[] lb)) hl'.out g1'.out hp5.out (ch3 w4 W.heap.size _ _ _) (λk e=>⟨by rw[show k=W.heap.size from e];exact Nat.le_refl _,by rw[show k=W.heap.size from e];exact hE1.out⟩)⟩
 | none =>
  have hbd:=hid (pqbad_at' hp3.out.1)
  have hq1:ssAsks H s=if p'.bad=0 then ({ s with p:=p' },none) else (ssPuts { s with p:=p' } ⟨p'.bad,[],reasonL p'.bad⟩ false true,some .done):=hq.out
  have hb431:=hbad'.out rfl
  by_cases hz:p'.bad=0
  ·have hq2:=hid (hq1.trans (if_pos hz))
   rw[hz] at hbd
   clear hq1 hz hw3 g3 hn hb431
   obtain⟨pbx,k3,hbd⟩:=hbd.out
   have hbd:=hid hbd
   go_wp2_with fail
   refine hbd.out.mono ?_
   rintro e w4⟨rfl,rfl⟩
   go_wp2
   refine bodyPost_ret (v:=.tuple #[sevO none,.bool false]) (by simp[results,results41,go_sem,sevV,sevO,e0,e1,e2]) rfl ?_
   rw[hq2.out]
   exact⟨rfl,kin_told (snKin b (.func (.func g) #[] lb)) hl'.out g1'.out hp3.out (ch3 w3 W.heap.size _ _ _) (λk e=>⟨by rw[show k=W.heap.size from e];exact Nat.le_refl _,by rw[show k=W.heap.size from e];exact hE1.out⟩)⟩
  ·have hq2:=hid (hq1.trans (if_neg hz))
   have hzI:((p'.bad:Int)==0)=false:=beq_false_of_ne (by omega)
   have hpu:=hid (λw (gw:Gr w3 w)=>sn_puts ((snKin b (.func (.func g) #[] lb)).gr hp3.out.1 gw) (hG3.out.gr gw) ⟨p'.bad,[],reasonL p'.bad⟩ (.slice none 0 0) (fieldsAt_none w 0) ⟨Nat.zero_le _,(λf hf=>by cases hf),reason_sm _,(by dsimp only;omega),(by dsimp only;omega)⟩ false true)
   unfold Rp.V at hpu
   clear hq1 hz hw3 g3 hn hb431
   obtain⟨pbx,k3,hbd⟩:=hbd.out
   have hbd:=hid hbd
   have hre:=hid (reason_any (p'.bad:Int) w3)
   go_wp2_with fail
   refine hbd.out.mono ?_
   rintro e w4⟨rfl,rfl⟩
   go_wp2_with fail
   refine hre.out.mono ?_
   rintro e w4⟨rfl,rfl⟩
   go_wp2_with fail
   refine (hpu.out _ (Gr.refl _)).mono ?_
   rintro e w4⟨rfl,hp4⟩
   have hp5:=hid ((snKin b (.func (.func g) #[] lb)).trans hp3.out hp4)
   have hEX:W.heap.size<w3.heap.size:=cell_lt e0
   have hET:¬Add T W1 w3 (W.heap.size):=λe=>by
    have:=hE1.out
    rcases e with e | e
    ·have:=hl'.out _ e;omega
    ·have:=e.1;omega
   replace e0:=(hp4.2.cell (p:=⟨W.heap.size,0,none⟩) hEX hET).trans e0
   replace e1:=(hp4.2.cell (p:=⟨W.heap.size,1,none⟩) hEX hET).trans e1
   replace e2:=(hp4.2.cell (p:=⟨W.heap.size,2,none⟩) hEX hET).trans e2
   replace ez:∀ o,w4.frozen? ⟨W.heap.size,o,none⟩=false:=λo=>(hp4.2.frozen (p:=⟨W.heap.size,o,none⟩) hEX hET).trans (ez o)
   have hEX':=hid hEX
   clear hEX
   clear hp4
   go_wp2
   refine bodyPost_ret (v:=.tuple #[sevV .done,.bool true]) (by simp[results,results41,go_sem,sevV,sevO,e0,e1,e2]) rfl ?_
   rw[hq2.out]
   exact⟨rfl,kin_told (snKin b (.func (.func g) #[] lb)) hl'.out g1'.out hp5.out (ch3 w4 W.heap.size _ _ _) (λk e=>⟨by rw[show k=W.heap.size from e];exact Nat.le_refl _,by rw[show k=W.heap.size from e];exact hE1.out⟩)⟩
end
end Go.Proofs.YtadobobfjnmdlaaGreatDoor
namespace Go.Proofs.YtadobobfjnmdlaaGreatDoor
def codeW:Wev→Nat
 | .closing n=>n
 | .failing n=>n
 | _=>0
def pingW:Wev→Nat
 | .ping t=>t.length
 | _=>0
theorem jnFail_bad {j:Jn} {c:Nat} (h:j.bad≤1009) (hc:c≤1009):(jnFail j c).bad≤1009:=by
 unfold jnFail
 split
 ·exact hc
 ·exact h
theorem jnBegin_bad {j:Jn} (h:j.bad≤1009) (l:Bool) (o n:Nat):(jnBegin j l o n).bad≤1009:=by
 unfold jnBegin
 repeat' split
 all_goals first | exact h | exact jnFail_bad h (by decide)
theorem jnPiece_bad {j:Jn} (h:j.bad≤1009) (s:List UInt8):(jnPiece j s).bad≤1009:=by
 unfold jnPiece
 repeat' split
 all_goals first | exact h | exact jnFail_bad h (by decide)
theorem jnEnd_bad {j:Jn} (h:j.bad≤1009):(jnEnd j).1.bad≤1009:=by
 unfold jnEnd
 repeat' split
 all_goals first | exact h | exact jnFail_bad h (by decide)
theorem readC_code (s:List UInt8):(readC s).1≤65535∧(readC s).2≤1009:=by
 have h0:=(s.getD 0 0).toNat_lt
 have h1:=(s.getD 1 0).toNat_lt
 unfold readC
 repeat' split
 all_goals (refine⟨?_,?_⟩ <;> dsimp only <;> omega)
theorem wnTakes_codes {c:Wn} (h:c.j.bad≤1009) (e:Fev):(wnTakes c e).1.j.bad≤1009∧∀ x,(wnTakes c e).2=some x→codeW x≤65535∧pingW x≤c.data.length:=by
 have hr:=readC_code c.data
 have hb:=λl o n=>jnBegin_bad h l o n
 have hp:=λs=>jnPiece_bad h s
 have he:=jnEnd_bad h
 have none:∀ x,(none:Option Wev)=some x→codeW x≤65535∧pingW x≤c.data.length:=λx e=>by cases e
 have fail:∀ n,n≤1009→∀ x,some (Wev.failing n)=some x→codeW x≤65535∧pingW x≤c.data.length:=λn hn x e=>by cases e;exact⟨Nat.le_trans hn (by decide),Nat.zero_le _⟩
 have ctl:∀ e,(wnControl c e).1.j.bad≤1009∧∀ x,(wnControl c e).2=some x→codeW x≤65535∧pingW x≤c.data.length:=by
  intro e
  unfold wnControl
  split
  ·exact⟨h,none⟩
  ·split
   ·split
    ·exact⟨h,fail _ hr.2⟩
    ·exact⟨h,λx e=>by cases e;exact⟨hr.1,Nat.zero_le _⟩⟩
   ·split
    ·exact⟨h,λx e=>by cases e;exact⟨Nat.zero_le _,Nat.le_refl _⟩⟩
    ·exact⟨h,none⟩
 have join:∀ e,(wnJoin c e).1.j.bad≤1009∧∀ x,(wnJoin c e).2=some x→codeW x≤65535∧pingW x≤c.data.length:=by
  intro e
  unfold wnJoin
  cases e with
  | begin' l o n =>
   dsimp only
   split
   ·exact⟨hb l o n,fail _ (hb l o n)⟩
   ·exact⟨hb l o n,none⟩
  | piece s =>
   dsimp only
   split
   ·exact⟨hp s,fail _ (hp s)⟩
   ·exact⟨hp s,none⟩
  | fin =>
   dsimp only
   split
   ·exact⟨he,fail _ he⟩
   ·refine⟨he,λx e=>?_⟩
    cases hq:(jnEnd c.j).2 with
    | none=>rw[hq] at e;cases e
    | some m=>rw[hq] at e;cases e;exact⟨Nat.zero_le _,Nat.zero_le _⟩
  | fail=>exact⟨h,none⟩
 unfold wnTakes
 cases e with
 | fail=>exact⟨h,fail _ (by decide)⟩
 | begin' l o n =>
  dsimp only
  split
  ·exact⟨h,none⟩
  ·split
   ·exact ctl _
   ·split
    ·exact⟨h,none⟩
    ·exact join _
 | piece s =>
  dsimp only
  split
  ·exact ctl _
  ·split
   ·exact⟨h,none⟩
   ·exact join _
 | fin =>
  dsimp only
  split
  ·exact ctl _
  ·split
   ·exact⟨h,none⟩
   ·exact join _
theorem wnGo_codes {n:Nat}:∀ (m:Nat) (c:Wn),WnB n c→c.j.bad≤1009→(wnGo m c).1.j.bad≤1009∧∀ x,(wnGo m c).2=some x→codeW x≤65535∧pingW x≤n
 | 0,c,_,h=>⟨h,λx e=>by cases e⟩
 | m+1,c,hB,h=>by
  unfold wnGo
  split
  ·exact⟨h,λx e=>by cases e⟩
  ·cases hn:frNext c.r with
   | mk r o =>
    cases o with
    | none=>exact⟨h,λx e=>by cases e⟩
    | some e =>
     have hs:=hB.step hn
     have hc:=wnTakes_codes (c:={ c with r:=r }) h e
     have hd:c.data.length≤n:=by have:=hB.d;omega
     dsimp only
     split
     ·rename_i c' x hx
      rw[hx] at hc
      exact⟨hc.1,λy ey=>by cases ey;exact⟨(hc.2 _ rfl).1,Nat.le_trans (hc.2 _ rfl).2 hd⟩⟩
     ·rename_i c' hx
      rw[hx] at hc hs
      exact wnGo_codes m c' hs.1 hc.1
structure WnC (n:Nat) (c:Wn):Prop where
 b:WnB n c
 j:c.j.bad≤1009
theorem wn0_c (limit:Nat):WnC 0 (wn0 limit):=⟨wn0_b limit,Nat.zero_le _⟩
theorem WnC.le {n m:Nat} {c:Wn} (h:WnC n c) (hm:n≤m):WnC m c:=⟨h.b.le hm,h.j⟩
theorem WnC.feed {n:Nat} {c:Wn} (h:WnC n c) (b:List UInt8):WnC (n+b.length) (wnFeed c b):=⟨h.b.feed b,by
 have:=h.j
 unfold wnFeed
 split <;> exact this⟩
theorem WnC.next {n:Nat} {c:Wn} (h:WnC n c):WnC n (wnNext c).1∧∀ x,(wnNext c).2=some x→codeW x≤65535∧pingW x≤n :=
 ⟨⟨h.b.next,(wnGo_codes _ c h.b h.j).1⟩,(wnGo_codes _ c h.b h.j).2⟩
structure BxT (n:Nat) (x:Bx):Prop where
 p:∀ s,x.pong=some s→s.length≤n
 m:∀ i∈x.msgs,i.text.length≤n
 c:∀ s,x.close=some s→s.length≤2
theorem bx0_t (q:Nat):BxT 0 (bx0 q):=⟨(λs e=>by cases e),(λi hi=>by cases hi),(λs e=>by cases e)⟩
theorem BxT.le {n m:Nat} {x:Bx} (h:BxT n x) (hm:n≤m):BxT m x:=⟨λs e=>Nat.le_trans (h.p s e) hm,λi hi=>Nat.le_trans (h.m i hi) hm,h.c⟩
theorem BxT.reply {n:Nat} {x:Bx} (h:BxT n x) (s:List UInt8):BxT n (bxReply x s).1:=by
 unfold bxReply
 repeat' split
 all_goals exact⟨h.p,h.m,h.c⟩
theorem BxT.pong {n:Nat} {x:Bx} (h:BxT n x) (s:List UInt8) (hs:s.length≤n):BxT n (bxPong x s).1:=by
 unfold bxPong
 split
 ·exact h
 ·exact⟨λt e=>by cases e;exact hs,h.m,h.c⟩
theorem closW_len (c:Nat):(closW c).length≤2:=by
 unfold closW
 split
 ·exact Nat.zero_le _
 ·split
  ·exact Nat.le_refl _
  ·exact Nat.zero_le _
theorem BxT.close {n:Nat} {x:Bx} (h:BxT n x) (s:List UInt8) (hs:s.length≤2):BxT n (bxClose x s).1:=by
 unfold bxClose
 split
 ·exact h
 ·exact⟨h.p,h.m,λt e=>by cases e;exact hs⟩
theorem BxT.end' {n:Nat} {x:Bx} (h:BxT n x):BxT n (bxEnd x):=⟨h.p,h.m,h.c⟩
theorem BxT.next {n:Nat} {x:Bx} (h:BxT n x):BxT n (bxNext x).1∧∀ it,(bxNext x).2=some it→it.kind=1∨it.text.length≤n+2:=by
 obtain⟨q,reps,pong,msgs,close,closed,ends,told⟩:=x
 obtain⟨h1,h2,h3⟩:=h
 dsimp only at h1 h2 h3
 unfold bxNext
 dsimp only
 cases reps with
 | cons a l=>exact⟨⟨h1,h2,h3⟩,λit e=>by cases e;exact .inl rfl⟩
 | nil =>
  cases pong with
  | some a=>exact⟨⟨(λs e=>by cases e),h2,h3⟩,λit e=>by cases e;exact .inr (Nat.le_trans (h1 a rfl) (Nat.le_add_right _ _))⟩
  | none =>
   cases msgs with
   | cons a l=>exact⟨⟨h1,λi hi=>h2 i (List.mem_cons_of_mem _ hi),h3⟩,λit e=>by cases e;exact .inr (Nat.le_trans (h2 a (List.mem_cons_self ..)) (Nat.le_add_right _ _))⟩
   | nil =>
    cases close with
    | some a=>exact⟨⟨h1,h2,(λs e=>by cases e)⟩,λit e=>by cases e;exact .inr (Nat.le_trans (h3 a rfl) (Nat.le_add_left _ _))⟩
    | none =>
     dsimp only
     split
     ·exact⟨⟨h1,h2,h3⟩,λit e=>by cases e;exact .inr (Nat.zero_le _)⟩
     ·exact⟨⟨h1,h2,h3⟩,λit e=>by cases e⟩
structure SsB (n:Nat) (s:Ss):Prop where
 lim:s.limit≤1099511627776
 p:PsB n s.p
 w:∀ w,s.c=some w→WnC n w
 x:BxT n s.x
theorem ss0_b {q limit:Nat} (h:limit≤1099511627776):SsB 0 (ss0 q limit) :=
 ⟨h,ps0_b,(λw e=>by cases e),bx0_t q⟩
theorem SsB.le {n m:Nat} {s:Ss} (h:SsB n s) (hm:n≤m):SsB m s:=⟨h.lim,h.p.le hm,λw e=>(h.w w e).le hm,h.x.le hm⟩
theorem SsB.feed {n:Nat} {s:Ss} (h:SsB n s) (b:List UInt8):SsB (n+b.length) (ssFeed s b):=by
 have h':=h.le (Nat.le_add_right n b.length)
 unfold ssFeed
 split
 ·exact⟨h'.lim,h.p.feed b,h'.w,h'.x⟩
 ·split
  ·refine⟨h'.lim,h'.p,λw e=>?_,h'.x⟩
   dsimp only at e
   cases hc:s.c with
   | none=>rw[hc] at e;cases e
   | some c=>rw[hc] at e;cases e;exact (h.w c hc).feed b
  ·exact h'
theorem SsB.ends {n:Nat} {s:Ss} (h:SsB n s):SsB n (ssEnds s):=⟨h.lim,h.p,h.w,h.x.end'⟩
theorem SsB.puts {n:Nat} {s:Ss} (h:SsB n s) (x:Rp) (hd cl:Bool):SsB n (ssPuts s x hd cl):=by
 have h1:SsB n { s with x:=(bxReply s.x (putB x hd cl)).1 }:=⟨h.lim,h.p,h.w,h.x.reply _⟩
 unfold ssPuts
 split
 ·exact h1.ends
 ·exact h1
theorem SsB.up {n:Nat} {s:Ss} (h:SsB n s):SsB n (ssUp s):=by
 obtain⟨h1,h2⟩:=h.p.rest
 refine⟨h.lim,h1,λw e=>?_,h.x⟩
 cases e
 have:=(wn0_c s.limit).feed (restQ s.p).2
 rw[Nat.zero_add] at this
 exact this.le h2
theorem SsB.answers {n:Nat} {s:Ss} {H:Rq→Rp} (h:SsB n s) (r:Rq):SsB n (ssAnswers H s r).1:=by
 unfold ssAnswers
 split
 ·split
  ·exact (h.puts _ _ _).up
  ·exact h.puts _ _ _
 ·exact h.puts _ _ _
theorem SsB.asks {n:Nat} {s:Ss} {H:Rq→Rp} (h:SsB n s):SsB n (ssAsks H s).1:=by
 have hp:=h.p.next.1
 unfold ssAsks
 split
 ·rename_i p r hq
  rw[hq] at hp
  exact SsB.answers (s:={ s with p:=p }) ⟨h.lim,hp,h.w,h.x⟩ r
 ·rename_i p hq
  rw[hq] at hp
  have h1:SsB n { s with p:=p }:=⟨h.lim,hp,h.w,h.x⟩
  split
  ·exact h1
  ·exact SsB.puts (s:={ s with p:=p }) h1 ⟨p.bad,[],reasonL p.bad⟩ false true
theorem SsB.closes {n:Nat} {s:Ss} (h:SsB n s) (code:Nat):SsB n (ssCloses s code):=⟨h.lim,h.p,h.w,h.x.close _ (closW_len _)⟩
theorem SsB.gone {n:Nat} {s:Ss} (h:SsB n s) (was code:Nat):SsB n (ssGone s was code):=by
 unfold ssGone
 split
 ·exact (h.closes _).ends
 ·exact h.ends
theorem SsB.setC {n:Nat} {s:Ss} (h:SsB n s) {w:Wn} (hw:WnC n w):SsB n { s with c:=some w }:=⟨h.lim,h.p,λw' e=>by cases e;exact hw,h.x⟩
theorem wn00_c (n:Nat):WnC n (wn0 0):=(wn0_c 0).le (Nat.zero_le _)
theorem SsB.wn {n:Nat} {s:Ss} (h:SsB n s):WnC n (ssWn s):=by
 unfold ssWn
 cases hc:s.c with
 | none=>exact wn00_c n
 | some c=>exact h.w c hc
theorem SsB.says {n:Nat} {s:Ss} (h:SsB n s):SsB n (ssSays s).1:=by
 have hw:=h.wn.next
 unfold ssSays
 cases e:wnNext (ssWn s) with
 | mk c o =>
  rw[e] at hw
  have h1:=h.setC hw.1
  cases o with
  | none=>exact h1
  | some x =>
   cases x with
   | message op t=>exact h1
   | ping t=>exact⟨h1.lim,h1.p,h1.w,h.x.pong t (hw.2 _ rfl).2⟩
   | closing code=>exact h1.gone _ _
   | failing code=>exact h1.gone _ _
theorem SsB.fresh {n:Nat} {s:Ss} (h:SsB n s) (f:Bool):SsB n { s with fresh:=f }:=⟨h.lim,h.p,h.w,h.x⟩
theorem SsB.next {n:Nat} {s:Ss} {H:Rq→Rp} (h:SsB n s):SsB n (ssNext H s).1:=by
 unfold ssNext
 split
 ·exact h
 ·dsimp only
  have h1:SsB n (ssAsks H s).1:=h.asks
  have h2:SsB n (ssSays s).1:=h.says
  by_cases q:s.st=1
  ·rw[if_pos q]
   split
   ·exact h1.fresh _
   ·exact h1
  ·rw[if_neg q]
   split
   ·exact h2.fresh _
   ·exact h2
theorem SsB.out {n:Nat} {s:Ss} (h:SsB n s):SsB n (ssOut s).1:=⟨h.lim,h.p,h.w,h.x.next.1⟩
