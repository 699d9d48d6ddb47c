/-
  A session in memory: what a socket's other end says; the next event. (Printed by mk_eh.py.)
-/
import Derived.Test.YtadobobfjnmdlaaGreatDoorP61
set_option linter.unnecessarySimpa false
set_option linter.unusedVariables false
set_option linter.unusedSimpArgs false
set_option maxHeartbeats 16000000
set_option maxRecDepth 100000
open Go.Lib (hid)
open Go.Proofs.Tryz
namespace Go.Proofs.YtadobobfjnmdlaaGreatDoor
open Go.RowKit Go.Shelf
attribute [local go_sem] Oper.semAt_some
section
variable {b:Nat} {g:Nat} {lb:Array Value} {F T:Nat→Prop} {H:Rq→Rp} {W:World} {s:Ss} {hv:Value}
theorem sn_says (h:SnAt b hv T W s) {w:Wn} (hw:s.c=some w) {n:Nat} (hB:WnB n w) (hn:n≤4611686018427387900) (hcode:∀ x,(wnNext w).2=some x→codeW x≤65535):Calls prog 42 #[.pointer (some ⟨b,0,none⟩)] W λe w'=>e=.returned (.tuple #[sevO (ssSays s).2,.bool (ssSays s).2.isSome])∧Pst (SnAt b hv) T W (ssSays s).1 w':=by
 have hl':=hid h.2
 obtain⟨⟨c,pb,bb,cv,h,hT⟩,hl⟩:=h
 obtain⟨W1,hW1⟩:∃ W1,W.alloc (.cells #[.int .i64 0,.int .i64 0,.string ⟨#[]⟩] 28)=W1:=⟨_,rfl⟩
 have g1:Gr W W1:=hW1▸Gr.alloc W _
 have hE1:=hid (show W.heap.size<W1.heap.size by rw[←hW1];simp)
 have e0:W1.cell? ⟨W.heap.size,0,none⟩=some (.int .i64 0):=by rw[←hW1];exact cell_new7 _ _ _ 0 _ rfl
 have e1:W1.cell? ⟨W.heap.size,1,none⟩=some (.int .i64 0):=by rw[←hW1];exact cell_new7 _ _ _ 1 _ rfl
 have e2:W1.cell? ⟨W.heap.size,2,none⟩=some (.string ⟨#[]⟩):=by rw[←hW1];exact cell_new7 _ _ _ 2 _ rfl
 have ez:∀ o,W1.frozen? ⟨W.heap.size,o,none⟩=false:=λo=>by rw[←hW1];exact World.frozen?_alloc_at _ _ _ _ rfl
 have h1:=h.gr g1
 have hl1:=hid (λk (e:T k)=>Nat.lt_of_lt_of_le (hl k e) (Below.size g1))
 have kw:=h1.kw
 rw[hw] at kw
 obtain⟨k0,rfl,kw⟩:=kw
 have c4:=h1.c4
 have hst:=hid (wstate_at kw)
 have hnx0:=wnext_at kw hB hn
 have hT':=hid hT
 have g1':=hid g1
 have h1':=hid h1
 have hw':=hid hw
 obtain⟨w',o,hwo⟩:∃ w' o,wnNext w=(w',o):=⟨_,_,rfl⟩
 have hwn:ssWn s=w:=by unfold ssWn;rw[hw];rfl
 have hq0:ssSays s=match ((w',o):Wn×Option Wev) with
   |(c,none)=>({ s with c:=some c },none)
   |(c,some (.message op t))=>({ s with c:=some c },some (.said op t))
   |(c,some (.ping t))=>({ s with c:=some c,x:=(bxPong s.x t).1 },some .done)
   |(c,some (.closing code))=>(ssGone { s with c:=some c } w.st code,some .done)
   |(c,some (.failing code))=>(ssGone { s with c:=some c } w.st code,some .done):=by
  rw[←hwo]
  unfold ssSays
  rw[hwn]
  cases wnNext w with
  | mk c o=>cases o with
   | none=>rfl
   | some x=>cases x <;> rfl
 rw[hwo] at hnx0 hcode
 dsimp only at hnx0 hcode
 have hnx:=hid hnx0
 have hq:=hid hq0
 clear h hT hl hB hq0 hwo g1 h1 hw hwn kw hnx0
 go_enter func42,ntmps42
 go_wp2_with fail
 refine hst.out.mono ?_
 rintro e w2⟨rfl,rfl⟩
 go_wp2_with fail
 refine hnx.out.mono ?_
 rintro e w2⟨rfl,hp⟩
 try rw[hW1]
 have hpst:=hid ((h1'.out.setW hw'.out hp).pst hl1.out (hp.2.mono (λk e=>hT'.out k (by rw[show c k=3 from e];decide))) (add_of hT'.out (Nat.le_refl _)))
 have hEX:W.heap.size<W1.heap.size:=cell_lt e0
 have hET:¬T (W.heap.size):=λe=>by have:=hl'.out _ e;omega
 replace e0:=(hpst.out.2.cell (p:=⟨W.heap.size,0,none⟩) hEX hET).trans e0
 replace e1:=(hpst.out.2.cell (p:=⟨W.heap.size,1,none⟩) hEX hET).trans e1
 replace e2:=(hpst.out.2.cell (p:=⟨W.heap.size,2,none⟩) hEX hET).trans e2
 replace ez:∀ o,w2.frozen? ⟨W.heap.size,o,none⟩=false:=λo=>(hpst.out.2.frozen (p:=⟨W.heap.size,o,none⟩) hEX hET).trans (ez o)
 have hEX':=hid hEX
 clear hEX
 clear hp c4 hW1
 cases o with
 | none =>
  have hq2:=hid (show ssSays s=({ s with c:=some w' },none) from hq.out)
  unfold wevZ
  dsimp only
  go_upto_region 3 with (fail)
  obtain⟨w3,hw3⟩:∃ w3,w2.alloc (.cells #[.int .i64 0,.int .i64 0,.int .i64 0,.string ⟨#[]⟩] 129)=w3:=⟨_,rfl⟩
  have g3:Gr w2 w3:=hw3▸Gr.alloc w2 _
  have hp3:=hid ((snKin b hv).behind hpst.out g3)
  have v0:w3.cell? ⟨w2.heap.size,0,none⟩=some (.int .i64 0):=by rw[←hw3];exact cell_new7 _ _ _ 0 _ rfl
  have v1:w3.cell? ⟨w2.heap.size,1,none⟩=some (.int .i64 0):=by rw[←hw3];exact cell_new7 _ _ _ 1 _ rfl
  have v2:w3.cell? ⟨w2.heap.size,2,none⟩=some (.int .i64 0):=by rw[←hw3];exact cell_new7 _ _ _ 2 _ rfl
  have v3:w3.cell? ⟨w2.heap.size,3,none⟩=some (.string ⟨#[]⟩):=by rw[←hw3];exact cell_new7 _ _ _ 3 _ rfl
  have hE2:W.heap.size<w2.heap.size:=cell_lt e0
  replace e0:=g3.cell e0
  replace e1:=g3.cell e1
  replace e2:=g3.cell e2
  replace ez:∀ o,w3.frozen? ⟨W.heap.size,o,none⟩=false:=λo=>(Below.frozen g3 (p:=⟨W.heap.size,o,none⟩) hE2).trans (ez o)
  try rw[hw3]
  have g3':=hid g3
  clear hw3 v0 v1 v2 v3 hE2 g3
  go_wp2
  refine bodyPost_ret (v:=.tuple #[sevO none,.bool false]) (by simp[results,results42,go_sem,sevV,sevO,e0,e1,e2]) rfl ?_
  rw[hq2.out]
  exact⟨rfl,kin_told (snKin b hv) hl'.out g1'.out hp3.out (ch3 w3 W.heap.size _ _ _) (λk e=>⟨by rw[show k=W.heap.size from e];exact Nat.le_refl _,by rw[show k=W.heap.size from e];exact hE1.out⟩)⟩
 | some x =>
  have hcx:=hcode x rfl
  cases x with
  | message op t =>
   have hq2:=hid (show ssSays s=({ s with c:=some w' },some (.said op t)) from hq.out)
   unfold wevZ
   dsimp only
   go_upto_region 3 with (fail)
   obtain⟨w3,hw3⟩:∃ w3,w2.alloc (.cells #[.int .i64 1,.int .i64 op,.int .i64 0,.string ⟨t.toArray⟩] 129)=w3:=⟨_,rfl⟩
   have g3:Gr w2 w3:=hw3▸Gr.alloc w2 _
   have hp3:=hid ((snKin b hv).behind hpst.out g3)
   have v0:w3.cell? ⟨w2.heap.size,0,none⟩=some (.int .i64 1):=by rw[←hw3];exact cell_new7 _ _ _ 0 _ rfl
   have v1:w3.cell? ⟨w2.heap.size,1,none⟩=some (.int .i64 op):=by rw[←hw3];exact cell_new7 _ _ _ 1 _ rfl
   have v2:w3.cell? ⟨w2.heap.size,2,none⟩=some (.int .i64 0):=by rw[←hw3];exact cell_new7 _ _ _ 2 _ rfl
   have v3:w3.cell? ⟨w2.heap.size,3,none⟩=some (.string ⟨t.toArray⟩):=by rw[←hw3];exact cell_new7 _ _ _ 3 _ rfl
   have hE2:W.heap.size<w2.heap.size:=cell_lt e0
   replace e0:=g3.cell e0
   replace e1:=g3.cell e1
   replace e2:=g3.cell e2
   replace ez:∀ o,w3.frozen? ⟨W.heap.size,o,none⟩=false:=λo=>(Below.frozen g3 (p:=⟨W.heap.size,o,none⟩) hE2).trans (ez o)
   try rw[hw3]
   have g3':=hid g3
   have hs3:w2.heap.size<w3.heap.size:=cell_lt v0
   have hEn:W.heap.size≠w2.heap.size:=by omega
   clear hw3 hE2 g3
   go_wp2
   refine bodyPost_ret (v:=.tuple #[sevV (.said op t),.bool true]) (by simp[results,results42,go_sem,sevV,sevO,e0,e1,e2]) rfl ?_
   rw[hq2.out]
   exact⟨rfl,kin_told (snKin b hv) hl'.out g1'.out hp3.out (ch3 w3 W.heap.size _ _ _) (λk e=>⟨by rw[show k=W.heap.size from e];exact Nat.le_refl _,by rw[show k=W.heap.size from e];exact hE1.out⟩)⟩
  | ping t =>
   have hq2:=hid (show ssSays s=({ s with c:=some w',x:=(bxPong s.x t).1 },some .done) from hq.out)
   unfold wevZ
   dsimp only
   go_upto_region 3 with (fail)
   obtain⟨w3,hw3⟩:∃ w3,w2.alloc (.cells #[.int .i64 2,.int .i64 0,.int .i64 0,.string ⟨t.toArray⟩] 129)=w3:=⟨_,rfl⟩
   have g3:Gr w2 w3:=hw3▸Gr.alloc w2 _
   have hp3:=hid ((snKin b hv).behind hpst.out g3)
   have v0:w3.cell? ⟨w2.heap.size,0,none⟩=some (.int .i64 2):=by rw[←hw3];exact cell_new7 _ _ _ 0 _ rfl
   have v1:w3.cell? ⟨w2.heap.size,1,none⟩=some (.int .i64 0):=by rw[←hw3];exact cell_new7 _ _ _ 1 _ rfl
   have v2:w3.cell? ⟨w2.heap.size,2,none⟩=some (.int .i64 0):=by rw[←hw3];exact cell_new7 _ _ _ 2 _ rfl
   have v3:w3.cell? ⟨w2.heap.size,3,none⟩=some (.string ⟨t.toArray⟩):=by rw[←hw3];exact cell_new7 _ _ _ 3 _ rfl
   have hE2:W.heap.size<w2.heap.size:=cell_lt e0
   replace e0:=g3.cell e0
   replace e1:=g3.cell e1
   replace e2:=g3.cell e2
   replace ez:∀ o,w3.frozen? ⟨W.heap.size,o,none⟩=false:=λo=>(Below.frozen g3 (p:=⟨W.heap.size,o,none⟩) hE2).trans (ez o)
   try rw[hw3]
   have g3':=hid g3
   clear hE2 g3
   go_upto_region 12 with (fail)
   try rw[hw3]
   clear hw3
   obtain⟨⟨⟨c9,pb9,bb9,cv9,h9,hT9⟩,hl9⟩,hc9⟩:=hp3.out
   have c5:=h9.c5
   have h9':=hid h9
   have hT9':=hid hT9
   have hl9':=hid hl9
   clear h9 hT9 hl9 hc9
   go_region_with (first
    |(go_at_call 73;refine (bpong_any t (h9'.out.gr (Gr.drew' _)).kx).mono ?_;rintro e w4 ⟨rfl,hp4⟩;have hp4':=hid hp4;clear hp4))
   all_goals
    have h10:=(h9'.out.gr (Gr.drew' _)).setX hp4'.out
    have hp5:=(snKin b hv).ahead (Gr.drew' w3) (h10.pst (λk e=>Nat.lt_of_lt_of_le (hl9'.out k e) (Below.size (Gr.drew' w3))) (hp4'.out.2.mono (λk e=>hT9'.out k (by rw[show c9 k=4 from e];decide))) (add_of hT9'.out (Nat.le_refl _)))
    have hp6:=hid ((snKin b hv).trans hp3.out hp5)
    have hEX:W.heap.size<w3.heap.size:=cell_lt e0
    have hET:¬Add T W1 w3 (W.heap.size):=λe=>by
     have:=hE1.out
     rcases e with e | e
     ·have:=hl'.out _ e;omega
     ·have:=e.1;omega
    replace e0:=(hp5.2.cell (p:=⟨W.heap.size,0,none⟩) hEX hET).trans e0
    replace e1:=(hp5.2.cell (p:=⟨W.heap.size,1,none⟩) hEX hET).trans e1
    replace e2:=(hp5.2.cell (p:=⟨W.heap.size,2,none⟩) hEX hET).trans e2
    replace ez:∀ o,w4.frozen? ⟨W.heap.size,o,none⟩=false:=λo=>(hp5.2.frozen (p:=⟨W.heap.size,o,none⟩) hEX hET).trans (ez o)
    have hEX':=hid hEX
    clear hEX
    clear h10 hp5 c5 v0 v1 v2 v3
    go_wp2
    refine bodyPost_ret (v:=.tuple #[sevV .done,.bool true]) (by simp[results,results42,go_sem,sevV,sevO,e0,e1,e2]) rfl ?_
    rw[hq2.out]
    exact⟨rfl,kin_told (snKin b hv) hl'.out g1'.out hp6.out (ch3 w4 W.heap.size _ _ _) (λk e=>⟨by rw[show k=W.heap.size from e];exact Nat.le_refl _,by rw[show k=W.heap.size from e];exact hE1.out⟩)⟩
  | closing code =>
   have hq1:ssSays s=(ssGone { s with c:=some w' } w.st code,some .done):=hq.out
   have hcx':code≤65535:=hcx
   unfold wevZ
   dsimp only
   go_upto_region 3 with (fail)
   obtain⟨w3,hw3⟩:∃ w3,w2.alloc (.cells #[.int .i64 3,.int .i64 0,.int .i64 code,.string ⟨#[]⟩] 129)=w3:=⟨_,rfl⟩
   have g3:Gr w2 w3:=hw3▸Gr.alloc w2 _
   have hp3:=hid ((snKin b hv).behind hpst.out g3)
   have v0:w3.cell? ⟨w2.heap.size,0,none⟩=some (.int .i64 3):=by rw[←hw3];exact cell_new7 _ _ _ 0 _ rfl
   have v1:w3.cell? ⟨w2.heap.size,1,none⟩=some (.int .i64 0):=by rw[←hw3];exact cell_new7 _ _ _ 1 _ rfl
   have v2:w3.cell? ⟨w2.heap.size,2,none⟩=some (.int .i64 code):=by rw[←hw3];exact cell_new7 _ _ _ 2 _ rfl
   have v3:w3.cell? ⟨w2.heap.size,3,none⟩=some (.string ⟨#[]⟩):=by rw[←hw3];exact cell_new7 _ _ _ 3 _ rfl
   have hE2:W.heap.size<w2.heap.size:=cell_lt e0
   replace e0:=g3.cell e0
   replace e1:=g3.cell e1
   replace e2:=g3.cell e2
   replace ez:∀ o,w3.frozen? ⟨W.heap.size,o,none⟩=false:=λo=>(Below.frozen g3 (p:=⟨W.heap.size,o,none⟩) hE2).trans (ez o)
   try rw[hw3]
   have g3':=hid g3
   have hcl:=hid (sn_closes hp3.out.1 code hcx')
   have hen:=hid (sn_ends hp3.out.1)
   clear hE2 g3
   by_cases h1s:w.st=1
   ·have hq2:=hid (show ssSays s=(ssEnds (ssCloses { s with c:=some w' } code),some .done) by rw[hq1];unfold ssGone;rw[if_pos h1s])
    have hz1:((w.st:Int)==1)=true:=beq_iff_eq.2 (by omega)
    clear h1s hq1
    go_wp2_with fail
    try rw[hw3]
    refine hcl.out.mono ?_
    rintro e w4⟨rfl,hp4⟩
    have hen2:=hid (sn_ends hp4.1)
    have hp4':=hid hp4
    clear hp4 v0 v1 v2 v3 hw3
    go_wp2_with fail
    refine hen2.out.mono ?_
    rintro e w5⟨rfl,hp5⟩
    have hp45:=(snKin b hv).trans hp4'.out hp5
    have hp6:=hid ((snKin b hv).trans hp3.out hp45)
    have hEX:W.heap.size<w3.heap.size:=cell_lt e0
    have hET:¬Add T W1 w3 (W.heap.size):=λe=>by
     have:=hE1.out
     rcases e with e | e
     ·have:=hl'.out _ e;omega
     ·have:=e.1;omega
    replace e0:=(hp45.2.cell (p:=⟨W.heap.size,0,none⟩) hEX hET).trans e0
    replace e1:=(hp45.2.cell (p:=⟨W.heap.size,1,none⟩) hEX hET).trans e1
    replace e2:=(hp45.2.cell (p:=⟨W.heap.size,2,none⟩) hEX hET).trans e2
    replace ez:∀ o,w5.frozen? ⟨W.heap.size,o,none⟩=false:=λo=>(hp45.2.frozen (p:=⟨W.heap.size,o,none⟩) hEX hET).trans (ez o)
    have hEX':=hid hEX
    clear hEX
    clear hp45 hp5
    go_wp2
    refine bodyPost_ret (v:=.tuple #[sevV .done,.bool true]) (by simp[results,results42,go_sem,sevV,sevO,e0,e1,e2]) rfl ?_
    rw[hq2.out]
    exact⟨rfl,kin_told (snKin b hv) hl'.out g1'.out hp6.out (ch3 w5 W.heap.size _ _ _) (λk e=>⟨by rw[show k=W.heap.size from e];exact Nat.le_refl _,by rw[show k=W.heap.size from e];exact hE1.out⟩)⟩
   ·have hq2:=hid (show ssSays s=(ssEnds { s with c:=some w' },some .done) by rw[hq1];unfold ssGone;rw[if_neg h1s])
    have hz1:((w.st:Int)==1)=false:=beq_false_of_ne (by omega)
    clear h1s hq1
    go_wp2_with fail
    try rw[hw3]
    refine hen.out.mono ?_
    rintro e w5⟨rfl,hp5⟩
    have hp6:=hid ((snKin b hv).trans hp3.out hp5)
    have hEX:W.heap.size<w3.heap.size:=cell_lt e0
    have hET:¬Add T W1 w3 (W.heap.size):=λe=>by
     have:=hE1.out
     rcases e with e | e
     ·have:=hl'.out _ e;omega
     ·have:=e.1;omega
    replace e0:=(hp5.2.cell (p:=⟨W.heap.size,0,none⟩) hEX hET).trans e0
    replace e1:=(hp5.2.cell (p:=⟨W.heap.size,1,none⟩) hEX hET).trans e1
    replace e2:=(hp5.2.cell (p:=⟨W.heap.size,2,none⟩) hEX hET).trans e2
    replace ez:∀ o,w5.frozen? ⟨W.heap.size,o,none⟩=false:=λo=>(hp5.2.frozen (p:=⟨W.heap.size,o,none⟩) hEX hET).trans (ez o)
    have hEX':=hid hEX
    clear hEX
    clear hp5 v0 v1 v2 v3 hw3
    go_wp2
    refine bodyPost_ret (v:=.tuple #[sevV .done,.bool true]) (by simp[results,results42,go_sem,sevV,sevO,e0,e1,e2]) rfl ?_
    rw[hq2.out]
    exact⟨rfl,kin_told (snKin b hv) hl'.out g1'.out hp6.out (ch3 w5 W.heap.size _ _ _) (λk e=>⟨by rw[show k=W.heap.size from e];exact Nat.le_refl _,by rw[show k=W.heap.size from e];exact hE1.out⟩)⟩
  | failing code =>
   have hq1:ssSays s=(ssGone { s with c:=some w' } w.st code,some .done):=hq.out
   have hcx':code≤65535:=hcx
   unfold wevZ
   dsimp only
   go_upto_region 3 with (fail)
   obtain⟨w3,hw3⟩:∃ w3,w2.alloc (.cells #[.int .i64 4,.int .i64 0,.int .i64 code,.string ⟨#[]⟩] 129)=w3:=⟨_,rfl⟩
   have g3:Gr w2 w3:=hw3▸Gr.alloc w2 _
   have hp3:=hid ((snKin b hv).behind hpst.out g3)
   have v0:w3.cell? ⟨w2.heap.size,0,none⟩=some (.int .i64 4):=by rw[←hw3];exact cell_new7 _ _ _ 0 _ rfl
   have v1:w3.cell? ⟨w2.heap.size,1,none⟩=some (.int .i64 0):=by rw[←hw3];exact cell_new7 _ _ _ 1 _ rfl
   have v2:w3.cell? ⟨w2.heap.size,2,none⟩=some (.int .i64 code):=by rw[←hw3];exact cell_new7 _ _ _ 2 _ rfl
   have v3:w3.cell? ⟨w2.heap.size,3,none⟩=some (.string ⟨#[]⟩):=by rw[←hw3];exact cell_new7 _ _ _ 3 _ rfl
   have hE2:W.heap.size<w2.heap.size:=cell_lt e0
   replace e0:=g3.cell e0
   replace e1:=g3.cell e1
   replace e2:=g3.cell e2
   replace ez:∀ o,w3.frozen? ⟨W.heap.size,o,none⟩=false:=λo=>(Below.frozen g3 (p:=⟨W.heap.size,o,none⟩) hE2).trans (ez o)
   try rw[hw3]
   have g3':=hid g3
   have hcl:=hid (sn_closes hp3.out.1 code hcx')
   have hen:=hid (sn_ends hp3.out.1)
   clear hE2 g3
   by_cases h1s:w.st=1
   ·have hq2:=hid (show ssSays s=(ssEnds (ssCloses { s with c:=some w' } code),some .done) by rw[hq1];unfold ssGone;rw[if_pos h1s])
    have hz1:((w.st:Int)==1)=true:=beq_iff_eq.2 (by omega)
    clear h1s hq1
    go_wp2_with fail
    try rw[hw3]
    refine hcl.out.mono ?_
    rintro e w4⟨rfl,hp4⟩
    have hen2:=hid (sn_ends hp4.1)
    have hp4':=hid hp4
    clear hp4 v0 v1 v2 v3 hw3
    go_wp2_with fail
    refine hen2.out.mono ?_
    rintro e w5⟨rfl,hp5⟩
    have hp45:=(snKin b hv).trans hp4'.out hp5
    have hp6:=hid ((snKin b hv).trans hp3.out hp45)
    have hEX:W.heap.size<w3.heap.size:=cell_lt e0
    have hET:¬Add T W1 w3 (W.heap.size):=λe=>by
     have:=hE1.out
     rcases e with e | e
     ·have:=hl'.out _ e;omega
     ·have:=e.1;omega
    replace e0:=(hp45.2.cell (p:=⟨W.heap.size,0,none⟩) hEX hET).trans e0
    replace e1:=(hp45.2.cell (p:=⟨W.heap.size,1,none⟩) hEX hET).trans e1
    replace e2:=(hp45.2.cell (p:=⟨W.heap.size,2,none⟩) hEX hET).trans e2
    replace ez:∀ o,w5.frozen? ⟨W.heap.size,o,none⟩=false:=λo=>(hp45.2.frozen (p:=⟨W.heap.size,o,none⟩) hEX hET).trans (ez o)
    have hEX':=hid hEX
    clear hEX
    clear hp45 hp5
    go_wp2
    refine bodyPost_ret (v:=.tuple #[sevV .done,.bool true]) (by simp[results,results42,go_sem,sevV,sevO,e0,e1,e2]) rfl ?_
    rw[hq2.out]
    exact⟨rfl,kin_told (snKin b hv) hl'.out g1'.out hp6.out (ch3 w5 W.heap.size _ _ _) (λk e=>⟨by rw[show k=W.heap.size from e];exact Nat.le_refl _,by rw[show k=W.heap.size from e];exact hE1.out⟩)⟩
   ·have hq2:=hid (show ssSays s=(ssEnds { s with c:=some w' },some .done) by rw[hq1];unfold ssGone;rw[if_neg h1s])
    have hz1:((w.st:Int)==1)=false:=beq_false_of_ne (by omega)
    clear h1s hq1
    go_wp2_with fail
    try rw[hw3]
    refine hen.out.mono ?_
    rintro e w5⟨rfl,hp5⟩
    have hp6:=hid ((snKin b hv).trans hp3.out hp5)
    have hEX:W.heap.size<w3.heap.size:=cell_lt e0
    have hET:¬Add T W1 w3 (W.heap.size):=λe=>by
     have:=hE1.out
     rcases e with e | e
     ·have:=hl'.out _ e;omega
     ·have:=e.1;omega
    replace e0:=(hp5.2.cell (p:=⟨W.heap.size,0,none⟩) hEX hET).trans e0
    replace e1:=(hp5.2.cell (p:=⟨W.heap.size,1,none⟩) hEX hET).trans e1
    replace e2:=(hp5.2.cell (p:=⟨W.heap.size,2,none⟩) hEX hET).trans e2
    replace ez:∀ o,w5.frozen? ⟨W.heap.size,o,none⟩=false:=λo=>(hp5.2.frozen (p:=⟨W.heap.size,o,none⟩) hEX hET).trans (ez o)
    have hEX':=hid hEX
    clear hEX
    clear hp5 v0 v1 v2 v3 hw3
    go_wp2
    refine bodyPost_ret (v:=.tuple #[sevV .done,.bool true]) (by simp[results,results42,go_sem,sevV,sevO,e0,e1,e2]) rfl ?_
    rw[hq2.out]
    exact⟨rfl,kin_told (snKin b hv) hl'.out g1'.out hp6.out (ch3 w5 W.heap.size _ _ _) (λk e=>⟨by rw[show k=W.heap.size from e];exact Nat.le_refl _,by rw[show k=W.heap.size from e];exact hE1.out⟩)⟩
end
theorem sevO_agg (e:Option Sev):∃ (a c:Int) (t:ByteArray),sevO e=.agg #[.int .i64 a,.int .i64 c,.string t]:=by
 cases e with
 | none=>exact⟨_,_,_,rfl⟩
 | some e=>exact sevV_agg e
section
variable {b:Nat} {g:Nat} {lb:Array Value} {F T:Nat→Prop} {H:Rq→Rp} {W:World} {s:Ss} {hv:Value}
theorem nx_fin {W2 w3 w6:World} {s':Ss} {c:Nat→Nat} {pb bb:Nat} {cv:Value} (hl:∀ k,T k→k<W.heap.size) (g2:Gr W W2) (h4:SnS b hv c w6 s' pb bb cv) (hC:∀ k,c k≠0→Add T W2 w3 k) (hch:Ch T W w6) (hs:w3.heap.size≤w6.heap.size):Pst (SnAt b hv) T W s' w6 :=
 h4.pst hl hch (λk e=>(hC k e).imp_right (λe=>⟨Nat.le_trans (Below.size g2) e.1,Nat.lt_of_lt_of_le e.2 hs⟩))
theorem sn_next (h:SnAt b (.func (.func g) #[] lb) T W s) (hG:G W) (hi:Hi T) (hH:Hnd g lb F H W) (hF:∀ k,F k→¬T k) (hlim:s.limit≤1099511627776) (ha:s.st=1∨s.st=2∨s.st=3) (hB:s.st=1→PsB 90000 s.p) {n:Nat} (hn:n≤4611686018427387900)
  (h2:s.st=2→∃ w,s.c=some w∧WnB n w∧∀ x,(wnNext w).2=some x→codeW x≤65535):Calls prog 13 #[.pointer (some ⟨b,0,none⟩)] W λe w'=>e=.returned (.tuple #[sevO (ssNext H s).2,.bool (ssNext H s).2.isSome])∧Pst (SnAt b (.func (.func g) #[] lb)) T W (ssNext H s).1 w':=by
 have hl':=hid h.2
 obtain⟨W1,hW1⟩:∃ W1,W.alloc (.cells #[.int .i64 0,.int .i64 0,.string ⟨#[]⟩] 28)=W1:=⟨_,rfl⟩
 have g1:Gr W W1:=hW1▸Gr.alloc W _
 have hE1:=hid (show W.heap.size<W1.heap.size by rw[←hW1];simp)
 have hs1:=hid (show W1.heap.size=W.heap.size+1 by rw[←hW1];simp)
 have e0:W1.cell? ⟨W.heap.size,0,none⟩=some (.int .i64 0):=by rw[←hW1];exact cell_new7 _ _ _ 0 _ rfl
 have e1:W1.cell? ⟨W.heap.size,1,none⟩=some (.int .i64 0):=by rw[←hW1];exact cell_new7 _ _ _ 1 _ rfl
 have e2:W1.cell? ⟨W.heap.size,2,none⟩=some (.string ⟨#[]⟩):=by rw[←hW1];exact cell_new7 _ _ _ 2 _ rfl
 have ez:∀ o,W1.frozen? ⟨W.heap.size,o,none⟩=false:=λo=>by rw[←hW1];exact World.frozen?_alloc_at _ _ _ _ rfl
 have h0:=hid h
 have ht0:=sn_takes ((snKin b (.func (.func g) #[] lb)).gr h g1)
 have hbT0:=hid (show T b from by
  obtain⟨⟨c,pb,bb,cv,h,hT⟩,_⟩:=h
  exact hT b (by rw[h.cb];decide))
 have c2:W1.cell? ⟨b,2,none⟩=some (.int .i64 s.st):=by
  obtain⟨⟨c,pb,bb,cv,h,hT⟩,_⟩:=h
  exact (h.gr g1).c2
 by_cases htk:ssTakes s=false
 ·have hq:=hid (show ssNext H s=(s,none) by unfold ssNext;rw[htk];rfl)
  rw[htk] at ht0
  have ht:=hid ht0
  have g1':=hid g1
  clear h hB h2 hG hH htk ht0 g1 c2
  go_enter func13,ntmps13
  go_wp2_with fail
  refine ht.out.mono ?_
  rintro e w9⟨rfl,rfl⟩
  try rw[hW1]
  clear hW1
  go_wp2
  refine bodyPost_ret (v:=.tuple #[sevO none,.bool false]) (by simp[results,results13,go_sem,sevV,sevO,e0,e1,e2]) rfl ?_
  rw[hq.out]
  exact⟨rfl,kin_told (snKin b (.func (.func g) #[] lb)) hl'.out g1'.out ((snKin b (.func (.func g) #[] lb)).of_gr ((snKin b (.func (.func g) #[] lb)).gr h0.out g1'.out) (Gr.refl _)) (ch3 _ W.heap.size _ _ _) (λk e=>⟨by rw[show k=W.heap.size from e];exact Nat.le_refl _,by rw[show k=W.heap.size from e];exact hE1.out⟩)⟩
 have htt:ssTakes s=true:=by
  cases e:ssTakes s with
  | false=>exact absurd e htk
  | true=>rfl
 rw[htt] at ht0
 have ht:=hid ht0
 obtain⟨y,hy0⟩:∃ y,(if s.st=1 then ssAsks H s else ssSays s)=y:=⟨_,rfl⟩
 have hq:=hid (show ssNext H s=(if y.2.isNone||y.1.st==3 then { y.1 with fresh:=false } else y.1,y.2) by
  rw[←hy0]
  unfold ssNext
  rw[htt]
  rfl)
 by_cases q1:s.st=1
 ·rw[if_pos q1] at hy0
  rw[q1] at c2
  have hBq:=hB q1
  clear htk htt ht0 q1
  have hcall:=hid (λW2 (g2:Gr W W2)=>show Calls prog 41 #[.pointer (some ⟨b,0,none⟩)] W2 λe w'=>e=.returned (.tuple #[sevO y.2,.bool y.2.isSome])∧Pst (SnAt b (.func (.func g) #[] lb)) T W2 y.1 w' from hy0▸sn_asks ((snKin b (.func (.func g) #[] lb)).gr h0.out g2) (hG.gr g2) hi (hH.gr g2) hF hlim hBq)
  clear h hB h2 hG hH
  go_enter func13,ntmps13
  go_wp2_with fail
  refine ht.out.mono ?_
  rintro e w9⟨rfl,rfl⟩
  try rw[hW1]
  obtain⟨W2,hW2⟩:∃ W2,W1.alloc (.cells #[.int .i64 0,.int .i64 0,.string ⟨#[]⟩] 28)=W2:=⟨_,rfl⟩
  have g12:Gr W1 W2:=hW2▸Gr.alloc W1 _
  have hs2:=hid (show W2.heap.size=W.heap.size+2 by rw[←hW2,World.size_alloc,hs1.out])
  have f0:W2.cell? ⟨W1.heap.size,0,none⟩=some (.int .i64 0):=by rw[←hW2];exact cell_new7 _ _ _ 0 _ rfl
  have f1:W2.cell? ⟨W1.heap.size,1,none⟩=some (.int .i64 0):=by rw[←hW2];exact cell_new7 _ _ _ 1 _ rfl
  have f2:W2.cell? ⟨W1.heap.size,2,none⟩=some (.string ⟨#[]⟩):=by rw[←hW2];exact cell_new7 _ _ _ 2 _ rfl
  have fz2:∀ o,W2.frozen? ⟨W1.heap.size,o,none⟩=false:=λo=>by rw[←hW2];exact World.frozen?_alloc_at _ _ _ _ rfl
  have g2:=hid (g1.trans g12)
  replace e0:=g12.cell e0
  replace e1:=g12.cell e1
  replace e2:=g12.cell e2
  replace ez:∀ o,W2.frozen? ⟨W.heap.size,o,none⟩=false:=λo=>(Below.frozen g12 (p:=⟨W.heap.size,o,none⟩) hE1.out).trans (ez o)
  replace c2:=g12.cell c2
  have hcl:=hid (hcall.out W2 g2.out)
  rw[show W1.heap.size=W.heap.size+1 from hs1.out] at f0 f1 f2 fz2
  clear hcall g1 g12
  go_wp2_with fail
  try rw[hW2]
  refine hcl.out.mono ?_
  rintro e w3⟨rfl,hpA⟩
  rw[show W1.heap.size=W.heap.size+1 from hs1.out]
  obtain⟨n0,n1,nt,hnv⟩:=sevO_agg y.2
  rw[hnv]
  have hET:¬T W.heap.size:=λe=>by have:=hl'.out _ e;omega
  have hFT:¬T (W.heap.size+1):=λe=>by have:=hl'.out _ e;omega
  have hEs:W.heap.size<W2.heap.size:=by have:=hs2.out;omega
  have hFs:W.heap.size+1<W2.heap.size:=by have:=hs2.out;omega
  replace e0:=(hpA.2.cell (p:=⟨W.heap.size,0,none⟩) hEs hET).trans e0
  replace e1:=(hpA.2.cell (p:=⟨W.heap.size,1,none⟩) hEs hET).trans e1
  replace e2:=(hpA.2.cell (p:=⟨W.heap.size,2,none⟩) hEs hET).trans e2
  replace ez:∀ o,w3.frozen? ⟨W.heap.size,o,none⟩=false:=λo=>(hpA.2.frozen (p:=⟨W.heap.size,o,none⟩) hEs hET).trans (ez o)
  replace f0:=(hpA.2.cell (p:=⟨W.heap.size+1,0,none⟩) hFs hFT).trans f0
  replace f1:=(hpA.2.cell (p:=⟨W.heap.size+1,1,none⟩) hFs hFT).trans f1
  replace f2:=(hpA.2.cell (p:=⟨W.heap.size+1,2,none⟩) hFs hFT).trans f2
  replace fz2:∀ o,w3.frozen? ⟨W.heap.size+1,o,none⟩=false:=λo=>(hpA.2.frozen (p:=⟨W.heap.size+1,o,none⟩) hFs hFT).trans (fz2 o)
  have hnv':=hid hnv
  have hpA':=hid hpA
  clear hpA hnv hEs hFs hET hFT hW1 hW2 c2
  go_upto_region 8 with (fail)
  have hc4:=ch3 w3 (W.heap.size+1) (.int .i64 n0) (.int .i64 n1) (.string nt)
  obtain⟨w4,hw4⟩:∃ w4,((w3.setCell ⟨W.heap.size+1,0,none⟩ (.int .i64 n0)).setCell ⟨W.heap.size+1,1,none⟩ (.int .i64 n1)).setCell ⟨W.heap.size+1,2,none⟩ (.string nt)=w4:=⟨_,rfl⟩
  have q0:w4.cell? ⟨W.heap.size+1,0,none⟩=some (.int .i64 n0):=by rw[←hw4];simp[go_sem,f0]
  have q1:w4.cell? ⟨W.heap.size+1,1,none⟩=some (.int .i64 n1):=by rw[←hw4];simp[go_sem,f1]
  have q2:w4.cell? ⟨W.heap.size+1,2,none⟩=some (.string nt):=by rw[←hw4];simp[go_sem,f2]
  rw[hw4] at hc4
  try rw[hw4]
  have hEs3:W.heap.size<w3.heap.size:=cell_lt e0
  have hEF:¬(W.heap.size=W.heap.size+1):=by omega
  replace e0:=(hc4.cell (p:=⟨W.heap.size,0,none⟩) hEs3 hEF).trans e0
  replace e1:=(hc4.cell (p:=⟨W.heap.size,1,none⟩) hEs3 hEF).trans e1
  replace e2:=(hc4.cell (p:=⟨W.heap.size,2,none⟩) hEs3 hEF).trans e2
  replace ez:∀ o,w4.frozen? ⟨W.heap.size,o,none⟩=false:=λo=>(hc4.frozen (p:=⟨W.heap.size,o,none⟩) hEs3 hEF).trans (ez o)
  have hN2:∀ k,Add T W2 w3 k→¬(k=W.heap.size+1)∧¬(k=W.heap.size):=λk e=>by
   have:=hs2.out
   rcases e with e | e
   ·have:=hl'.out k e;omega
   ·have:=e.1;omega
  obtain⟨⟨c,pb,bb,cv,k4,hC⟩,hl4⟩:=(snKin b (.func (.func g) #[] lb)).frame hpA'.out.1 hc4 (λk e=>(hN2 k e).1)
  have hc4':=hid (show Ch T W w4 from ((g2.out.to_ch T).trans hpA'.out.2).drop_new hc4 (λk e=>.inr (by rw[show k=W.heap.size+1 from e];omega)))
  have hbA:Add T W2 w3 b:=hC b (by rw[k4.cb];decide)
  have hbE:=hN2 b hbA
  have hbT:T b:=hbT0.out
  have k2:=k4.c2
  have k6:=k4.c6
  have kz:=k4.fz
  have hs34:=hid hc4.size
  have hC':=hid hC
  have k4':=hid k4
  have hN2':=hid hN2
  have hn1:b≠W.heap.size:=hbE.2
  have hn2:b≠W.heap.size+1:=hbE.1
  have hbs4:b<w4.heap.size:=k4.blt
  clear hc4 f0 f1 f2 fz2 k4 hC hl4 hN2 hbE hbA hEs3 hw4
  obtain⟨y1,y2,hy⟩:∃ y1 y2,y=(y1,y2):=⟨_,_,rfl⟩
  rw[show y.2=y2 by rw[hy]]
  rw[show y.1=y1 by rw[hy]] at k2 k4'
  have hqy:=hid (hq.out.trans (show (if y.2.isNone||y.1.st==3 then { y.1 with fresh:=false } else y.1,y.2)=(if y2.isNone||y1.st==3 then { y1 with fresh:=false } else y1,y2) by rw[hy]))
  rw[show y.2=y2 by rw[hy]] at hnv'
  clear hy hq
  have hsz:=hid (show W.heap.size<w4.heap.size from cell_lt e0)
  cases y2 with
  | none =>
   have hqz:=hid (hqy.out.trans (show _=({ y1 with fresh:=false },(none:Option Sev)) from rfl))
   go_wp2
   refine bodyPost_ret (v:=.tuple #[.agg #[.int .i64 n0,.int .i64 n1,.string nt],.bool false]) (by simp[results,results13,go_sem,e0,e1,e2,hn1,Ne.symm hn1]) rfl ?_
   rw[hqz.out]
   exact⟨by rw[hnv'.out];rfl,nx_fin hl'.out g2.out ((k4'.out.setFresh false).frame (ch3 _ W.heap.size _ _ _) (λk e=>(hN2'.out k (hC'.out k e)).2)) hC'.out ((hc4'.out.trans (Ch.setCell w4 (a:=⟨b,6,none⟩) hbT _)).drop_new (ch3 _ W.heap.size _ _ _) (λk e=>.inr (Nat.le_of_eq (show k=W.heap.size from e).symm))) (by have:=hs34.out;simpa using this)⟩
  | some ev =>
   by_cases h3:y1.st=3
   ·have hqz:=hid (hqy.out.trans (show _=({ y1 with fresh:=false },some ev) by rw[h3];rfl))
    have hz3:((y1.st:Int)==3)=true:=beq_iff_eq.2 (by omega)
    clear h3
    go_wp2
    refine bodyPost_ret (v:=.tuple #[.agg #[.int .i64 n0,.int .i64 n1,.string nt],.bool true]) (by simp[results,results13,go_sem,e0,e1,e2,hn1,Ne.symm hn1]) rfl ?_
    rw[hqz.out]
    exact⟨by rw[hnv'.out];rfl,nx_fin hl'.out g2.out ((k4'.out.setFresh false).frame (ch3 _ W.heap.size _ _ _) (λk e=>(hN2'.out k (hC'.out k e)).2)) hC'.out ((hc4'.out.trans (Ch.setCell w4 (a:=⟨b,6,none⟩) hbT _)).drop_new (ch3 _ W.heap.size _ _ _) (λk e=>.inr (Nat.le_of_eq (show k=W.heap.size from e).symm))) (by have:=hs34.out;simpa using this)⟩
   ·have hqz:=hid (hqy.out.trans (show _=(y1,some ev) by rw[show (y1.st==3)=false from beq_false_of_ne h3];rfl))
    have hz3:((y1.st:Int)==3)=false:=beq_false_of_ne (by omega)
    clear h3
    go_wp2
    refine bodyPost_ret (v:=.tuple #[.agg #[.int .i64 n0,.int .i64 n1,.string nt],.bool true]) (by simp[results,results13,go_sem,e0,e1,e2,hn1,Ne.symm hn1]) rfl ?_
    rw[hqz.out]
    exact⟨by rw[hnv'.out];rfl,nx_fin hl'.out g2.out (k4'.out.frame (ch3 _ W.heap.size _ _ _) (λk e=>(hN2'.out k (hC'.out k e)).2)) hC'.out (hc4'.out.drop_new (ch3 _ W.heap.size _ _ _) (λk e=>.inr (Nat.le_of_eq (show k=W.heap.size from e).symm))) (by have:=hs34.out;simpa using this)⟩
 ·have q2:s.st=2:=by
   rcases ha with e | e | e
   ·exact absurd e q1
   ·exact e
   ·unfold ssTakes at htt
    rw[e] at htt
    cases htt
  rw[if_neg q1] at hy0
  rw[q2] at c2
  obtain⟨w,hw,hwB,hcode⟩:=h2 q2
  clear htk htt ht0 q1 q2
  have hcall:=hid (λW2 (g2:Gr W W2)=>show Calls prog 42 #[.pointer (some ⟨b,0,none⟩)] W2 λe w'=>e=.returned (.tuple #[sevO y.2,.bool y.2.isSome])∧Pst (SnAt b (.func (.func g) #[] lb)) T W2 y.1 w' from hy0▸sn_says ((snKin b (.func (.func g) #[] lb)).gr h0.out g2) hw hwB hn hcode)
  clear h hB h2 hG hH
  go_enter func13,ntmps13
  go_wp2_with fail
  refine ht.out.mono ?_
  rintro e w9⟨rfl,rfl⟩
  try rw[hW1]
  obtain⟨W2,hW2⟩:∃ W2,W1.alloc (.cells #[.int .i64 0,.int .i64 0,.string ⟨#[]⟩] 28)=W2:=⟨_,rfl⟩
  have g12:Gr W1 W2:=hW2▸Gr.alloc W1 _
  have hs2:=hid (show W2.heap.size=W.heap.size+2 by rw[←hW2,World.size_alloc,hs1.out])
  have f0:W2.cell? ⟨W1.heap.size,0,none⟩=some (.int .i64 0):=by rw[←hW2];exact cell_new7 _ _ _ 0 _ rfl
  have f1:W2.cell? ⟨W1.heap.size,1,none⟩=some (.int .i64 0):=by rw[←hW2];exact cell_new7 _ _ _ 1 _ rfl
  have f2:W2.cell? ⟨W1.heap.size,2,none⟩=some (.string ⟨#[]⟩):=by rw[←hW2];exact cell_new7 _ _ _ 2 _ rfl
  have fz2:∀ o,W2.frozen? ⟨W1.heap.size,o,none⟩=false:=λo=>by rw[←hW2];exact World.frozen?_alloc_at _ _ _ _ rfl
  have g2:=hid (g1.trans g12)
  replace e0:=g12.cell e0
  replace e1:=g12.cell e1
  replace e2:=g12.cell e2
  replace ez:∀ o,W2.frozen? ⟨W.heap.size,o,none⟩=false:=λo=>(Below.frozen g12 (p:=⟨W.heap.size,o,none⟩) hE1.out).trans (ez o)
  replace c2:=g12.cell c2
  have hcl:=hid (hcall.out W2 g2.out)
  rw[show W1.heap.size=W.heap.size+1 from hs1.out] at f0 f1 f2 fz2
  clear hcall g1 g12
  go_wp2_with fail
  try rw[hW2]
  refine hcl.out.mono ?_
  rintro e w3⟨rfl,hpA⟩
  rw[show W1.heap.size=W.heap.size+1 from hs1.out]
  obtain⟨n0,n1,nt,hnv⟩:=sevO_agg y.2
  rw[hnv]
  have hET:¬T W.heap.size:=λe=>by have:=hl'.out _ e;omega
  have hFT:¬T (W.heap.size+1):=λe=>by have:=hl'.out _ e;omega
  have hEs:W.heap.size<W2.heap.size:=by have:=hs2.out;omega
  have hFs:W.heap.size+1<W2.heap.size:=by have:=hs2.out;omega
  replace e0:=(hpA.2.cell (p:=⟨W.heap.size,0,none⟩) hEs hET).trans e0
  replace e1:=(hpA.2.cell (p:=⟨W.heap.size,1,none⟩) hEs hET).trans e1
  replace e2:=(hpA.2.cell (p:=⟨W.heap.size,2,none⟩) hEs hET).trans e2
  replace ez:∀ o,w3.frozen? ⟨W.heap.size,o,none⟩=false:=λo=>(hpA.2.frozen (p:=⟨W.heap.size,o,none⟩) hEs hET).trans (ez o)
  replace f0:=(hpA.2.cell (p:=⟨W.heap.size+1,0,none⟩) hFs hFT).trans f0
  replace f1:=(hpA.2.cell (p:=⟨W.heap.size+1,1,none⟩) hFs hFT).trans f1
  replace f2:=(hpA.2.cell (p:=⟨W.heap.size+1,2,none⟩) hFs hFT).trans f2
  replace fz2:∀ o,w3.frozen? ⟨W.heap.size+1,o,none⟩=false:=λo=>(hpA.2.frozen (p:=⟨W.heap.size+1,o,none⟩) hFs hFT).trans (fz2 o)
  have hnv':=hid hnv
  have hpA':=hid hpA
  clear hpA hnv hEs hFs hET hFT hW1 hW2 c2
  go_upto_region 8 with (fail)
  have hc4:=ch3 w3 (W.heap.size+1) (.int .i64 n0) (.int .i64 n1) (.string nt)
  obtain⟨w4,hw4⟩:∃ w4,((w3.setCell ⟨W.heap.size+1,0,none⟩ (.int .i64 n0)).setCell ⟨W.heap.size+1,1,none⟩ (.int .i64 n1)).setCell ⟨W.heap.size+1,2,none⟩ (.string nt)=w4:=⟨_,rfl⟩
  have q0:w4.cell? ⟨W.heap.size+1,0,none⟩=some (.int .i64 n0):=by rw[←hw4];simp[go_sem,f0]
  have q1:w4.cell? ⟨W.heap.size+1,1,none⟩=some (.int .i64 n1):=by rw[←hw4];simp[go_sem,f1]
  have q2:w4.cell? ⟨W.heap.size+1,2,none⟩=some (.string nt):=by rw[←hw4];simp[go_sem,f2]
  rw[hw4] at hc4
  try rw[hw4]
  have hEs3:W.heap.size<w3.heap.size:=cell_lt e0
  have hEF:¬(W.heap.size=W.heap.size+1):=by omega
  replace e0:=(hc4.cell (p:=⟨W.heap.size,0,none⟩) hEs3 hEF).trans e0
  replace e1:=(hc4.cell (p:=⟨W.heap.size,1,none⟩) hEs3 hEF).trans e1
  replace e2:=(hc4.cell (p:=⟨W.heap.size,2,none⟩) hEs3 hEF).trans e2
  replace ez:∀ o,w4.frozen? ⟨W.heap.size,o,none⟩=false:=λo=>(hc4.frozen (p:=⟨W.heap.size,o,none⟩) hEs3 hEF).trans (ez o)
  have hN2:∀ k,Add T W2 w3 k→¬(k=W.heap.size+1)∧¬(k=W.heap.size):=λk e=>by
   have:=hs2.out
   rcases e with e | e
   ·have:=hl'.out k e;omega
   ·have:=e.1;omega
  obtain⟨⟨c,pb,bb,cv,k4,hC⟩,hl4⟩:=(snKin b (.func (.func g) #[] lb)).frame hpA'.out.1 hc4 (λk e=>(hN2 k e).1)
  have hc4':=hid (show Ch T W w4 from ((g2.out.to_ch T).trans hpA'.out.2).drop_new hc4 (λk e=>.inr (by rw[show k=W.heap.size+1 from e];omega)))
  have hbA:Add T W2 w3 b:=hC b (by rw[k4.cb];decide)
  have hbE:=hN2 b hbA
  have hbT:T b:=hbT0.out
  have k2:=k4.c2
  have k6:=k4.c6
  have kz:=k4.fz
  have hs34:=hid hc4.size
  have hC':=hid hC
  have k4':=hid k4
  have hN2':=hid hN2
  have hn1:b≠W.heap.size:=hbE.2
  have hn2:b≠W.heap.size+1:=hbE.1
  have hbs4:b<w4.heap.size:=k4.blt
  clear hc4 f0 f1 f2 fz2 k4 hC hl4 hN2 hbE hbA hEs3 hw4
  obtain⟨y1,y2,hy⟩:∃ y1 y2,y=(y1,y2):=⟨_,_,rfl⟩
  rw[show y.2=y2 by rw[hy]]
  rw[show y.1=y1 by rw[hy]] at k2 k4'
  have hqy:=hid (hq.out.trans (show (if y.2.isNone||y.1.st==3 then { y.1 with fresh:=false } else y.1,y.2)=(if y2.isNone||y1.st==3 then { y1 with fresh:=false } else y1,y2) by rw[hy]))
  rw[show y.2=y2 by rw[hy]] at hnv'
  clear hy hq
  have hsz:=hid (show W.heap.size<w4.heap.size from cell_lt e0)
  cases y2 with
  | none =>
   have hqz:=hid (hqy.out.trans (show _=({ y1 with fresh:=false },(none:Option Sev)) from rfl))
   go_wp2
   refine bodyPost_ret (v:=.tuple #[.agg #[.int .i64 n0,.int .i64 n1,.string nt],.bool false]) (by simp[results,results13,go_sem,e0,e1,e2,hn1,Ne.symm hn1]) rfl ?_
   rw[hqz.out]
   exact⟨by rw[hnv'.out];rfl,nx_fin hl'.out g2.out ((k4'.out.setFresh false).frame (ch3 _ W.heap.size _ _ _) (λk e=>(hN2'.out k (hC'.out k e)).2)) hC'.out ((hc4'.out.trans (Ch.setCell w4 (a:=⟨b,6,none⟩) hbT _)).drop_new (ch3 _ W.heap.size _ _ _) (λk e=>.inr (Nat.le_of_eq (show k=W.heap.size from e).symm))) (by have:=hs34.out;simpa using this)⟩
  | some ev =>
   by_cases h3:y1.st=3
   ·have hqz:=hid (hqy.out.trans (show _=({ y1 with fresh:=false },some ev) by rw[h3];rfl))
    have hz3:((y1.st:Int)==3)=true:=beq_iff_eq.2 (by omega)
    clear h3
    go_wp2
    refine bodyPost_ret (v:=.tuple #[.agg #[.int .i64 n0,.int .i64 n1,.string nt],.bool true]) (by simp[results,results13,go_sem,e0,e1,e2,hn1,Ne.symm hn1]) rfl ?_
    rw[hqz.out]
    exact⟨by rw[hnv'.out];rfl,nx_fin hl'.out g2.out ((k4'.out.setFresh false).frame (ch3 _ W.heap.size _ _ _) (λk e=>(hN2'.out k (hC'.out k e)).2)) hC'.out ((hc4'.out.trans (Ch.setCell w4 (a:=⟨b,6,none⟩) hbT _)).drop_new (ch3 _ W.heap.size _ _ _) (λk e=>.inr (Nat.le_of_eq (show k=W.heap.size from e).symm))) (by have:=hs34.out;simpa using this)⟩
   ·have hqz:=hid (hqy.out.trans (show _=(y1,some ev) by rw[show (y1.st==3)=false from beq_false_of_ne h3];rfl))
    have hz3:((y1.st:Int)==3)=false:=beq_false_of_ne (by omega)
    clear h3
    go_wp2
    refine bodyPost_ret (v:=.tuple #[.agg #[.int .i64 n0,.int .i64 n1,.string nt],.bool true]) (by simp[results,results13,go_sem,e0,e1,e2,hn1,Ne.symm hn1]) rfl ?_
    rw[hqz.out]
    exact⟨by rw[hnv'.out];rfl,nx_fin hl'.out g2.out (k4'.out.frame (ch3 _ W.heap.size _ _ _) (λk e=>(hN2'.out k (hC'.out k e)).2)) hC'.out (hc4'.out.drop_new (ch3 _ W.heap.size _ _ _) (λk e=>.inr (Nat.le_of_eq (show k=W.heap.size from e).symm))) (by have:=hs34.out;simpa using this)⟩
end
