/-
  A session in memory: how it stands; what ends it; bytes, messages. (Printed by mk_ec.py.)
-/
import Derived.Test.YtadobobfjnmdlaaGreatDoorQl
set_option linter.unnecessarySimpa false
set_option linter.unusedVariables false
set_option linter.unusedSimpArgs false
set_option maxHeartbeats 16000000
set_option maxRecDepth 100000
open Go.Lib (hid)
open Go.Proofs.Tryz
namespace Go.Proofs.YtadobobfjnmdlaaGreatDoor
open Go.RowKit Go.Shelf
attribute [local go_sem] Oper.semAt_some
theorem add_of {c:Nat→Nat} {T:Nat→Prop} {W w1 w':World} {j:Nat} (hT:∀ k,c k≠0→T k) (hs:w1.heap.size≤w'.heap.size):∀ k,recol c W w1 j k≠0→Add T W w' k :=
 λk e=>(recol_imp k e).imp (hT k) (λe=>⟨e.1,Nat.lt_of_lt_of_le e.2 hs⟩)
section
variable {b:Nat} {hv:Value} {T:Nat→Prop} {W:World} {s:Ss}
theorem sn_state (h:SnAt b hv T W s):Calls prog 20 #[.pointer (some ⟨b,0,none⟩)] W λe w'=>e=.returned (.int .i64 s.st)∧W=w':=by
 obtain⟨⟨c,pb,bb,cv,h,hT⟩,hl⟩:=h
 have c2:=h.c2
 have c5:=h.c5
 clear h hT hl
 go_enter func20,ntmps20
 go_wp2
 go_ret
 exact⟨rfl,rfl⟩
theorem sn_ends (h:SnAt b hv T W s):Calls prog 47 #[.pointer (some ⟨b,0,none⟩)] W λe w'=>e=.returned (.tuple #[])∧Pst (SnAt b hv) T W (ssEnds s) w':=by
 obtain⟨⟨c,pb,bb,cv,h,hT⟩,hl⟩:=h
 have hx:=hid (bend_any h.kx)
 have c5:=h.c5
 have h':=hid h
 have hT':=hid hT
 have hl':=hid hl
 have hbT:=hid (hT b (by rw[h.cb];decide))
 clear h hT hl
 go_enter func47,ntmps47
 go_wp2_with fail
 refine hx.out.mono ?_
 rintro e w1⟨rfl,hp⟩
 have h1:=h'.out.setX hp
 have hp':=hid hp
 have c2:=h1.c2
 have c6:=h1.c6
 have fz:=h1.fz
 have h1':=hid h1
 clear h1 hp c5
 go_wp2
 go_end0
 exact⟨rfl,((h1'.out.setSt 3).setFresh false).pst hl'.out ((hp'.out.2.mono (λk e=>hT'.out k (by rw[show c k=4 from e];decide))).trans ((Ch.setCell w1 (a:=⟨b,2,none⟩) hbT.out _).trans (Ch.setCell _ (a:=⟨b,6,none⟩) hbT.out _))) (add_of hT'.out (by simp))⟩
theorem sn_closes (h:SnAt b hv T W s) (code:Nat) (hc:code≤65535):Calls prog 59 #[.pointer (some ⟨b,0,none⟩),.int .i64 code] W λe w'=>e=.returned (.tuple #[])∧Pst (SnAt b hv) T W (ssCloses s code) w':=by
 obtain⟨⟨c,pb,bb,cv,h,hT⟩,hl⟩:=h
 have hb:=hid (cbytes_any code W hc)
 have h':=hid h
 have hT':=hid hT
 have hl':=hid hl
 have hbT:=hid (hT b (by rw[h.cb];decide))
 clear h hT hl
 go_enter func59,ntmps59
 go_wp2_with fail
 refine hb.out.mono ?_
 rintro e w1⟨⟨n,rfl⟩,g1⟩
 have h1:=h'.out.gr g1
 have hx:=hid (bclose_any (closW code) h1.kx)
 have c5:=h1.c5
 have h1':=hid h1
 have g1':=hid g1
 clear h1 g1
 go_wp2_with fail
 refine hx.out.mono ?_
 rintro e w2⟨rfl,hp⟩
 have hp':=hid hp
 clear hp
 go_wp2
 go_end0
 exact⟨rfl,(snKin b hv).ahead g1'.out ((h1'.out.setX hp'.out).pst (λk e=>Nat.lt_of_lt_of_le (hl'.out k e) (Below.size g1'.out)) (hp'.out.2.mono (λk e=>hT'.out k (by rw[show c k=4 from e];decide))) (add_of hT'.out (Nat.le_refl _)))⟩
theorem sn_takes (h:SnAt b hv T W s):Calls prog 23 #[.pointer (some ⟨b,0,none⟩)] W λe w'=>e=.returned (.bool (ssTakes s))∧W=w':=by
 have hs:=hid (sn_state h)
 obtain⟨⟨c,pb,bb,cv,h,hT⟩,hl⟩:=h
 have c5:=h.c5
 have hr:=hid (show Calls prog 49 #[.pointer (some ⟨bb,0,none⟩)] W λe w'=>e=.returned (.int .i64 s.x.reps.length)∧W=w' from by
  obtain⟨⟨cc,r1,r2,pv,cv,hx,_⟩,_⟩:=h.kx
  exact breplies_any hx)
 clear h hT hl
 by_cases h3:s.st=3
 ·have hv2:=hid (show ssTakes s=false by unfold ssTakes;rw[h3];rfl)
  rw[h3] at hs
  clear h3
  go_enter func23,ntmps23
  go_wp2_with fail
  refine hs.out.mono ?_
  rintro e w1⟨rfl,rfl⟩
  go_wp2
  go_ret
  exact⟨by rw[hv2.out];rfl,rfl⟩
 ·have hv2:=hid (show ssTakes s=decide (s.x.reps.length<4) by unfold ssTakes;rw[show (s.st != 3)=true from bne_iff_ne.2 h3,Bool.true_and])
  have hz:((s.st:Int) != 3)=true:=bne_iff_ne.2 (by omega)
  clear h3
  by_cases h4:s.x.reps.length<4
  ·have h4I:(s.x.reps.length:Int)<4:=by omega
   have hd:=hid (decide_eq_true h4)
   clear h4
   go_enter func23,ntmps23
   go_wp2_with fail
   refine hs.out.mono ?_
   rintro e w1⟨rfl,rfl⟩
   go_wp2_with fail
   refine hr.out.mono ?_
   rintro e w1⟨rfl,rfl⟩
   go_wp2
   go_ret
   exact⟨by rw[hv2.out,hd.out];first | rfl | exact congrArg (λq=>Ending.returned (Value.bool q)) (decide_eq_false (by omega)),rfl⟩
  ·have h4I:¬(s.x.reps.length:Int)<4:=by omega
   have hd:=hid (decide_eq_false h4)
   clear h4
   go_enter func23,ntmps23
   go_wp2_with fail
   refine hs.out.mono ?_
   rintro e w1⟨rfl,rfl⟩
   go_wp2_with fail
   refine hr.out.mono ?_
   rintro e w1⟨rfl,rfl⟩
   go_wp2
   go_ret
   exact⟨by rw[hv2.out,hd.out];first | rfl | exact congrArg (λq=>Ending.returned (Value.bool q)) (decide_eq_false (by omega)),rfl⟩
theorem sn_hears (h:SnAt b hv T W s) (hc:s.st=2→s.c.isSome=true):Calls prog 21 #[.pointer (some ⟨b,0,none⟩)] W λe w'=>e=.returned (.bool (ssHears s))∧W=w':=by
 have hs:=hid (sn_state h)
 obtain⟨⟨c,pb,bb,cv,h,hT⟩,hl⟩:=h
 have c4:=h.c4
 by_cases h2:s.st=2
 ·cases hw:s.c with
  | none=>rw[hw] at hc;exact absurd (hc h2) (by decide)
  | some w =>
   have kw:=h.kw
   rw[hw] at kw
   obtain⟨k0,rfl,kw⟩:=kw
   have hws:=hid (wstate_at kw)
   have hv2:=hid (show ssHears s=(w.st==1) by unfold ssHears ssWn;rw[hw,h2];rfl)
   rw[h2] at hs
   clear h hT hl hc h2 hw kw
   by_cases hq:w.st=1
   ·rw[hq] at hws hv2
    clear hq
    go_enter func21,ntmps21
    go_wp2_with fail
    refine hs.out.mono ?_
    rintro e w1⟨rfl,rfl⟩
    go_wp2_with fail
    refine hws.out.mono ?_
    rintro e w1⟨rfl,rfl⟩
    go_wp2
    go_ret
    exact⟨by rw[hv2.out];rfl,rfl⟩
   ·have hqb:=hid (show (w.st==1)=false from beq_false_of_ne hq)
    have hqI:((w.st:Int)==1)=false:=beq_false_of_ne (by omega)
    clear hq
    go_enter func21,ntmps21
    go_wp2_with fail
    refine hs.out.mono ?_
    rintro e w1⟨rfl,rfl⟩
    go_wp2_with fail
    refine hws.out.mono ?_
    rintro e w1⟨rfl,rfl⟩
    go_wp2
    go_ret
    exact⟨by rw[hv2.out,hqb.out];rfl,rfl⟩
 ·have hv2:=hid (show ssHears s=false by unfold ssHears;rw[show (s.st==2)=false from beq_false_of_ne h2,Bool.false_and])
  have hz:((s.st:Int)==2)=false:=beq_false_of_ne (by omega)
  clear h hT hl hc h2
  go_enter func21,ntmps21
  go_wp2_with fail
  refine hs.out.mono ?_
  rintro e w1⟨rfl,rfl⟩
  go_wp2
  go_ret
  exact⟨by rw[hv2.out];rfl,rfl⟩
theorem sn_waits (h:SnAt b hv T W s):Calls prog 26 #[.pointer (some ⟨b,0,none⟩)] W λe w'=>e=.returned (.bool (bxWaits s.x))∧W=w':=by
 obtain⟨⟨c,pb,bb,cv,h,hT⟩,hl⟩:=h
 have c5:=h.c5
 have hr:=hid (show Calls prog 51 #[.pointer (some ⟨bb,0,none⟩)] W λe w'=>e=.returned (.bool (bxWaits s.x))∧W=w' from by
  obtain⟨⟨cc,r1,r2,pv,cv,hx,_⟩,_⟩:=h.kx
  exact bwaits_any hx)
 clear h hT hl
 go_enter func26,ntmps26
 go_wp2_with fail
 refine hr.out.mono ?_
 rintro e w1⟨rfl,rfl⟩
 go_wp2
 go_ret
 exact⟨rfl,rfl⟩
theorem sn_feed (h:SnAt b hv T W s) (x:List UInt8) (h2:s.st=2→s.c.isSome=true) (hp:s.p.inp.length+x.length≤4611686018427387900) (hw:∀ w,s.c=some w→w.r.inp.length+x.length≤4611686018427387900):Calls prog 12 #[.pointer (some ⟨b,0,none⟩),.string ⟨x.toArray⟩] W λe w'=>e=.returned (.tuple #[])∧Pst (SnAt b hv) T W (ssFeed s x) w':=by
 have hs:=hid (sn_state h)
 have h0:=hid h
 obtain⟨⟨c,pb,bb,cv,h,hT⟩,hl⟩:=h
 have h':=hid h
 have hT':=hid hT
 have hl':=hid hl
 have hbT:=hid (hT b (by rw[h.cb];decide))
 have c3:=h.c3
 have c4:=h.c4
 by_cases q1:s.st=1
 ·have hf:=hid (pqfeed_at h.kp x (by omega))
  have hv2:=hid (show ssFeed s x={ s with p:=feedQ s.p x,fresh:=s.fresh||!x.isEmpty } by unfold ssFeed;rw[if_pos q1])
  rw[q1] at hs
  obtain⟨fr,efr⟩:∃ fr,s.fresh=fr:=⟨_,rfl⟩
  rw[efr] at hv2
  clear h hT hl h2 hp hw q1
  have efr':=hid efr
  clear efr
  cases fr
  all_goals
   go_enter func12,ntmps12
   go_wp2_with fail
   refine hs.out.mono ?_
   rintro e w1⟨rfl,rfl⟩
   go_wp2_with fail
   refine hf.out.mono ?_
   rintro e w1⟨rfl,hp⟩
   have h1:=h'.out.setP hp
   have c6:=h1.c6
   have fz:=h1.fz
   rw[show ({ s with p:=feedQ s.p x }:Ss).fresh=s.fresh from rfl,efr'.out] at c6
   have h1':=hid h1
   have hp':=hid hp
   clear h1 hp c3 c4
   go_wp2
   go_end0
   rw[hv2.out]
   exact⟨rfl,(h1'.out.setFresh _).pst hl'.out ((hp'.out.2.mono (λk e=>hT'.out k (by rw[show c k=2 from e];decide))).trans (Ch.setCell w1 (a:=⟨b,6,none⟩) hbT.out _)) (add_of hT'.out (by simp))⟩
 ·by_cases q2:s.st=2
  ·cases hcw:s.c with
   | none=>rw[hcw] at h2;exact absurd (h2 q2) (by decide)
   | some w =>
    have kw:=h.kw
    rw[hcw] at kw
    obtain⟨k0,rfl,kw⟩:=kw
    have hf:=hid (wfeed_at kw x (hw w hcw))
    have hv2:=hid (show ssFeed s x={ s with c:=some (wnFeed w x),fresh:=s.fresh||!x.isEmpty } by unfold ssFeed;rw[if_neg q1,if_pos q2,hcw];rfl)
    rw[q2] at hs
    obtain⟨fr,efr⟩:∃ fr,s.fresh=fr:=⟨_,rfl⟩
    rw[efr] at hv2
    have efr':=hid efr
    have hcw':=hid hcw
    clear h hT hl h2 hp hw q1 q2 efr hcw kw
    cases fr
    all_goals
     go_enter func12,ntmps12
     go_wp2_with fail
     refine hs.out.mono ?_
     rintro e w1⟨rfl,rfl⟩
     go_wp2_with fail
     refine hf.out.mono ?_
     rintro e w1⟨rfl,hp⟩
     have h1:=h'.out.setW hcw'.out hp
     have c6:=h1.c6
     have fz:=h1.fz
     rw[show ({ s with c:=some (wnFeed w x) }:Ss).fresh=s.fresh from rfl,efr'.out] at c6
     have h1':=hid h1
     have hp':=hid hp
     clear h1 hp c3 c4
     go_wp2
     go_end0
     rw[hv2.out]
     exact⟨rfl,(h1'.out.setFresh _).pst hl'.out ((hp'.out.2.mono (λk e=>hT'.out k (by rw[show c k=3 from e];decide))).trans (Ch.setCell w1 (a:=⟨b,6,none⟩) hbT.out _)) (add_of hT'.out (by simp))⟩
  ·have hv2:=hid (show ssFeed s x=s by unfold ssFeed;rw[if_neg q1,if_neg q2])
   have z1:((s.st:Int)==1)=false:=beq_false_of_ne (by omega)
   have z2:((s.st:Int)==2)=false:=beq_false_of_ne (by omega)
   clear h hT hl h2 hp hw q1 q2
   go_enter func12,ntmps12
   go_wp2_with fail
   refine hs.out.mono ?_
   rintro e w1⟨rfl,rfl⟩
   go_wp2
   refine bodyPost_ret (v:=.tuple #[]) (by simp[results,results12,go_sem]) rfl ?_
   rw[hv2.out]
   exact⟨rfl,(snKin b hv).of_gr h0.out (Gr.refl _)⟩
end
def frV (op:Int) (s:List UInt8):Value:=.agg #[.bool true,.int .i64 0,.int .i64 op,.bool false,.int .u8 0,.int .u8 0,.int .u8 0,.int .u8 0,.string ⟨s.toArray⟩]
def FbPost (op:Int) (s:List UInt8) (W:World) (e:Ending) (W':World):Prop:=(∃ n:Int,e=.returned (.tuple #[.string ⟨(outF op s).toArray⟩,.int .i64 n]))∧Gr W W'
theorem fbytes_low (op:Int) (s:List UInt8) (W:World) (h:op<0):Calls prog 44 #[frV op s] W (FbPost op s W):=by
 have hv:=hid (show outF op s=[] by unfold outF;rw[if_pos (.inl h)])
 unfold frV
 go_enter func44,ntmps44
 go_wp2
 refine bodyPost_ret (v:=.tuple #[.string ⟨#[]⟩,.int .i64 1]) (by simp[results,results44,go_sem]) rfl ⟨⟨1,by rw[hv.out]⟩,Gr.alloc _ _⟩
theorem fbytes_high (op:Int) (s:List UInt8) (W:World) (h:15<op):Calls prog 44 #[frV op s] W (FbPost op s W):=by
 have hv:=hid (show outF op s=[] by unfold outF;rw[if_pos (.inr h)])
 have h0:¬op<0:=by omega
 unfold frV
 go_enter func44,ntmps44
 go_wp2
 refine bodyPost_ret (v:=.tuple #[.string ⟨#[]⟩,.int .i64 1]) (by simp[results,results44,go_sem]) rfl ⟨⟨1,by rw[hv.out]⟩,Gr.alloc _ _⟩
theorem or0_i64:∀ n:Fin 16,bits .or .i64 0 (n.val:Int)=(n.val:Int):=by decide +kernel
theorem or128_u8:∀ n:Fin 16,bits .or .u8 (n.val:Int) 128=((128+n.val:Nat):Int):=by decide +kernel
theorem key_eq (w:World):(Op.equalIn 10000 54 (.agg #[.int .u8 0,.int .u8 0,.int .u8 0,.int .u8 0]) (.agg #[.int .u8 0,.int .u8 0,.int .u8 0,.int .u8 0])).run prog w=.ok true w:=by
 kernel_rfl
theorem maskH_hd0 (s:List UInt8):maskH hd0 0 s=s:=by
 apply List.ext_getElem
 ·rw[maskH_len]
 ·intro i h1 h2
  have e:∀ k,keyH hd0 k=0:=λk=>by unfold keyH hd0;simp
  simp[maskH,e]
theorem bcells_cons (d:UInt8) (l:List UInt8):bcells (d :: l)=.int .u8 d.toNat :: bcells l:=rfl
theorem mask0_later (s:List UInt8) (W:World) (hs:s.length≤4611686018427387900) (y:Later (Gr W)) :
  Calls prog 78 #[.agg #[.int .u8 0,.int .u8 0,.int .u8 0,.int .u8 0],.int .i64 0,.string ⟨s.toArray⟩] y.w λe w'=>e=.returned (.string ⟨s.toArray⟩)∧∃ z:Later (Gr W),w'=z.w:=by
 have e:=fmask_any hd0 0 s y.w hs
 rw[maskH_hd0] at e
 exact Calls.later (e.mono λ_ w' ⟨h1,h2⟩=>⟨h1,y.ok.trans h2⟩)
def FbR (s:List UInt8) (F:List UInt8) (z:Nat) (W:World) (v i:Value) (wr:World):Prop :=
 ∃ k:Nat,k≤z∧i=.int .i64 ((z:Int) - 1 - k)∧Gr W wr∧W.heap.size+1≤wr.heap.size∧wr.ownsRow (W.heap.size+1) 5 1 v (2+k) (bcells (F.take (2+k)))∧wr.cell? ⟨W.heap.size,3,none⟩=some (.bool false) ∧
  (wr.cell? ⟨W.heap.size,4,none⟩=some (.int .u8 0)∧wr.cell? ⟨W.heap.size,5,none⟩=some (.int .u8 0)∧wr.cell? ⟨W.heap.size,6,none⟩=some (.int .u8 0)∧wr.cell? ⟨W.heap.size,7,none⟩=some (.int .u8 0))∧wr.cell? ⟨W.heap.size,8,none⟩=some (.string ⟨s.toArray⟩)
theorem fb_step {s F:List UInt8} {z k:Nat} {W wr w5:World} {v v':Value} {d:UInt8} {o:Obj} (hk:k<z) (g:Gr W wr) (hs:W.heap.size+1≤wr.heap.size) (hown:wr.ownsRow (W.heap.size+1) 5 1 v (2+k) (bcells (F.take (2+k))))
  (e3:wr.cell? ⟨W.heap.size,3,none⟩=some (.bool false)) (e4:wr.cell? ⟨W.heap.size,4,none⟩=some (.int .u8 0)∧wr.cell? ⟨W.heap.size,5,none⟩=some (.int .u8 0)∧wr.cell? ⟨W.heap.size,6,none⟩=some (.int .u8 0)∧wr.cell? ⟨W.heap.size,7,none⟩=some (.int .u8 0)) (e8:wr.cell? ⟨W.heap.size,8,none⟩=some (.string ⟨s.toArray⟩))
  (hF:F[2+k]?=some d) (hown5:w5.ownsRow (W.heap.size+1) 5 1 v' (2+k+1) (bcells (F.take (2+k))++[.int .u8 d.toNat])) (hgrow:(wr.alloc o).grownBy w5 v.ownBlock):FbR s F z W v' (.int .i64 ((z:Int) - 1 - (k+1:Nat))) w5:=by
 have hlt:2+k<F.length:=(List.getElem?_eq_some_iff.1 hF).1
 have hd:F[2+k]=d:=(List.getElem?_eq_some_iff.1 hF).2
 have hc:Ch (λj=>v.ownBlock=some j) wr w5:=((Gr.alloc wr o).to_ch _).trans (ch_grown hgrow)
 have hb:¬(v.ownBlock=some W.heap.size):=λe=>by have:=(hown.lt _ e).1;omega
 have cc:∀ {j u},wr.cell? ⟨W.heap.size,j,none⟩=some u→w5.cell? ⟨W.heap.size,j,none⟩=some u:=fun {j u} hh=>(hc.cell (p:=⟨W.heap.size,j,none⟩) (cell_lt hh) hb).trans hh
 refine⟨k+1,hk,rfl,g.ch hc (λj e=>by have:=(hown.lt _ e).1;omega),Nat.le_trans hs hc.size,?_,cc e3,⟨cc e4.1,cc e4.2.1,cc e4.2.2.1,cc e4.2.2.2⟩,cc e8⟩
 rw[show 2+(k+1)=2+k+1 from rfl,List.take_succ_eq_append_getElem hlt,bcells_app,hd]
 exact hown5
theorem fbytes_short (op:Nat) (s:List UInt8) (W:World) (h:op≤15) (hs:s.length≤4611686018427387900) (hn:s.length≤125):Calls prog 44 #[frV op s] W (FbPost op s W):=by
 have hv0:outF op s=[UInt8.ofNat (128+op),UInt8.ofNat s.length]++s:=by unfold outF;rw[if_neg (by omega)];unfold numF;rw[if_pos hn];rfl
 have hls:=hid (show ∀ w,_ from λw=>by have e:=fleast_any s.length w;rw[show leastH s.length=0 by unfold leastH;rw[if_pos hn]] at e;exact e)
 have h0:¬(op:Int)<0:=by omega
 have h1:¬(15:Int)<(op:Int):=by omega
 have ho1:=or0_i64 ⟨op,by omega⟩
 have ho2:=or128_u8 ⟨op,by omega⟩
 dsimp only at ho1 ho2
 have hob:(op:Int) % 256=op:=by omega
 obtain⟨y0,hy0⟩:∃ y,UInt8.ofNat (128+op)=y:=⟨_,rfl⟩
 have hq0:(y0.toNat:Int)=128+(op:Int):=by rw[←hy0];simp[UInt8.toNat_ofNat'] <;> omega
 obtain⟨y1,hy1⟩:∃ y,UInt8.ofNat s.length=y:=⟨_,rfl⟩
 have hq1:(y1.toNat:Int)=(s.length:Int):=by rw[←hy1];simp[UInt8.toNat_ofNat'] <;> omega
 rw[hy0,hy1] at hv0
 have hv:=hid hv0
 clear hv0 hy0 hy1
 have hke:=key_eq
 obtain⟨i0,hi,hz0,hz1,hz2⟩:=info_parts infoU8
 unfold frV
 go_enter func44,ntmps44
 go_wp2_with fail
 refine (hls.out _).mono ?_
 rintro e w3⟨rfl,rfl⟩
 clear hke ho1 ho2
 go_wp2
 obtain⟨w4,hw4⟩:∃ w4,(W.alloc (.cells #[.bool true,.int .i64 0,.int .i64 op,.bool false,.int .u8 0,.int .u8 0,.int .u8 0,.int .u8 0,.string ⟨s.toArray⟩] 56)).alloc (.cells #[.int .u8 (128+op),.int .u8 (s.length:Int)] 5)=w4:=⟨_,rfl⟩
 rw[hw4]
 have e3:w4.cell? ⟨W.heap.size,3,none⟩=some (.bool false):=by rw[←hw4];exact (Gr.alloc _ _).cell (cell_new7 _ _ _ 3 _ rfl)
 have e4:w4.cell? ⟨W.heap.size,4,none⟩=some (.int .u8 0):=by rw[←hw4];exact (Gr.alloc _ _).cell (cell_new7 _ _ _ 4 _ rfl)
 have e5:w4.cell? ⟨W.heap.size,5,none⟩=some (.int .u8 0):=by rw[←hw4];exact (Gr.alloc _ _).cell (cell_new7 _ _ _ 5 _ rfl)
 have e6:w4.cell? ⟨W.heap.size,6,none⟩=some (.int .u8 0):=by rw[←hw4];exact (Gr.alloc _ _).cell (cell_new7 _ _ _ 6 _ rfl)
 have e7:w4.cell? ⟨W.heap.size,7,none⟩=some (.int .u8 0):=by rw[←hw4];exact (Gr.alloc _ _).cell (cell_new7 _ _ _ 7 _ rfl)
 have e8:w4.cell? ⟨W.heap.size,8,none⟩=some (.string ⟨s.toArray⟩):=by rw[←hw4];exact (Gr.alloc _ _).cell (cell_new7 _ _ _ 8 _ rfl)
 have g4:Gr W w4:=by rw[←hw4];exact (Gr.alloc _ _).alloc1 _
 have s4:W.heap.size+1≤w4.heap.size:=by rw[←hw4];simp
 have o4:w4.ownsRow (W.heap.size+1) 5 1 (.slice (some ⟨W.heap.size+1,0,none⟩) 2 2) 2 (bcells [y0,y1]):=by
  have hl:=World.ownsRow_lit (base:=W.heap.size+1) (size:=1) (e:=5) (W.alloc (.cells #[.bool true,.int .i64 0,.int .i64 op,.bool false,.int .u8 0,.int .u8 0,.int .u8 0,.int .u8 0,.string ⟨s.toArray⟩] 56)) #[.int .u8 (128+op),.int .u8 (s.length:Int)] 2 (by simp) (by decide) rfl
  rw[World.size_alloc,hw4] at hl
  have e:bcells [y0,y1]=#[Value.int .u8 (128+op),.int .u8 (s.length:Int)].toList:=by rw[bcells_cons,bcells_cons,hq0,hq1];rfl
  rw[e]
  exact hl
 have hst:=hid (And.intro g4 (And.intro s4 (And.intro o4 (And.intro e3 (And.intro (And.intro e4 (And.intro e5 (And.intro e6 e7))) e8)))))
 clear hw4 e3 e4 e5 e6 e7 e8 g4 s4 o4 hq0 hq1
 go_loopw [4,7] (λv i wr=>FbR s [y0,y1] 0 W v i wr) (λ_ i _=>(intOf i+1).toNat)
 case atStart=>exact⟨0,Nat.zero_le _,rfl,hst.out.1,hst.out.2.1,hst.out.2.2.1,hst.out.2.2.2.1,hst.out.2.2.2.2.1,hst.out.2.2.2.2.2⟩
 case round =>
  clear hst
  obtain⟨k,hk,rfl,g4,s4,o4,e3,e47,e8⟩:=hrel
  obtain⟨pv,cv,rfl⟩:=ownsRow_slice o4
  have o4':=hid o4
  have g4':=hid g4
  have e47':=hid e47
  obtain⟨e4,e5,e6,e7⟩:=e47
  clear o4 g4
  have hkz:k=0:=by omega
  subst hkz
  rw[show ((0:Nat):Int) - 1 - ((0:Nat):Int) = -1 from rfl]
  have hown:OwnB (W.heap.size+1) wr (.slice pv (2+0) cv) [y0,y1]:=o4'.out
  have hcb:∀ y:Later (Gr wr),(convert 100 9 (.slice pv (2+0) cv)).run prog y.w=.ok (.string ⟨[y0,y1].toArray⟩) y.w:=λy=>conv_all (ownsRow_gr hown y.ok)
  haveI:Nonempty (Later (Gr wr)):=⟨⟨wr,Gr.refl wr⟩⟩
  have t4:∀ y:Later (Gr wr),y.w.cell? ⟨W.heap.size,4,none⟩=some (.int .u8 0):=λy=>y.ok.cell e4
  have t5:∀ y:Later (Gr wr),y.w.cell? ⟨W.heap.size,5,none⟩=some (.int .u8 0):=λy=>y.ok.cell e5
  have t6:∀ y:Later (Gr wr),y.w.cell? ⟨W.heap.size,6,none⟩=some (.int .u8 0):=λy=>y.ok.cell e6
  have t7:∀ y:Later (Gr wr),y.w.cell? ⟨W.heap.size,7,none⟩=some (.int .u8 0):=λy=>y.ok.cell e7
  have t8:∀ y:Later (Gr wr),y.w.cell? ⟨W.heap.size,8,none⟩=some (.string ⟨s.toArray⟩):=λy=>y.ok.cell e8
  have hmk:=hid (mask0_later s wr hs)
  have hcat:(⟨([y0,y1]).toArray⟩:ByteArray)++(⟨s.toArray⟩:ByteArray)=⟨([y0,y1]++s).toArray⟩:=cat_mk _ _
  go_upto_region 21 with (fail)
  clear hown o4' e4 e5 e6 e7 e8 s4
  refine wp_region_later (C:=Gr wr) (by kernel_rfl) (by kernel_rfl) (Gr.drew' _) ?_
  repeat (go_big_quiet_step (with_reducible exact hmk.out _))
  refine wpQuiet_nil ?_
  intro w9 hg9
  have hgz:=hid (g4'.out.trans hg9)
  clear t4 t5 t6 t7 t8 hcb hg9
  go_wp2
  refine bodyPost_ret (v:=.tuple #[.string ⟨([y0,y1]++s).toArray⟩,.int .i64 0]) (by simp[results,results44,go_sem]) rfl ⟨⟨0,by rw[hv.out]⟩,hgz.out⟩
theorem fbytes_two (op:Nat) (s:List UInt8) (W:World) (h:op≤15) (hs:s.length≤4611686018427387900) (hn:125<s.length∧s.length≤65535):Calls prog 44 #[frV op s] W (FbPost op s W):=by
 have hv0:outF op s=[UInt8.ofNat (128+op),126,UInt8.ofNat (s.length / 256),UInt8.ofNat s.length]++s:=by unfold outF;rw[if_neg (by omega)];unfold numF;rw[if_neg (by omega),if_pos hn.2];rfl
 have hls:=hid (show ∀ w,_ from λw=>by have e:=fleast_any s.length w;rw[show leastH s.length=2 by unfold leastH;rw[if_neg (by omega),if_pos hn.2]] at e;exact e)
 have h0:¬(op:Int)<0:=by omega
 have h1:¬(15:Int)<(op:Int):=by omega
 have ho1:=or0_i64 ⟨op,by omega⟩
 have ho2:=or128_u8 ⟨op,by omega⟩
 dsimp only at ho1 ho2
 have hob:(op:Int) % 256=op:=by omega
 obtain⟨y0,hy0⟩:∃ y,UInt8.ofNat (128+op)=y:=⟨_,rfl⟩
 have hq0:(y0.toNat:Int)=128+(op:Int):=by rw[←hy0];simp[UInt8.toNat_ofNat'] <;> omega
 have hq1:((126:UInt8).toNat:Int)=126:=rfl
 obtain⟨y2,hy2⟩:∃ y,UInt8.ofNat (s.length / 256)=y:=⟨_,rfl⟩
 have q0:(y2.toNat:Int)=((s.length:Int) / 256):=by rw[←hy2];simp[UInt8.toNat_ofNat'] <;> omega
 obtain⟨y3,hy3⟩:∃ y,UInt8.ofNat s.length=y:=⟨_,rfl⟩
 have q1:(y3.toNat:Int)=((s.length:Int) % 256):=by rw[←hy3];simp[UInt8.toNat_ofNat'] <;> omega
 rw[hy0,hy2,hy3] at hv0
 have hv:=hid hv0
 clear hv0 hy0 hy2 hy3
 have hke:=key_eq
 obtain⟨i0,hi,hz0,hz1,hz2⟩:=info_parts infoU8
 unfold frV
 go_enter func44,ntmps44
 go_wp2_with fail
 refine (hls.out _).mono ?_
 rintro e w3⟨rfl,rfl⟩
 clear hke ho1 ho2
 go_wp2
 obtain⟨w4,hw4⟩:∃ w4,(W.alloc (.cells #[.bool true,.int .i64 0,.int .i64 op,.bool false,.int .u8 0,.int .u8 0,.int .u8 0,.int .u8 0,.string ⟨s.toArray⟩] 56)).alloc (.cells #[.int .u8 (128+op),.int .u8 126] 5)=w4:=⟨_,rfl⟩
 rw[hw4]
 have e3:w4.cell? ⟨W.heap.size,3,none⟩=some (.bool false):=by rw[←hw4];exact (Gr.alloc _ _).cell (cell_new7 _ _ _ 3 _ rfl)
 have e4:w4.cell? ⟨W.heap.size,4,none⟩=some (.int .u8 0):=by rw[←hw4];exact (Gr.alloc _ _).cell (cell_new7 _ _ _ 4 _ rfl)
 have e5:w4.cell? ⟨W.heap.size,5,none⟩=some (.int .u8 0):=by rw[←hw4];exact (Gr.alloc _ _).cell (cell_new7 _ _ _ 5 _ rfl)
 have e6:w4.cell? ⟨W.heap.size,6,none⟩=some (.int .u8 0):=by rw[←hw4];exact (Gr.alloc _ _).cell (cell_new7 _ _ _ 6 _ rfl)
 have e7:w4.cell? ⟨W.heap.size,7,none⟩=some (.int .u8 0):=by rw[←hw4];exact (Gr.alloc _ _).cell (cell_new7 _ _ _ 7 _ rfl)
 have e8:w4.cell? ⟨W.heap.size,8,none⟩=some (.string ⟨s.toArray⟩):=by rw[←hw4];exact (Gr.alloc _ _).cell (cell_new7 _ _ _ 8 _ rfl)
 have g4:Gr W w4:=by rw[←hw4];exact (Gr.alloc _ _).alloc1 _
 have s4:W.heap.size+1≤w4.heap.size:=by rw[←hw4];simp
 have o4:w4.ownsRow (W.heap.size+1) 5 1 (.slice (some ⟨W.heap.size+1,0,none⟩) 2 2) 2 (bcells [y0,126]):=by
  have hl:=World.ownsRow_lit (base:=W.heap.size+1) (size:=1) (e:=5) (W.alloc (.cells #[.bool true,.int .i64 0,.int .i64 op,.bool false,.int .u8 0,.int .u8 0,.int .u8 0,.int .u8 0,.string ⟨s.toArray⟩] 56)) #[.int .u8 (128+op),.int .u8 126] 2 (by simp) (by decide) rfl
  rw[World.size_alloc,hw4] at hl
  have e:bcells [y0,126]=#[Value.int .u8 (128+op),.int .u8 126].toList:=by rw[bcells_cons,bcells_cons,hq0,hq1];rfl
  rw[e]
  exact hl
 have hst:=hid (And.intro g4 (And.intro s4 (And.intro o4 (And.intro e3 (And.intro (And.intro e4 (And.intro e5 (And.intro e6 e7))) e8)))))
 clear hw4 e3 e4 e5 e6 e7 e8 g4 s4 o4 hq0 hq1
 go_loopw [4,7] (λv i wr=>FbR s [y0,126,y2,y3] 2 W v i wr) (λ_ i _=>(intOf i+1).toNat)
 case atStart=>exact⟨0,Nat.zero_le _,rfl,hst.out.1,hst.out.2.1,hst.out.2.2.1,hst.out.2.2.2.1,hst.out.2.2.2.2.1,hst.out.2.2.2.2.2⟩
 case round =>
  clear hst
  obtain⟨k,hk,rfl,g4,s4,o4,e3,e47,e8⟩:=hrel
  obtain⟨pv,cv,rfl⟩:=ownsRow_slice o4
  have o4':=hid o4
  have g4':=hid g4
  have e47':=hid e47
  obtain⟨e4,e5,e6,e7⟩:=e47
  clear o4 g4
  by_cases hk0:k=0
  ·subst hk0
   rw[show ((2:Nat):Int) - 1 - ((0:Nat):Int)=1 from rfl]
   have hoA:∀ O,(wr.alloc O).ownsRow (W.heap.size+1) 5 1 (.slice pv (2+0) cv) (2+0) (bcells (List.take (2+0) [y0,126,y2,y3])):=λO=>World.ownsRow.alloc o4'.out O
   have hcA:∀ r:Int,∀ j u,[Value.int .u8 r][j]?=some u→(wr.alloc (.cells #[.int .u8 r] 5)).cell? ((⟨wr.heap.size,0,none⟩:Addr).add j)=some u:=λr=>cell_one_new wr (.int .u8 r) 5
   go_wp2_with (at_builtin;refine wpList_append_own _ rfl _ _ 100 rfl (W.heap.size+1) 5 i0 (.int .u8 0) 1 1 underlying100 hi hz0 hz1 hz2 rfl (by decide) _ _ _ rfl (hoA _) ⟨wr.heap.size,0,none⟩ 1 1 [.int .u8 _] rfl rfl (hcA _) (by simp[Value.oneCell']) (by unfold maxLen;decide) (by decide) (by simp;omega) ?_)
   intro v' w5 hown5 hgrow5 _
   rw[←q0] at hown5
   have hrel9:=hid (fb_step (F:=[y0,126,y2,y3]) (z:=2) (k:=0) (d:=y2) (by decide) g4'.out s4 o4'.out e3 e47'.out e8 rfl hown5 hgrow5)
   clear hown5 hgrow5 hoA hcA e3 e4 e5 e6 e7 e8
   go_wp2
   go_roundw
   case rel=>exact hrel9.out
   case measure=>decide
  by_cases hk1:k=1
  ·subst hk1
   rw[show ((2:Nat):Int) - 1 - ((1:Nat):Int)=0 from rfl]
   have hoA:∀ O,(wr.alloc O).ownsRow (W.heap.size+1) 5 1 (.slice pv (2+1) cv) (2+1) (bcells (List.take (2+1) [y0,126,y2,y3])):=λO=>World.ownsRow.alloc o4'.out O
   have hcA:∀ r:Int,∀ j u,[Value.int .u8 r][j]?=some u→(wr.alloc (.cells #[.int .u8 r] 5)).cell? ((⟨wr.heap.size,0,none⟩:Addr).add j)=some u:=λr=>cell_one_new wr (.int .u8 r) 5
   go_wp2_with (at_builtin;refine wpList_append_own _ rfl _ _ 100 rfl (W.heap.size+1) 5 i0 (.int .u8 0) 1 1 underlying100 hi hz0 hz1 hz2 rfl (by decide) _ _ _ rfl (hoA _) ⟨wr.heap.size,0,none⟩ 1 1 [.int .u8 _] rfl rfl (hcA _) (by simp[Value.oneCell']) (by unfold maxLen;decide) (by decide) (by simp;omega) ?_)
   intro v' w5 hown5 hgrow5 _
   rw[←q1] at hown5
   have hrel9:=hid (fb_step (F:=[y0,126,y2,y3]) (z:=2) (k:=1) (d:=y3) (by decide) g4'.out s4 o4'.out e3 e47'.out e8 rfl hown5 hgrow5)
   clear hown5 hgrow5 hoA hcA e3 e4 e5 e6 e7 e8
   go_wp2
   go_roundw
   case rel=>exact hrel9.out
   case measure=>decide
  have hkz:k=2:=by omega
  subst hkz
  rw[show ((2:Nat):Int) - 1 - ((2:Nat):Int) = -1 from rfl]
  have hown:OwnB (W.heap.size+1) wr (.slice pv (2+2) cv) [y0,126,y2,y3]:=o4'.out
  have hcb:∀ y:Later (Gr wr),(convert 100 9 (.slice pv (2+2) cv)).run prog y.w=.ok (.string ⟨[y0,126,y2,y3].toArray⟩) y.w:=λy=>conv_all (ownsRow_gr hown y.ok)
  haveI:Nonempty (Later (Gr wr)):=⟨⟨wr,Gr.refl wr⟩⟩
  have t4:∀ y:Later (Gr wr),y.w.cell? ⟨W.heap.size,4,none⟩=some (.int .u8 0):=λy=>y.ok.cell e4
  have t5:∀ y:Later (Gr wr),y.w.cell? ⟨W.heap.size,5,none⟩=some (.int .u8 0):=λy=>y.ok.cell e5
  have t6:∀ y:Later (Gr wr),y.w.cell? ⟨W.heap.size,6,none⟩=some (.int .u8 0):=λy=>y.ok.cell e6
  have t7:∀ y:Later (Gr wr),y.w.cell? ⟨W.heap.size,7,none⟩=some (.int .u8 0):=λy=>y.ok.cell e7
  have t8:∀ y:Later (Gr wr),y.w.cell? ⟨W.heap.size,8,none⟩=some (.string ⟨s.toArray⟩):=λy=>y.ok.cell e8
  have hmk:=hid (mask0_later s wr hs)
  have hcat:(⟨([y0,126,y2,y3]).toArray⟩:ByteArray)++(⟨s.toArray⟩:ByteArray)=⟨([y0,126,y2,y3]++s).toArray⟩:=cat_mk _ _
  go_upto_region 21 with (fail)
  clear hown o4' e4 e5 e6 e7 e8 s4
  refine wp_region_later (C:=Gr wr) (by kernel_rfl) (by kernel_rfl) (Gr.drew' _) ?_
  repeat (go_big_quiet_step (with_reducible exact hmk.out _))
  refine wpQuiet_nil ?_
  intro w9 hg9
  have hgz:=hid (g4'.out.trans hg9)
  clear t4 t5 t6 t7 t8 hcb hg9
  go_wp2
  refine bodyPost_ret (v:=.tuple #[.string ⟨([y0,126,y2,y3]++s).toArray⟩,.int .i64 0]) (by simp[results,results44,go_sem]) rfl ⟨⟨0,by rw[hv.out]⟩,hgz.out⟩
theorem fbytes_eight (op:Nat) (s:List UInt8) (W:World) (h:op≤15) (hs:s.length≤4611686018427387900) (hn:65535<s.length):Calls prog 44 #[frV op s] W (FbPost op s W):=by
 have hv0:outF op s=[UInt8.ofNat (128+op),127,UInt8.ofNat (s.length / 72057594037927936),UInt8.ofNat (s.length / 281474976710656),UInt8.ofNat (s.length / 1099511627776),UInt8.ofNat (s.length / 4294967296),UInt8.ofNat (s.length / 16777216),UInt8.ofNat (s.length / 65536),UInt8.ofNat (s.length / 256),UInt8.ofNat s.length]++s:=by unfold outF;rw[if_neg (by omega)];unfold numF;rw[if_neg (by omega),if_neg (by omega)];rfl
 have hls:=hid (show ∀ w,_ from λw=>by have e:=fleast_any s.length w;rw[show leastH s.length=8 by unfold leastH;rw[if_neg (by omega),if_neg (by omega)]] at e;exact e)
 have h0:¬(op:Int)<0:=by omega
 have h1:¬(15:Int)<(op:Int):=by omega
 have ho1:=or0_i64 ⟨op,by omega⟩
 have ho2:=or128_u8 ⟨op,by omega⟩
 dsimp only at ho1 ho2
 have hob:(op:Int) % 256=op:=by omega
 obtain⟨y0,hy0⟩:∃ y,UInt8.ofNat (128+op)=y:=⟨_,rfl⟩
 have hq0:(y0.toNat:Int)=128+(op:Int):=by rw[←hy0];simp[UInt8.toNat_ofNat'] <;> omega
 have hq1:((127:UInt8).toNat:Int)=127:=rfl
 obtain⟨y2,hy2⟩:∃ y,UInt8.ofNat (s.length / 72057594037927936)=y:=⟨_,rfl⟩
 have q0:(y2.toNat:Int)=((s.length:Int) / 72057594037927936):=by rw[←hy2];simp[UInt8.toNat_ofNat'] <;> omega
 obtain⟨y3,hy3⟩:∃ y,UInt8.ofNat (s.length / 281474976710656)=y:=⟨_,rfl⟩
 have q1:(y3.toNat:Int)=((s.length:Int) / 281474976710656 % 256):=by rw[←hy3];simp[UInt8.toNat_ofNat'] <;> omega
 obtain⟨y4,hy4⟩:∃ y,UInt8.ofNat (s.length / 1099511627776)=y:=⟨_,rfl⟩
 have q2:(y4.toNat:Int)=((s.length:Int) / 1099511627776 % 256):=by rw[←hy4];simp[UInt8.toNat_ofNat'] <;> omega
 obtain⟨y5,hy5⟩:∃ y,UInt8.ofNat (s.length / 4294967296)=y:=⟨_,rfl⟩
 have q3:(y5.toNat:Int)=((s.length:Int) / 4294967296 % 256):=by rw[←hy5];simp[UInt8.toNat_ofNat'] <;> omega
 obtain⟨y6,hy6⟩:∃ y,UInt8.ofNat (s.length / 16777216)=y:=⟨_,rfl⟩
 have q4:(y6.toNat:Int)=((s.length:Int) / 16777216 % 256):=by rw[←hy6];simp[UInt8.toNat_ofNat'] <;> omega
 obtain⟨y7,hy7⟩:∃ y,UInt8.ofNat (s.length / 65536)=y:=⟨_,rfl⟩
 have q5:(y7.toNat:Int)=((s.length:Int) / 65536 % 256):=by rw[←hy7];simp[UInt8.toNat_ofNat'] <;> omega
 obtain⟨y8,hy8⟩:∃ y,UInt8.ofNat (s.length / 256)=y:=⟨_,rfl⟩
 have q6:(y8.toNat:Int)=((s.length:Int) / 256 % 256):=by rw[←hy8];simp[UInt8.toNat_ofNat'] <;> omega
 obtain⟨y9,hy9⟩:∃ y,UInt8.ofNat s.length=y:=⟨_,rfl⟩
 have q7:(y9.toNat:Int)=((s.length:Int) % 256):=by rw[←hy9];simp[UInt8.toNat_ofNat'] <;> omega
 rw[hy0,hy2,hy3,hy4,hy5,hy6,hy7,hy8,hy9] at hv0
 have hv:=hid hv0
 clear hv0 hy0 hy2 hy3 hy4 hy5 hy6 hy7 hy8 hy9
 have hke:=key_eq
 obtain⟨i0,hi,hz0,hz1,hz2⟩:=info_parts infoU8
 unfold frV
 go_enter func44,ntmps44
 go_wp2_with fail
 refine (hls.out _).mono ?_
 rintro e w3⟨rfl,rfl⟩
 clear hke ho1 ho2
 go_wp2
 obtain⟨w4,hw4⟩:∃ w4,(W.alloc (.cells #[.bool true,.int .i64 0,.int .i64 op,.bool false,.int .u8 0,.int .u8 0,.int .u8 0,.int .u8 0,.string ⟨s.toArray⟩] 56)).alloc (.cells #[.int .u8 (128+op),.int .u8 127] 5)=w4:=⟨_,rfl⟩
 rw[hw4]
 have e3:w4.cell? ⟨W.heap.size,3,none⟩=some (.bool false):=by rw[←hw4];exact (Gr.alloc _ _).cell (cell_new7 _ _ _ 3 _ rfl)
 have e4:w4.cell? ⟨W.heap.size,4,none⟩=some (.int .u8 0):=by rw[←hw4];exact (Gr.alloc _ _).cell (cell_new7 _ _ _ 4 _ rfl)
 have e5:w4.cell? ⟨W.heap.size,5,none⟩=some (.int .u8 0):=by rw[←hw4];exact (Gr.alloc _ _).cell (cell_new7 _ _ _ 5 _ rfl)
 have e6:w4.cell? ⟨W.heap.size,6,none⟩=some (.int .u8 0):=by rw[←hw4];exact (Gr.alloc _ _).cell (cell_new7 _ _ _ 6 _ rfl)
 have e7:w4.cell? ⟨W.heap.size,7,none⟩=some (.int .u8 0):=by rw[←hw4];exact (Gr.alloc _ _).cell (cell_new7 _ _ _ 7 _ rfl)
 have e8:w4.cell? ⟨W.heap.size,8,none⟩=some (.string ⟨s.toArray⟩):=by rw[←hw4];exact (Gr.alloc _ _).cell (cell_new7 _ _ _ 8 _ rfl)
 have g4:Gr W w4:=by rw[←hw4];exact (Gr.alloc _ _).alloc1 _
 have s4:W.heap.size+1≤w4.heap.size:=by rw[←hw4];simp
 have o4:w4.ownsRow (W.heap.size+1) 5 1 (.slice (some ⟨W.heap.size+1,0,none⟩) 2 2) 2 (bcells [y0,127]):=by
  have hl:=World.ownsRow_lit (base:=W.heap.size+1) (size:=1) (e:=5) (W.alloc (.cells #[.bool true,.int .i64 0,.int .i64 op,.bool false,.int .u8 0,.int .u8 0,.int .u8 0,.int .u8 0,.string ⟨s.toArray⟩] 56)) #[.int .u8 (128+op),.int .u8 127] 2 (by simp) (by decide) rfl
  rw[World.size_alloc,hw4] at hl
  have e:bcells [y0,127]=#[Value.int .u8 (128+op),.int .u8 127].toList:=by rw[bcells_cons,bcells_cons,hq0,hq1];rfl
  rw[e]
  exact hl
 have hst:=hid (And.intro g4 (And.intro s4 (And.intro o4 (And.intro e3 (And.intro (And.intro e4 (And.intro e5 (And.intro e6 e7))) e8)))))
 clear hw4 e3 e4 e5 e6 e7 e8 g4 s4 o4 hq0 hq1
 go_loopw [4,7] (λv i wr=>FbR s [y0,127,y2,y3,y4,y5,y6,y7,y8,y9] 8 W v i wr) (λ_ i _=>(intOf i+1).toNat)
 case atStart=>exact⟨0,Nat.zero_le _,rfl,hst.out.1,hst.out.2.1,hst.out.2.2.1,hst.out.2.2.2.1,hst.out.2.2.2.2.1,hst.out.2.2.2.2.2⟩
 case round =>
  clear hst
  obtain⟨k,hk,rfl,g4,s4,o4,e3,e47,e8⟩:=hrel
  obtain⟨pv,cv,rfl⟩:=ownsRow_slice o4
  have o4':=hid o4
  have g4':=hid g4
  have e47':=hid e47
  obtain⟨e4,e5,e6,e7⟩:=e47
  clear o4 g4
  by_cases hk0:k=0
  ·subst hk0
   rw[show ((8:Nat):Int) - 1 - ((0:Nat):Int)=7 from rfl]
   have hoA:∀ O,(wr.alloc O).ownsRow (W.heap.size+1) 5 1 (.slice pv (2+0) cv) (2+0) (bcells (List.take (2+0) [y0,127,y2,y3,y4,y5,y6,y7,y8,y9])):=λO=>World.ownsRow.alloc o4'.out O
   have hcA:∀ r:Int,∀ j u,[Value.int .u8 r][j]?=some u→(wr.alloc (.cells #[.int .u8 r] 5)).cell? ((⟨wr.heap.size,0,none⟩:Addr).add j)=some u:=λr=>cell_one_new wr (.int .u8 r) 5
   go_wp2_with (at_builtin;refine wpList_append_own _ rfl _ _ 100 rfl (W.heap.size+1) 5 i0 (.int .u8 0) 1 1 underlying100 hi hz0 hz1 hz2 rfl (by decide) _ _ _ rfl (hoA _) ⟨wr.heap.size,0,none⟩ 1 1 [.int .u8 _] rfl rfl (hcA _) (by simp[Value.oneCell']) (by unfold maxLen;decide) (by decide) (by simp;omega) ?_)
   intro v' w5 hown5 hgrow5 _
   rw[←q0] at hown5
   have hrel9:=hid (fb_step (F:=[y0,127,y2,y3,y4,y5,y6,y7,y8,y9]) (z:=8) (k:=0) (d:=y2) (by decide) g4'.out s4 o4'.out e3 e47'.out e8 rfl hown5 hgrow5)
   clear hown5 hgrow5 hoA hcA e3 e4 e5 e6 e7 e8
   go_wp2
   go_roundw
   case rel=>exact hrel9.out
   case measure=>decide
  by_cases hk1:k=1
  ·subst hk1
   rw[show ((8:Nat):Int) - 1 - ((1:Nat):Int)=6 from rfl]
   have hoA:∀ O,(wr.alloc O).ownsRow (W.heap.size+1) 5 1 (.slice pv (2+1) cv) (2+1) (bcells (List.take (2+1) [y0,127,y2,y3,y4,y5,y6,y7,y8,y9])):=λO=>World.ownsRow.alloc o4'.out O
   have hcA:∀ r:Int,∀ j u,[Value.int .u8 r][j]?=some u→(wr.alloc (.cells #[.int .u8 r] 5)).cell? ((⟨wr.heap.size,0,none⟩:Addr).add j)=some u:=λr=>cell_one_new wr (.int .u8 r) 5
   go_wp2_with (at_builtin;refine wpList_append_own _ rfl _ _ 100 rfl (W.heap.size+1) 5 i0 (.int .u8 0) 1 1 underlying100 hi hz0 hz1 hz2 rfl (by decide) _ _ _ rfl (hoA _) ⟨wr.heap.size,0,none⟩ 1 1 [.int .u8 _] rfl rfl (hcA _) (by simp[Value.oneCell']) (by unfold maxLen;decide) (by decide) (by simp;omega) ?_)
   intro v' w5 hown5 hgrow5 _
   rw[←q1] at hown5
   have hrel9:=hid (fb_step (F:=[y0,127,y2,y3,y4,y5,y6,y7,y8,y9]) (z:=8) (k:=1) (d:=y3) (by decide) g4'.out s4 o4'.out e3 e47'.out e8 rfl hown5 hgrow5)
   clear hown5 hgrow5 hoA hcA e3 e4 e5 e6 e7 e8
   go_wp2
   go_roundw
   case rel=>exact hrel9.out
   case measure=>decide
  by_cases hk2:k=2
  ·subst hk2
   rw[show ((8:Nat):Int) - 1 - ((2:Nat):Int)=5 from rfl]
   have hoA:∀ O,(wr.alloc O).ownsRow (W.heap.size+1) 5 1 (.slice pv (2+2) cv) (2+2) (bcells (List.take (2+2) [y0,127,y2,y3,y4,y5,y6,y7,y8,y9])):=λO=>World.ownsRow.alloc o4'.out O
   have hcA:∀ r:Int,∀ j u,[Value.int .u8 r][j]?=some u→(wr.alloc (.cells #[.int .u8 r] 5)).cell? ((⟨wr.heap.size,0,none⟩:Addr).add j)=some u:=λr=>cell_one_new wr (.int .u8 r) 5
   go_wp2_with (at_builtin;refine wpList_append_own _ rfl _ _ 100 rfl (W.heap.size+1) 5 i0 (.int .u8 0) 1 1 underlying100 hi hz0 hz1 hz2 rfl (by decide) _ _ _ rfl (hoA _) ⟨wr.heap.size,0,none⟩ 1 1 [.int .u8 _] rfl rfl (hcA _) (by simp[Value.oneCell']) (by unfold maxLen;decide) (by decide) (by simp;omega) ?_)
   intro v' w5 hown5 hgrow5 _
   rw[←q2] at hown5
   have hrel9:=hid (fb_step (F:=[y0,127,y2,y3,y4,y5,y6,y7,y8,y9]) (z:=8) (k:=2) (d:=y4) (by decide) g4'.out s4 o4'.out e3 e47'.out e8 rfl hown5 hgrow5)
   clear hown5 hgrow5 hoA hcA e3 e4 e5 e6 e7 e8
   go_wp2
   go_roundw
   case rel=>exact hrel9.out
   case measure=>decide
  by_cases hk3:k=3
  ·subst hk3
   rw[show ((8:Nat):Int) - 1 - ((3:Nat):Int)=4 from rfl]
   have hoA:∀ O,(wr.alloc O).ownsRow (W.heap.size+1) 5 1 (.slice pv (2+3) cv) (2+3) (bcells (List.take (2+3) [y0,127,y2,y3,y4,y5,y6,y7,y8,y9])):=λO=>World.ownsRow.alloc o4'.out O
   have hcA:∀ r:Int,∀ j u,[Value.int .u8 r][j]?=some u→(wr.alloc (.cells #[.int .u8 r] 5)).cell? ((⟨wr.heap.size,0,none⟩:Addr).add j)=some u:=λr=>cell_one_new wr (.int .u8 r) 5
   go_wp2_with (at_builtin;refine wpList_append_own _ rfl _ _ 100 rfl (W.heap.size+1) 5 i0 (.int .u8 0) 1 1 underlying100 hi hz0 hz1 hz2 rfl (by decide) _ _ _ rfl (hoA _) ⟨wr.heap.size,0,none⟩ 1 1 [.int .u8 _] rfl rfl (hcA _) (by simp[Value.oneCell']) (by unfold maxLen;decide) (by decide) (by simp;omega) ?_)
   intro v' w5 hown5 hgrow5 _
   rw[←q3] at hown5
   have hrel9:=hid (fb_step (F:=[y0,127,y2,y3,y4,y5,y6,y7,y8,y9]) (z:=8) (k:=3) (d:=y5) (by decide) g4'.out s4 o4'.out e3 e47'.out e8 rfl hown5 hgrow5)
   clear hown5 hgrow5 hoA hcA e3 e4 e5 e6 e7 e8
   go_wp2
   go_roundw
   case rel=>exact hrel9.out
   case measure=>decide
  by_cases hk4:k=4
  ·subst hk4
   rw[show ((8:Nat):Int) - 1 - ((4:Nat):Int)=3 from rfl]
   have hoA:∀ O,(wr.alloc O).ownsRow (W.heap.size+1) 5 1 (.slice pv (2+4) cv) (2+4) (bcells (List.take (2+4) [y0,127,y2,y3,y4,y5,y6,y7,y8,y9])):=λO=>World.ownsRow.alloc o4'.out O
   have hcA:∀ r:Int,∀ j u,[Value.int .u8 r][j]?=some u→(wr.alloc (.cells #[.int .u8 r] 5)).cell? ((⟨wr.heap.size,0,none⟩:Addr).add j)=some u:=λr=>cell_one_new wr (.int .u8 r) 5
   go_wp2_with (at_builtin;refine wpList_append_own _ rfl _ _ 100 rfl (W.heap.size+1) 5 i0 (.int .u8 0) 1 1 underlying100 hi hz0 hz1 hz2 rfl (by decide) _ _ _ rfl (hoA _) ⟨wr.heap.size,0,none⟩ 1 1 [.int .u8 _] rfl rfl (hcA _) (by simp[Value.oneCell']) (by unfold maxLen;decide) (by decide) (by simp;omega) ?_)
   intro v' w5 hown5 hgrow5 _
   rw[←q4] at hown5
   have hrel9:=hid (fb_step (F:=[y0,127,y2,y3,y4,y5,y6,y7,y8,y9]) (z:=8) (k:=4) (d:=y6) (by decide) g4'.out s4 o4'.out e3 e47'.out e8 rfl hown5 hgrow5)
   clear hown5 hgrow5 hoA hcA e3 e4 e5 e6 e7 e8
   go_wp2
   go_roundw
   case rel=>exact hrel9.out
   case measure=>decide
  by_cases hk5:k=5
  ·subst hk5
   rw[show ((8:Nat):Int) - 1 - ((5:Nat):Int)=2 from rfl]
   have hoA:∀ O,(wr.alloc O).ownsRow (W.heap.size+1) 5 1 (.slice pv (2+5) cv) (2+5) (bcells (List.take (2+5) [y0,127,y2,y3,y4,y5,y6,y7,y8,y9])):=λO=>World.ownsRow.alloc o4'.out O
   have hcA:∀ r:Int,∀ j u,[Value.int .u8 r][j]?=some u→(wr.alloc (.cells #[.int .u8 r] 5)).cell? ((⟨wr.heap.size,0,none⟩:Addr).add j)=some u:=λr=>cell_one_new wr (.int .u8 r) 5
   go_wp2_with (at_builtin;refine wpList_append_own _ rfl _ _ 100 rfl (W.heap.size+1) 5 i0 (.int .u8 0) 1 1 underlying100 hi hz0 hz1 hz2 rfl (by decide) _ _ _ rfl (hoA _) ⟨wr.heap.size,0,none⟩ 1 1 [.int .u8 _] rfl rfl (hcA _) (by simp[Value.oneCell']) (by unfold maxLen;decide) (by decide) (by simp;omega) ?_)
   intro v' w5 hown5 hgrow5 _
   rw[←q5] at hown5
   have hrel9:=hid (fb_step (F:=[y0,127,y2,y3,y4,y5,y6,y7,y8,y9]) (z:=8) (k:=5) (d:=y7) (by decide) g4'.out s4 o4'.out e3 e47'.out e8 rfl hown5 hgrow5)
   clear hown5 hgrow5 hoA hcA e3 e4 e5 e6 e7 e8
   go_wp2
   go_roundw
   case rel=>exact hrel9.out
   case measure=>decide
  by_cases hk6:k=6
  ·subst hk6
   rw[show ((8:Nat):Int) - 1 - ((6:Nat):Int)=1 from rfl]
   have hoA:∀ O,(wr.alloc O).ownsRow (W.heap.size+1) 5 1 (.slice pv (2+6) cv) (2+6) (bcells (List.take (2+6) [y0,127,y2,y3,y4,y5,y6,y7,y8,y9])):=λO=>World.ownsRow.alloc o4'.out O
   have hcA:∀ r:Int,∀ j u,[Value.int .u8 r][j]?=some u→(wr.alloc (.cells #[.int .u8 r] 5)).cell? ((⟨wr.heap.size,0,none⟩:Addr).add j)=some u:=λr=>cell_one_new wr (.int .u8 r) 5
   go_wp2_with (at_builtin;refine wpList_append_own _ rfl _ _ 100 rfl (W.heap.size+1) 5 i0 (.int .u8 0) 1 1 underlying100 hi hz0 hz1 hz2 rfl (by decide) _ _ _ rfl (hoA _) ⟨wr.heap.size,0,none⟩ 1 1 [.int .u8 _] rfl rfl (hcA _) (by simp[Value.oneCell']) (by unfold maxLen;decide) (by decide) (by simp;omega) ?_)
   intro v' w5 hown5 hgrow5 _
   rw[←q6] at hown5
   have hrel9:=hid (fb_step (F:=[y0,127,y2,y3,y4,y5,y6,y7,y8,y9]) (z:=8) (k:=6) (d:=y8) (by decide) g4'.out s4 o4'.out e3 e47'.out e8 rfl hown5 hgrow5)
   clear hown5 hgrow5 hoA hcA e3 e4 e5 e6 e7 e8
   go_wp2
   go_roundw
   case rel=>exact hrel9.out
   case measure=>decide
  by_cases hk7:k=7
  ·subst hk7
   rw[show ((8:Nat):Int) - 1 - ((7:Nat):Int)=0 from rfl]
   have hoA:∀ O,(wr.alloc O).ownsRow (W.heap.size+1) 5 1 (.slice pv (2+7) cv) (2+7) (bcells (List.take (2+7) [y0,127,y2,y3,y4,y5,y6,y7,y8,y9])):=λO=>World.ownsRow.alloc o4'.out O
   have hcA:∀ r:Int,∀ j u,[Value.int .u8 r][j]?=some u→(wr.alloc (.cells #[.int .u8 r] 5)).cell? ((⟨wr.heap.size,0,none⟩:Addr).add j)=some u:=λr=>cell_one_new wr (.int .u8 r) 5
   go_wp2_with (at_builtin;refine wpList_append_own _ rfl _ _ 100 rfl (W.heap.size+1) 5 i0 (.int .u8 0) 1 1 underlying100 hi hz0 hz1 hz2 rfl (by decide) _ _ _ rfl (hoA _) ⟨wr.heap.size,0,none⟩ 1 1 [.int .u8 _] rfl rfl (hcA _) (by simp[Value.oneCell']) (by unfold maxLen;decide) (by decide) (by simp;omega) ?_)
   intro v' w5 hown5 hgrow5 _
   rw[←q7] at hown5
   have hrel9:=hid (fb_step (F:=[y0,127,y2,y3,y4,y5,y6,y7,y8,y9]) (z:=8) (k:=7) (d:=y9) (by decide) g4'.out s4 o4'.out e3 e47'.out e8 rfl hown5 hgrow5)
   clear hown5 hgrow5 hoA hcA e3 e4 e5 e6 e7 e8
   go_wp2
   go_roundw
   case rel=>exact hrel9.out
   case measure=>decide
  have hkz:k=8:=by omega
  subst hkz
  rw[show ((8:Nat):Int) - 1 - ((8:Nat):Int) = -1 from rfl]
  have hown:OwnB (W.heap.size+1) wr (.slice pv (2+8) cv) [y0,127,y2,y3,y4,y5,y6,y7,y8,y9]:=o4'.out
  have hcb:∀ y:Later (Gr wr),(convert 100 9 (.slice pv (2+8) cv)).run prog y.w=.ok (.string ⟨[y0,127,y2,y3,y4,y5,y6,y7,y8,y9].toArray⟩) y.w:=λy=>conv_all (ownsRow_gr hown y.ok)
  haveI:Nonempty (Later (Gr wr)):=⟨⟨wr,Gr.refl wr⟩⟩
  have t4:∀ y:Later (Gr wr),y.w.cell? ⟨W.heap.size,4,none⟩=some (.int .u8 0):=λy=>y.ok.cell e4
  have t5:∀ y:Later (Gr wr),y.w.cell? ⟨W.heap.size,5,none⟩=some (.int .u8 0):=λy=>y.ok.cell e5
  have t6:∀ y:Later (Gr wr),y.w.cell? ⟨W.heap.size,6,none⟩=some (.int .u8 0):=λy=>y.ok.cell e6
  have t7:∀ y:Later (Gr wr),y.w.cell? ⟨W.heap.size,7,none⟩=some (.int .u8 0):=λy=>y.ok.cell e7
  have t8:∀ y:Later (Gr wr),y.w.cell? ⟨W.heap.size,8,none⟩=some (.string ⟨s.toArray⟩):=λy=>y.ok.cell e8
  have hmk:=hid (mask0_later s wr hs)
  have hcat:(⟨([y0,127,y2,y3,y4,y5,y6,y7,y8,y9]).toArray⟩:ByteArray)++(⟨s.toArray⟩:ByteArray)=⟨([y0,127,y2,y3,y4,y5,y6,y7,y8,y9]++s).toArray⟩:=cat_mk _ _
  go_upto_region 21 with (fail)
  clear hown o4' e4 e5 e6 e7 e8 s4
  refine wp_region_later (C:=Gr wr) (by kernel_rfl) (by kernel_rfl) (Gr.drew' _) ?_
  repeat (go_big_quiet_step (with_reducible exact hmk.out _))
  refine wpQuiet_nil ?_
  intro w9 hg9
  have hgz:=hid (g4'.out.trans hg9)
  clear t4 t5 t6 t7 t8 hcb hg9
  go_wp2
  refine bodyPost_ret (v:=.tuple #[.string ⟨([y0,127,y2,y3,y4,y5,y6,y7,y8,y9]++s).toArray⟩,.int .i64 0]) (by simp[results,results44,go_sem]) rfl ⟨⟨0,by rw[hv.out]⟩,hgz.out⟩
theorem fbytes_any (op:Int) (s:List UInt8) (W:World) (hs:s.length≤4611686018427387900):Calls prog 44 #[frV op s] W (FbPost op s W):=by
 by_cases h1:op<0
 ·exact fbytes_low op s W h1
 ·by_cases h2:15<op
  ·exact fbytes_high op s W h2
  ·obtain⟨n,rfl⟩:=Int.eq_ofNat_of_zero_le (Int.not_lt.1 h1)
   have hn:n≤15:=by omega
   by_cases h3:s.length≤125
   ·exact fbytes_short n s W hn hs h3
   ·by_cases h4:s.length≤65535
    ·exact fbytes_two n s W hn hs ⟨by omega,h4⟩
    ·exact fbytes_eight n s W hn hs (by omega)
