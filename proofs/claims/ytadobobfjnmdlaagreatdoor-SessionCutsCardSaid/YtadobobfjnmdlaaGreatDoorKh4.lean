/-
  Walks over package chunk: a byte of a line. (printed by mk_kh.py)
-/
import Derived.Test.YtadobobfjnmdlaaGreatDoorKh1
import Derived.Deep.AppendLies
import Derived.Deep.RegionLaw
set_option linter.unnecessarySimpa false
set_option linter.unusedVariables false
set_option linter.unusedSimpArgs false
set_option maxHeartbeats 16000000
set_option maxRecDepth 100000
open Go.Lib (hid)
open Go.Proofs.Tryz
namespace Go.Proofs.YtadobobfjnmdlaaGreatDoor
open Go.RowKit
attribute [local go_sem] Oper.semAt_some
theorem letter_te3 (b:Nat) (c:Ck) (d:UInt8) (lv dv:Value) (W:World) (hG:G W) (hb:5<b) (h:Rd b W c lv dv) (hok:CkOk c) (hl:c.line=[]) (hs:c.st=3) (hm0:2048<c.tail+1) :
  Calls prog 137 #[.pointer (some ⟨b,0,none⟩),.int .u8 d.toNat] W λe W'=>e=.returned (.tuple #[])∧RdPost b lv dv W (letterC c d) W':=by
 obtain⟨i0,hi,hz0,hz1,hz2⟩:=info_parts infoU8
 have h':=hid h
 have hG':=hid hG
 have hb':=hid hb
 have hd10:=ten_eq d
 obtain⟨p,cap,hlv⟩:=ownsRow_slice h.l
 rw[hl] at hlv
 simp only[List.length_nil] at hlv
 have hlv':=hid hlv
 have hl':=hid hl
 have hcr:crB c.line=false:=by rw[hl];rfl
 have t1:∀ x:Later (Gr W),x.w.cell? ⟨b,1,none⟩=some (.slice p 0 cap):=λx=>(x.ok.cell h.c1).trans (by rw[hlv])
 obtain⟨m,hm⟩:∃ m,c.tail+1=m:=⟨_,rfl⟩
 have hmI:(c.tail:Int)+1=m:=by omega
 have hm':=hid hm
 have hmB:(m:Int)≤2049:=by have:=(hok.three hs).2.1;omega
 have hmb:(2048:Int)<m:=by omega
 have hH:=hid (show letterC c d=wrongC { c with tail:=m } 431 by unfold letterC;simp only[if_pos hs,hm];rw[if_pos (by omega)])
 have q0':=h.c0
 rw[hs] at q0'
 have q5':=h.c5
 have hbl':=h.lt
 clear hm0
 clear h hok hs hG hb hcr hm
 clear hl hlv
 haveI:Nonempty (Later (Gr W)):=⟨⟨_,Gr.refl _⟩⟩
 go_enter func137,ntmps137
 go_wp2_with fail
 refine wp_region_later (C:=Gr W) (by kernel_rfl) (by kernel_rfl) (Gr.drew' _) ?_
 repeat (go_big_quiet_step (fail))
 refine wpQuiet_nil ?_
 intro w1 hg1
 have h1:=hid (h'.out.gr hg1)
 have q0:=hg1.cell q0'
 have q5:=hg1.cell q5'
 have q1:=(h'.out.gr hg1).c1
 rw[hlv'.out] at q1
 have z1:=(h'.out.gr hg1).fz 1
 have z5:=(h'.out.gr hg1).fz 5
 have hbl:=(h'.out.gr hg1).lt
 have g1:=hid (hg1.to_ch (Fp b lv dv))
 have hG1:=hid (hG'.out.gr hg1)
 clear t1 hg1 q0' q5' hbl'
 have hV:=hid (h1.out.set5 m)
 have gV:=hid (g1.out.trans (fp_set (b:=b) (lv:=lv) (dv:=dv) w1 5 (.int .i64 m)))
 have hGV:=hid (hG1.out.ch (Ch.setCell (T:=λk=>k=b) w1 (a:=⟨b,5,none⟩) rfl (.int .i64 m)) (λg hg=>by have:=hb'.out;show ¬g=b;omega))
 go_wp2_with fail
 refine (wrong_any b { c with tail:=m } 431 lv dv _ hV.out).mono ?_
 rintro e w2⟨rfl,hp⟩
 have hp':=hid hp
 clear hp
 go_wp2
 go_end0
 exact⟨rfl,by rw[hH.out];exact hp'.out.after gV.out fp_self⟩
theorem letter_an0 (b:Nat) (c:Ck) (d:UInt8) (lv dv:Value) (W:World) (hG:G W) (hb:5<b) (h:Rd b W c lv dv) (hok:CkOk c) (L:List UInt8) (x:UInt8) (hl:c.line=L++[x]) (hs:c.st=0) (hc:crB c.line=false) (hd:(d==10)=false) (h2:c.line.length≠2048) :
  Calls prog 137 #[.pointer (some ⟨b,0,none⟩),.int .u8 d.toNat] W λe W'=>e=.returned (.tuple #[])∧RdPost b lv dv W (letterC c d) W':=by
 obtain⟨i0,hi,hz0,hz1,hz2⟩:=info_parts infoU8
 have h':=hid h
 have hG':=hid hG
 have hb':=hid hb
 have hd10:=ten_eq d
 obtain⟨g,cap,hlv,hgb,hgs,hcells,hcap⟩:=h.l.row (by rw[hl];simp)
 obtain⟨n,hn⟩:∃ n,c.line.length=n:=⟨_,rfl⟩
 obtain⟨k,hk⟩:∃ k,L.length=k:=⟨_,rfl⟩
 have hnk0:n=k+1:=by rw[←hn,hl,←hk];simp
 have hnk:(n:Int) - 1=k:=by omega
 have hn0:decide (0<n)=true:=decide_eq_true (by omega)
 have hkn:(k:Int)<n:=by omega
 have hkB:(n:Int)≤2048:=by have:=hok.zero hs;omega
 have hncap:n≤cap:=hn▸hcap
 rw[hn] at hlv
 have hlv':=hid hlv
 have hn':=hid hn
 have hk':=hid hk
 have hl':=hid hl
 have hcr:crB c.line=((x.toNat:Int)==13):=by rw[hl];exact crB_snoc L x
 have t1:∀ y:Later (Gr W),y.w.cell? ⟨b,1,none⟩=some (.slice (some ⟨g,0,none⟩) n cap):=λy=>(y.ok.cell h.c1).trans (by rw[hlv])
 have t2:∀ y:Later (Gr W),y.w.cell? ⟨g,k,none⟩=some (.int .u8 x.toNat):=λy=>y.ok.cell ((hcells k (by omega)).trans (by simp only[hl];rw[List.getElem_append_right (by omega)];simp[hk]))
 rw[hd] at hd10
 have hx:=hcr.symm.trans hc
 have hlen:=(hok.zero hs).1
 rw[hn] at hlen h2
 have hn2:((n:Int)==2048)=false:=beq_eq_false_iff_ne.2 (by omega)
 have htl:=(hok.zero hs).2.1
 have hH:=hid (show letterC c d={ c with line:=c.line++[d] } by unfold letterC;simp only[if_neg (show ¬c.st=3 by omega)];rw[if_neg (by omega)];rw[if_neg (by rw[hc,hd];decide),if_neg (by rw[hc];decide),if_neg (λe=>by have:=e.2;omega)])
 have q0':=h.c0
 rw[hs] at q0'
 have q5':=h.c5
 rw[htl] at q5'
 have hbl':=h.lt
 clear hd
 clear hc
 clear h hok hs hG hb hcr htl
 clear hl hlv hk hn hgs hgb hcells hnk0
 haveI:Nonempty (Later (Gr W)):=⟨⟨_,Gr.refl _⟩⟩
 go_enter func137,ntmps137
 go_wp2_with fail
 refine wp_region_later (C:=Gr W) (by kernel_rfl) (by kernel_rfl) (Gr.drew' _) ?_
 repeat (go_big_quiet_step (fail))
 refine wpQuiet_nil ?_
 intro w1 hg1
 have h1:=hid (h'.out.gr hg1)
 have q0:=hg1.cell q0'
 have q5:=hg1.cell q5'
 have q1:=(h'.out.gr hg1).c1
 rw[hlv'.out] at q1
 have z1:=(h'.out.gr hg1).fz 1
 have z5:=(h'.out.gr hg1).fz 5
 have hbl:=(h'.out.gr hg1).lt
 have g1:=hid (hg1.to_ch (Fp b lv dv))
 have hG1:=hid (hG'.out.gr hg1)
 clear t1 hg1 q0' q5' hbl' t2 hn0
 have hV:=h1
 have gV:=g1
 have hGV:=hG1
 have hcl:=hid (show c.line.length=n from hn'.out)
 go_wp2_with (at_builtin;refine wpList_append_own_at _ rfl _ _ 100 rfl (b+1) 5 i0 (.int .u8 0) 1 1 underlying100 hi hz0 hz1 hz2 rfl (by decide) lv c.line.length _ hlv'.out.symm (hV.out.l.alloc _) ⟨w1.heap.size,0,none⟩ 1 1 [.int .u8 d.toNat] rfl rfl (cell_one_new' _ _ _ (by simp)) (by simp[Value.oneCell']) (by rw[hcl.out];unfold maxLen;omega) (by rw[hcl.out];omega) (by simp;omega) ?_;intro v' w3 hown hgrow _ hat;have hown2:=own_snoc hown;obtain⟨g',cap',hv',_⟩:=OwnB.row hown2 (by simp);rw[show (c.line++[d]).length=n+1 by rw[List.length_append,hcl.out];rfl] at hv';subst hv';obtain⟨hp,⟨u,hu⟩,hz⟩:=hV.out.appended hgrow (l':=c.line++[d]) hown2 hat;have hp':=hid hp;clear hp hown hown2 hgrow hat)
 go_wp2
 go_end0
 exact⟨rfl,by rw[hH.out];exact hp'.out.after gV.out fp_self⟩
theorem letter_wnf3 (b:Nat) (c:Ck) (d:UInt8) (lv dv:Value) (W:World) (hG:G W) (hb:5<b) (h:Rd b W c lv dv) (hok:CkOk c) (L:List UInt8) (x:UInt8) (hl:c.line=L++[x]) (hs:c.st=3) (hc:crB c.line=false) (hd:(d==10)=true) (hm0:¬2048<c.tail+1) :
  Calls prog 137 #[.pointer (some ⟨b,0,none⟩),.int .u8 d.toNat] W λe W'=>e=.returned (.tuple #[])∧RdPost b lv dv W (letterC c d) W':=by
 obtain⟨i0,hi,hz0,hz1,hz2⟩:=info_parts infoU8
 have h':=hid h
 have hG':=hid hG
 have hb':=hid hb
 have hd10:=ten_eq d
 obtain⟨g,cap,hlv,hgb,hgs,hcells,hcap⟩:=h.l.row (by rw[hl];simp)
 obtain⟨n,hn⟩:∃ n,c.line.length=n:=⟨_,rfl⟩
 obtain⟨k,hk⟩:∃ k,L.length=k:=⟨_,rfl⟩
 have hnk0:n=k+1:=by rw[←hn,hl,←hk];simp
 have hnk:(n:Int) - 1=k:=by omega
 have hn0:decide (0<n)=true:=decide_eq_true (by omega)
 have hkn:(k:Int)<n:=by omega
 have hkB:(n:Int)≤2048:=by have:=hok.three hs;omega
 have hncap:n≤cap:=hn▸hcap
 rw[hn] at hlv
 have hlv':=hid hlv
 have hn':=hid hn
 have hk':=hid hk
 have hl':=hid hl
 have hcr:crB c.line=((x.toNat:Int)==13):=by rw[hl];exact crB_snoc L x
 have t1:∀ y:Later (Gr W),y.w.cell? ⟨b,1,none⟩=some (.slice (some ⟨g,0,none⟩) n cap):=λy=>(y.ok.cell h.c1).trans (by rw[hlv])
 have t2:∀ y:Later (Gr W),y.w.cell? ⟨g,k,none⟩=some (.int .u8 x.toNat):=λy=>y.ok.cell ((hcells k (by omega)).trans (by simp only[hl];rw[List.getElem_append_right (by omega)];simp[hk]))
 obtain⟨m,hm⟩:∃ m,c.tail+1=m:=⟨_,rfl⟩
 have hmI:(c.tail:Int)+1=m:=by omega
 have hm':=hid hm
 have hmB:(m:Int)≤2049:=by have:=(hok.three hs).2.1;omega
 rw[hd] at hd10
 have hx:=hcr.symm.trans hc
 have hmb:¬((2048:Int)<m):=by omega
 have hH:=hid (show letterC c d=wrongC { c with tail:=m } 400 by unfold letterC;simp only[if_pos hs,hm];rw[if_neg (by omega)];rw[if_pos (by rw[hc,hd];rfl)])
 have q0':=h.c0
 rw[hs] at q0'
 have q5':=h.c5
 have hbl':=h.lt
 clear hd hc
 clear hm0
 clear h hok hs hG hb hcr hm
 clear hl hlv hk hn hgs hgb hcells hnk0
 haveI:Nonempty (Later (Gr W)):=⟨⟨_,Gr.refl _⟩⟩
 go_enter func137,ntmps137
 go_wp2_with fail
 refine wp_region_later (C:=Gr W) (by kernel_rfl) (by kernel_rfl) (Gr.drew' _) ?_
 repeat (go_big_quiet_step (fail))
 refine wpQuiet_nil ?_
 intro w1 hg1
 have h1:=hid (h'.out.gr hg1)
 have q0:=hg1.cell q0'
 have q5:=hg1.cell q5'
 have q1:=(h'.out.gr hg1).c1
 rw[hlv'.out] at q1
 have z1:=(h'.out.gr hg1).fz 1
 have z5:=(h'.out.gr hg1).fz 5
 have hbl:=(h'.out.gr hg1).lt
 have g1:=hid (hg1.to_ch (Fp b lv dv))
 have hG1:=hid (hG'.out.gr hg1)
 clear t1 hg1 q0' q5' hbl' t2 hn0
 have hV:=hid (h1.out.set5 m)
 have gV:=hid (g1.out.trans (fp_set (b:=b) (lv:=lv) (dv:=dv) w1 5 (.int .i64 m)))
 have hGV:=hid (hG1.out.ch (Ch.setCell (T:=λk=>k=b) w1 (a:=⟨b,5,none⟩) rfl (.int .i64 m)) (λg hg=>by have:=hb'.out;show ¬g=b;omega))
 go_wp2_with fail
 refine (wrong_any b { c with tail:=m } 400 lv dv _ hV.out).mono ?_
 rintro e w2⟨rfl,hp⟩
 have hp':=hid hp
 clear hp
 go_wp2
 go_end0
 exact⟨rfl,by rw[hH.out];exact hp'.out.after gV.out fp_self⟩
theorem letter_ln3 (b:Nat) (c:Ck) (d:UInt8) (lv dv:Value) (W:World) (hG:G W) (hb:5<b) (h:Rd b W c lv dv) (hok:CkOk c) (L:List UInt8) (x:UInt8) (hl:c.line=L++[x]) (hs:c.st=3) (hc:crB c.line=true) (hd:(d==10)=true) (hm0:¬2048<c.tail+1) :
  Calls prog 137 #[.pointer (some ⟨b,0,none⟩),.int .u8 d.toNat] W λe W'=>e=.returned (.tuple #[])∧RdPost b lv dv W (letterC c d) W':=by
 obtain⟨i0,hi,hz0,hz1,hz2⟩:=info_parts infoU8
 have h':=hid h
 have hG':=hid hG
 have hb':=hid hb
 have hd10:=ten_eq d
 obtain⟨g,cap,hlv,hgb,hgs,hcells,hcap⟩:=h.l.row (by rw[hl];simp)
 obtain⟨n,hn⟩:∃ n,c.line.length=n:=⟨_,rfl⟩
 obtain⟨k,hk⟩:∃ k,L.length=k:=⟨_,rfl⟩
 have hnk0:n=k+1:=by rw[←hn,hl,←hk];simp
 have hnk:(n:Int) - 1=k:=by omega
 have hn0:decide (0<n)=true:=decide_eq_true (by omega)
 have hkn:(k:Int)<n:=by omega
 have hkB:(n:Int)≤2048:=by have:=hok.three hs;omega
 have hncap:n≤cap:=hn▸hcap
 rw[hn] at hlv
 have hlv':=hid hlv
 have hn':=hid hn
 have hk':=hid hk
 have hl':=hid hl
 have hcr:crB c.line=((x.toNat:Int)==13):=by rw[hl];exact crB_snoc L x
 have t1:∀ y:Later (Gr W),y.w.cell? ⟨b,1,none⟩=some (.slice (some ⟨g,0,none⟩) n cap):=λy=>(y.ok.cell h.c1).trans (by rw[hlv])
 have t2:∀ y:Later (Gr W),y.w.cell? ⟨g,k,none⟩=some (.int .u8 x.toNat):=λy=>y.ok.cell ((hcells k (by omega)).trans (by simp only[hl];rw[List.getElem_append_right (by omega)];simp[hk]))
 obtain⟨m,hm⟩:∃ m,c.tail+1=m:=⟨_,rfl⟩
 have hmI:(c.tail:Int)+1=m:=by omega
 have hm':=hid hm
 have hmB:(m:Int)≤2049:=by have:=(hok.three hs).2.1;omega
 rw[hd] at hd10
 have hx:=hcr.symm.trans hc
 have hs':=hid hs
 have hdl:=hok.data
 have hnf:=(hok.live (by omega)).2.1
 have hlen:c.line.length≤2048:=by have:=hok.three hs;omega
 have hLl:L.length≤900000:=by rw[hn] at hlen;omega
 have hmb:¬((2048:Int)<m):=by omega
 have hH:=hid (show letterC c d=trailerC { c with line:=[],tail:=m } L by unfold letterC;simp only[if_pos hs,hm];rw[if_neg (by omega)];rw[if_neg (by rw[hc,hd];decide),if_pos hc,if_neg (by omega)];rw[hl];simp only[List.dropLast_concat])
 have q0':=h.c0
 rw[hs] at q0'
 have q5':=h.c5
 have hbl':=h.lt
 clear hd hc hlen
 clear hm0
 clear h hok hs hG hb hcr hm
 clear hl hlv hk hn hgs hgb hcells hnk0
 haveI:Nonempty (Later (Gr W)):=⟨⟨_,Gr.refl _⟩⟩
 go_enter func137,ntmps137
 go_wp2_with fail
 refine wp_region_later (C:=Gr W) (by kernel_rfl) (by kernel_rfl) (Gr.drew' _) ?_
 repeat (go_big_quiet_step (fail))
 refine wpQuiet_nil ?_
 intro w1 hg1
 have h1:=hid (h'.out.gr hg1)
 have q0:=hg1.cell q0'
 have q5:=hg1.cell q5'
 have q1:=(h'.out.gr hg1).c1
 rw[hlv'.out] at q1
 have z1:=(h'.out.gr hg1).fz 1
 have z5:=(h'.out.gr hg1).fz 5
 have hbl:=(h'.out.gr hg1).lt
 have g1:=hid (hg1.to_ch (Fp b lv dv))
 have hG1:=hid (hG'.out.gr hg1)
 clear t1 hg1 q0' q5' hbl' t2 hn0
 have hV:=hid (h1.out.set5 m)
 have gV:=hid (g1.out.trans (fp_set (b:=b) (lv:=lv) (dv:=dv) w1 5 (.int .i64 m)))
 have hGV:=hid (hG1.out.ch (Ch.setCell (T:=λk=>k=b) w1 (a:=⟨b,5,none⟩) rfl (.int .i64 m)) (λg hg=>by have:=hb'.out;show ¬g=b;omega))
 go_wp2_with fail
 haveI:Nonempty (Later (Gr (w1.setCell ⟨b,5,none⟩ (.int .i64 m)))):=⟨⟨_,Gr.refl _⟩⟩
 have t1:∀ y:Later (Gr (w1.setCell ⟨b,5,none⟩ (.int .i64 m))),y.w.cell? ⟨b,1,none⟩=some (.slice (some ⟨g,0,none⟩) n cap):=λy=>(y.ok.cell hV.out.c1).trans (by rw[hlv'.out])
 have t3:∀ y:Later (Gr (w1.setCell ⟨b,5,none⟩ (.int .i64 m))),(convert 100 9 (.slice (some ⟨g,0,none⟩) k cap)).run prog y.w=.ok (.string ⟨L.toArray⟩) y.w:=λy=>by
   have:=conv_take (hV.out.gr y.ok).l (g:=g) (cap:=cap) (by rw[hlv'.out,←hn'.out]) k cap (by rw[hn'.out];omega)
   rwa [show c.line.take k=L by rw[hl'.out,←hk'.out];simp] at this
 refine wp_region_later (C:=Gr (w1.setCell ⟨b,5,none⟩ (.int .i64 m))) (by kernel_rfl) (by kernel_rfl) (Gr.drew' _) ?_
 repeat (go_big_quiet_step (fail))
 refine wpQuiet_nil ?_
 intro w3 hg3
 have h3:=hV.out.gr hg3
 have h4:=hid (h3.set1 (OwnB.nil _ _) (λk hk=>by cases hk))
 have r0:=h3.c0
 try dsimp only at r0
 rw[hs'.out] at r0
 have r1:=h3.c1
 rw[hlv'.out] at r1
 have z3:=h3.fz 1
 have hbl3:=h3.lt
 have hG3:=hGV.out.gr hg3
 have hG4:=hid (hG3.ch (Ch.setCell (T:=λk=>k=b) w3 (a:=⟨b,1,none⟩) rfl (.slice none 0 0)) (λg hg=>by have:=hb'.out;show ¬g=b;omega))
 have g4:=hid ((gV.out.trans (hg3.to_ch (Fp b lv dv))).trans (fp_set (b:=b) (lv:=lv) (dv:=dv) w3 1 (.slice none 0 0)))
 clear t1 t3 hg3 hG3 h3 q0 q1 q5 z1 z5
 go_wp2_with fail
 refine (trailer_any b { c with line:=[],tail:=m } L (.slice none 0 0) dv _ hG4.out hb'.out h4.out hnf hLl).mono ?_
 rintro e w5⟨rfl,hp⟩
 have hp':=hid hp
 clear hp
 go_wp2
 go_end0
 exact⟨rfl,by rw[hH.out];exact hp'.out.after g4.out fp_nil⟩
end Go.Proofs.YtadobobfjnmdlaaGreatDoor
namespace Go.Proofs.YtadobobfjnmdlaaGreatDoor
open Go.RowKit
theorem cletter_any (b:Nat) (c:Ck) (d:UInt8) (lv dv:Value) (W:World) (hG:G W) (hb:5<b) (h:Rd b W c lv dv) (hok:CkOk c) (hs:c.st=0∨c.st=3) :
  Calls prog 137 #[.pointer (some ⟨b,0,none⟩),.int .u8 d.toNat] W λe W'=>e=.returned (.tuple #[])∧RdPost b lv dv W (letterC c d) W':=by
 by_cases hl:c.line=[]
 ·rcases hs with hs | hs
  ·cases hd:d==10
   ·exact letter_ae0 b c d lv dv W hG hb h hok hl hs hd
   ·exact letter_we0 b c d lv dv W hG hb h hok hl hs hd
  ·by_cases hm:2048<c.tail+1
   ·exact letter_te3 b c d lv dv W hG hb h hok hl hs hm
   ·cases hd:d==10
    ·exact letter_ae3 b c d lv dv W hG hb h hok hl hs hd hm
    ·exact letter_we3 b c d lv dv W hG hb h hok hl hs hd hm
 ·obtain⟨L,x,hl⟩:∃ L x,c.line=L++[x]:=⟨c.line.dropLast,c.line.getLast hl,(List.dropLast_concat_getLast hl).symm⟩
  rcases hs with hs | hs
  ·cases hc:crB c.line
   ·cases hd:d==10
    ·by_cases h2:c.line.length=2048
     ·exact letter_mn0 b c d lv dv W hG hb h hok L x hl hs hc hd h2
     ·exact letter_an0 b c d lv dv W hG hb h hok L x hl hs hc hd h2
    ·exact letter_wnf0 b c d lv dv W hG hb h hok L x hl hs hc hd
   ·cases hd:d==10
    ·exact letter_wnt0 b c d lv dv W hG hb h hok L x hl hs hc hd
    ·exact letter_ln0 b c d lv dv W hG hb h hok L x hl hs hc hd
  ·by_cases hm:2048<c.tail+1
   ·cases hc:crB c.line
    ·exact letter_tnf3 b c d lv dv W hG hb h hok L x hl hs hc hm
    ·exact letter_tnt3 b c d lv dv W hG hb h hok L x hl hs hc hm
   ·cases hc:crB c.line
    ·cases hd:d==10
     ·exact letter_an3 b c d lv dv W hG hb h hok L x hl hs hc hd hm
     ·exact letter_wnf3 b c d lv dv W hG hb h hok L x hl hs hc hd hm
    ·cases hd:d==10
     ·exact letter_wnt3 b c d lv dv W hG hb h hok L x hl hs hc hd hm
     ·exact letter_ln3 b c d lv dv W hG hb h hok L x hl hs hc hd hm
attribute [local go_sem] Oper.semAt_some
theorem step_append_string {P:Program} {w:World} {ops:Array Oper} {o:Oper} {a:Act} {K:Act→World→Prop} {Q:Exit→Act→World→Prop} {E:Prop} (hgd:o.guard=none) (s x:Operand) (t u:TypeId)
  (ho:o.op=.call { callee:=.builtin .append,args:=#[s,x],argTypes:=#[t,u] })
  (base:Nat) (e:TypeId) (i:TypeInfo) (ht:P.underlying t=some (.slice e)) (hu:P.underlying u=some .string) (hi:P.info? e=some i) (hz:i.zero=some (.int .u8 0)) (hsize:i.size=1) (hby:i.bytes=1)
  (v:Value) (n:Nat) (xs:List Value) (hs:a.eval s=v) (hown:w.ownsRow base e 1 v n xs) (str:ByteArray) (hx:a.eval x=.string str) (h0:0<str.size)
  (h63:n+str.size≤maxLen) (hbytes:n+str.size≤140737488355328) (hbase:base≤w.heap.size) (N:Nat) (hN:n+str.size=N)
  (h:∀ g cap w',w'.ownsRow base e 1 (.slice (some ⟨g,0,none⟩) N cap) N (xs++Lib.strCells str)→w.grownBy w' v.ownBlock→(v.ownBlock=some g∨g=w.heap.size)→K (a.put o.dst (.slice (some ⟨g,0,none⟩) N cap)) w') :
  if Region.wanted o (yielded ops a.tmps)=true then Oper.wp P o a w K Q else E:=by
 have hw:Region.wanted o (yielded ops a.tmps)=true:=by simp[Region.wanted,hgd]
 rw[if_pos hw]
 obtain⟨v',w',hr,h2,h3,h5⟩:=append_string_at (P:=P) w base t u o.type e i ht hu hi hz hsize hby v n xs hown str h63 hbytes hbase
 rw[hN] at h2
 obtain⟨g,cap,hv,_,_⟩:=World.ownsRow.form h2 (by omega)
 subst hv
 unfold Oper.wp execOp
 simp only[ho,resolve,invoke,builtin,Sem.run_bind,Sem.run_pure,Result.andThen_ok,List.map_toArray,List.map_cons,List.map_nil,hs,hx,hr]
 exact h g cap w' h2 h3 (h5.imp (λe=>e.symm) (λe=>Option.some.inj e))
def FeedRel (b:Nat) (lv dv:Value) (W:World) (c:Ck) (s:List UInt8) (k:Nat) (wr:World):Prop :=
 ∃ r lv' dv',Rd b wr r lv' dv'∧Ch (Fp b lv dv) W wr∧(∀ j,Fp b lv' dv' j→Fp b lv dv j∨W.heap.size≤j)∧CkOk r∧feedC c s=(k+(feedC r (s.drop k)).1,(feedC r (s.drop k)).2)
theorem FeedRel.next {b:Nat} {lv dv lv' dv':Value} {W wr w2:World} {c r r2:Ck} {s:List UInt8} {k m:Nat} (hC:Ch (Fp b lv dv) W wr) (hS:∀ j,Fp b lv' dv' j→Fp b lv dv j∨W.heap.size≤j)
  (hp:RdPost b lv' dv' wr r2 w2) (hok:CkOk r2) (he:feedC c s=(k+(feedC r (s.drop k)).1,(feedC r (s.drop k)).2)) (hs:feedC r (s.drop k)=(m+(feedC r2 (s.drop (k+m))).1,(feedC r2 (s.drop (k+m))).2)):FeedRel b lv dv W c s (k+m) w2:=by
 obtain⟨lv2,dv2,h1,h2,h3⟩:=RdPost.after hC hS hp
 refine⟨r2,lv2,dv2,h1,h2,h3,hok,?_⟩
 rw[he,hs];simp;omega
theorem feed_one {r:Ck} {s:List UInt8} {k:Nat} {d:UInt8} (hk:k<s.length) (hd:s[k]=d) (h4:r.st≠4):feedC r (s.drop k)=(1+(feedC (stepC r d) (s.drop (k+1))).1,(feedC (stepC r d) (s.drop (k+1))).2):=by
 rw[List.drop_eq_getElem_cons hk,hd,feed_cons h4,Nat.add_comm]
theorem feed_many {r:Ck} {s:List UInt8} {k m:Nat} (h1:r.st=1) (h0:1≤m) (hl:m≤r.left) (hk:k+m≤s.length) :
  feedC r (s.drop k)=(m+(feedC { r with data:=r.data++(s.drop k).take m,left:=r.left - m,st:=if r.left=m then 2 else 1 } (s.drop (k+m))).1,(feedC { r with data:=r.data++(s.drop k).take m,left:=r.left - m,st:=if r.left=m then 2 else 1 } (s.drop (k+m))).2):=by
 have hl2:((s.drop k).take m).length=m:=by rw[List.length_take,List.length_drop];omega
 have:=feed_app ((s.drop k).take m) ((s.drop k).drop m) r
 rw[List.take_append_drop] at this
 rw[this,feed_data _ h1 (by omega) (by omega),hl2,List.drop_drop]
theorem many_ok {r:Ck} {a:List UInt8} (h:CkOk r) (h1:r.st=1) (h0:1≤a.length) (hl:a.length≤r.left):CkOk { r with data:=r.data++a,left:=r.left - a.length,st:=if r.left=a.length then 2 else 1 }:=by
 have:=feed_ok a h
 rw[feed_data a h1 h0 hl] at this
 exact this
theorem Rd.grown {b:Nat} {W w9:World} {c:Ck} {lv dv v':Value} {a:List UInt8} (hR:Rd b W c lv dv) (h0:0<a.length) {N:Nat} (hN:c.data.length+a.length=N) (hown:w9.ownsRow (b+1) 5 1 v' N (bcells c.data++Lib.strCells ⟨a.toArray⟩)) (hgrow:W.grownBy w9 dv.ownBlock) (hat:v'.ownBlock=dv.ownBlock∨v'.ownBlock=some W.heap.size) :
  (Rd b (w9.setCell ⟨b,3,none⟩ v') { c with data:=c.data++a } lv v'∧Ch (Fp b lv dv) W (w9.setCell ⟨b,3,none⟩ v')∧∀ j,Fp b lv v' j→Fp b lv dv j∨W.heap.size≤j) ∧
  w9.cell? ⟨b,3,none⟩=some dv∧w9.frozen? ⟨b,3,none⟩=false∧w9.cell? ⟨b,2,none⟩=some (.int .i64 c.left)∧w9.frozen? ⟨b,2,none⟩=false∧w9.cell? ⟨b,0,none⟩=some (.int .i64 c.st)∧w9.frozen? ⟨b,0,none⟩=false:=by
 have hown2:OwnB (b+1) w9 v' (c.data++a):=by
  unfold OwnB;rw[List.length_append,bcells_app,←strCells_eq a,hN];exact hown
 obtain⟨g9,cap9,hv9,_⟩:=OwnB.row hown2 (by simp;omega)
 have hc9:Ch (λj=>dv.ownBlock=some j) W w9:=ch_grown hgrow
 have hat2:v'.ownBlock=dv.ownBlock∨∀ j,v'.ownBlock=some j→W.heap.size≤j:=by
  rcases hat with e | e
  ·exact .inl e
  ·refine .inr λj hj=>?_
   rw[e] at hj;injection hj with hj;omega
 have hb9:¬(dv.ownBlock=some b):=λe=>by have:=hR.d.lt b e;omega
 refine⟨⟨hR.redata hc9 hown2 hat2,(hc9.mono (λj hj=>.inr (.inr hj))).trans (fp_set _ _ _),λj hj=>?_⟩,
  (hc9.cell (p:=⟨b,3,none⟩) hR.lt hb9).trans hR.c3,(hc9.frozen (p:=⟨b,3,none⟩) hR.lt hb9).trans (hR.fz 3),(hc9.cell (p:=⟨b,2,none⟩) hR.lt hb9).trans hR.c2,
  (hc9.frozen (p:=⟨b,2,none⟩) hR.lt hb9).trans (hR.fz 2),(hc9.cell (p:=⟨b,0,none⟩) hR.lt hb9).trans hR.c0,(hc9.frozen (p:=⟨b,0,none⟩) hR.lt hb9).trans (hR.fz 0)⟩
 rcases hj with hj | hj | hj
 ·exact .inl (.inl hj)
 ·exact .inl (.inr (.inl hj))
 ·rcases hat2 with e | e
  ·exact .inl (.inr (.inr (e▸hj)))
  ·exact .inr (e j hj)
theorem cfeed_any (b:Nat) (c:Ck) (s:List UInt8) (lv dv:Value) (W:World) (hG:G W) (hb:5<b) (h:Rd b W c lv dv) (hok:CkOk c) (hl:s.length≤1000000) :
  Calls prog 108 #[.pointer (some ⟨b,0,none⟩),.string ⟨s.toArray⟩] W λe W'=>e=.returned (.int .i64 (feedC c s).1)∧RdPost b lv dv W (feedC c s).2 W':=by
 obtain⟨i0,hi,hz0,hz1,hz2⟩:=info_parts infoU8
 have h':=hid h
 have hG':=hid hG
 have hb':=hid hb
 have hst:=hid (show FeedRel b lv dv W c s 0 W from⟨c,lv,dv,h,Ch.refl _ _,λ_ hj=>.inl hj,hok,by simp⟩)
 have hfp:=hid (λj=>h.fp_lt j)
 have hmx:=hid (cell_lt hG.max.choose_spec)
 clear h hG hb hok
 go_enter func108,ntmps108
 go_wp2
 go_loopw [5] (λi wr=>∃ k:Nat,k≤s.length∧i=.int .i64 k∧FeedRel b lv dv W c s k wr) (λi _=>s.length - (intOf i).toNat)
 case atStart=>exact⟨0,Nat.zero_le _,rfl,hst.out⟩
 case round =>
  obtain⟨k,hk,rfl,r,lv',dv',hR,hC,hS,hok,he⟩:=hrel
  have hGr:=hid (hG'.out.ch hC (λg hg e=>by
   have h1:=hb'.out;have h2:=hfp.out _ e;omega))
  have hR':=hid hR
  have hC':=hid hC
  have hS':=hid hS
  have hok':=hid hok
  have he':=hid he
  have q0:=hR.c0
  by_cases hkl:k<s.length
  ·by_cases h4:r.st=4
   ·rw[h4] at q0
    have hfin:=hid (show feedC c s=(k,r) by rw[he,feed_over h4];rfl)
    clear hR hC hS hok he h4
    go_wp2
    refine bodyPost_ret (v:=.int .i64 k) (by simp[results,results108,go_sem]) rfl ⟨by rw[hfin.out],?_⟩
    rw[hfin.out]
    exact⟨lv',dv',hR'.out,hC'.out,hS'.out⟩
   ·obtain⟨d,hd⟩:∃ d,(⟨s.toArray⟩:ByteArray)[k]'(by rw[size_mk];exact hkl)=d:=⟨_,rfl⟩
    have hnx:=hid (feed_one hkl (show s[k]=d from hd) h4)
    have hokd:=hid (step_ok d hok h4)
    by_cases h1:r.st=1
    ·rw[h1] at q0
     obtain⟨o1,o2,o3⟩:=hok.one h1
     obtain⟨m,hm⟩:∃ m,min r.left (s.length - k)=m:=⟨_,rfl⟩
     have hm0:1≤m:=by omega
     have hml:m≤r.left:=by omega
     have hmk:k+m≤s.length:=by omega
     have hmin:min (r.left:Int) ((s.length:Int) - k)=m:=by omega
     obtain⟨a,ha⟩:∃ a,(s.drop k).take m=a:=⟨_,rfl⟩
     have hal:a.length=m:=by rw[←ha,List.length_take,List.length_drop];omega
     have hx:(⟨s.toArray⟩:ByteArray).extract k (k+m)=⟨a.toArray⟩:=by rw[extract_mk,←ha];simp[List.drop_take]
     have hnx2:=feed_many h1 hm0 hml hmk
     rw[ha] at hnx2
     have hok2:=many_ok (a:=a) hok h1 (by omega) (by omega)
     rw[hal] at hok2
     have q2:=hR.c2
     have q3:=hR.c3
     obtain⟨pd,cd,hdv⟩:=ownsRow_slice hR.d
     obtain⟨km,hkm⟩:∃ km,k+m=km:=⟨_,rfl⟩
     obtain⟨lm,hlm⟩:∃ lm,r.left - m=lm:=⟨_,rfl⟩
     have hkmI:(k:Int)+m=km:=by omega
     have hlmI:(r.left:Int) - m=lm:=by omega
     have hkm1:(km:Int)≤s.length:=by omega
     have hkm2:(k:Int)≤km:=by omega
     have hkmB:(km:Int)≤1000000:=by omega
     have hkm2n:k≤km:=by omega
     have hwr:IntKind.i64.wrap (km:Int)=km:=by unfold IntKind.wrap;simp[IntKind.bits,IntKind.signed];omega
     have hlo:(r.left:Int)≤4096:=by omega
     have hlmB:(lm:Int)≤4096:=by omega
     rw[hkm] at hx
     rw[hlm] at hnx2 hok2
     have hnx3:=hid hnx2
     have hok3:=hid hok2
     have hm0':1≤(m:Int):=by omega
     have hmB:(m:Int)≤4096:=by omega
     have hkm':=hid hkm
     have hkms:km≤s.length:=by omega
     have hdl:=hid (show r.data.length≤4096 from hok.data)
     have hal':=hid hal
     obtain⟨n9,hn9⟩:∃ n9,r.data.length+a.length=n9:=⟨_,rfl⟩
     have hn9':=hid hn9
     have hRd:=hid (hR.ch (Ch.drew (λ_=>False) wr) (λ_ h=>h.elim))
     have hblr:=hR.lt
     have hRlt:=hid hblr
     rw[hdv] at q3
     have hdv':=hid hdv
     have h1':=hid h1
     have hkI:(k:Int)<s.length:=by omega
     have hal0:=hid (show 0<a.length by omega)
     clear hR hC hS hok he h4 hm ha hnx2 hok2 hdv hkm o2 o3 hnx hokd hal hn9
     by_cases hz:lm=0
     ·have hlz:((lm:Int)==0)=true:=by rw[beq_iff_eq];omega
      have hH2:=hid (show ({ r with data:=r.data++a,left:=lm,st:=if r.left=m then 2 else 1 }:Ck)={ { { r with data:=r.data++a } with left:=lm } with st:=2 } from by rw[if_pos (by omega)])
      clear hz hlm h1
      go_wp2_with fail
      go_region_law (refine step_append_string (by rfl) (.tmp 44) (.tmp 50) 100 9 (by rfl) (b+1) 5 i0 underlying100 underlying9 hi hz0 hz1 hz2 dv' r.data.length (bcells r.data) (by exact hdv'.out.symm) hRd.out.d ⟨a.toArray⟩ (by rfl) (by rw[size_mk];exact hal0.out) (by rw[size_mk,hal'.out];have:=hdl.out;unfold maxLen;omega) (by rw[size_mk,hal'.out];have:=hdl.out;omega) hRlt.out n9 (by rw[size_mk];exact hn9'.out) ?_;intro g9 cap9 w9 hown hgrow hat;obtain⟨hp,u3,y3,u2,y2,u0,y0⟩:=hRd.out.grown hal0.out hn9'.out hown hgrow (hat.imp (λe=>e.symm) (λe=>congrArg some e));rw[h1'.out] at u0;have hp':=hid hp;clear hp hown hgrow hat)
      go_wp2
      go_round
      case rel =>
       refine⟨km,hkms,rfl,?_⟩
       obtain⟨x1,x2,x3⟩:=hp'.out
       have hpost:RdPost b lv' dv' wr { r with data:=r.data++a,left:=lm,st:=if r.left=m then 2 else 1 } (((w9.setCell ⟨b,3,none⟩ (.slice (some ⟨g9,0,none⟩) n9 cap9)).setCell ⟨b,2,none⟩ (.int .i64 lm)).setCell ⟨b,0,none⟩ (.int .i64 2)):=by
        rw[hH2.out];exact RdPost.after (Ch.drew (Fp b lv' dv') wr) fp_self ⟨lv',_,(x1.set2 lm).set0 2,x2.trans ((fp_set _ _ _).trans (fp_set _ _ _)),x3⟩
       have:=FeedRel.next hC'.out hS'.out hpost hok3.out he'.out (by rw[hnx3.out,hkm'.out])
       rwa [hkm'.out] at this
      case measure=>simp[intOf];omega
     ·have hlz:((lm:Int)==0)=false:=beq_eq_false_iff_ne.2 (by omega)
      have hH2:=hid (show ({ r with data:=r.data++a,left:=lm,st:=if r.left=m then 2 else 1 }:Ck)={ { r with data:=r.data++a } with left:=lm } from by rw[if_neg (by omega),h1])
      clear hz hlm h1
      go_wp2_with fail
      go_region_law (refine step_append_string (by rfl) (.tmp 44) (.tmp 50) 100 9 (by rfl) (b+1) 5 i0 underlying100 underlying9 hi hz0 hz1 hz2 dv' r.data.length (bcells r.data) (by exact hdv'.out.symm) hRd.out.d ⟨a.toArray⟩ (by rfl) (by rw[size_mk];exact hal0.out) (by rw[size_mk,hal'.out];have:=hdl.out;unfold maxLen;omega) (by rw[size_mk,hal'.out];have:=hdl.out;omega) hRlt.out n9 (by rw[size_mk];exact hn9'.out) ?_;intro g9 cap9 w9 hown hgrow hat;obtain⟨hp,u3,y3,u2,y2,u0,y0⟩:=hRd.out.grown hal0.out hn9'.out hown hgrow (hat.imp (λe=>e.symm) (λe=>congrArg some e));rw[h1'.out] at u0;have hp':=hid hp;clear hp hown hgrow hat)
      go_wp2
      go_round
      case rel =>
       refine⟨km,hkms,rfl,?_⟩
       obtain⟨x1,x2,x3⟩:=hp'.out
       have hpost:RdPost b lv' dv' wr { r with data:=r.data++a,left:=lm,st:=if r.left=m then 2 else 1 } ((w9.setCell ⟨b,3,none⟩ (.slice (some ⟨g9,0,none⟩) n9 cap9)).setCell ⟨b,2,none⟩ (.int .i64 lm)):=by
        rw[hH2.out];exact RdPost.after (Ch.drew (Fp b lv' dv') wr) fp_self ⟨lv',_,x1.set2 lm,x2.trans (fp_set _ _ _),x3⟩
       have:=FeedRel.next hC'.out hS'.out hpost hok3.out he'.out (by rw[hnx3.out,hkm'.out])
       rwa [hkm'.out] at this
      case measure=>simp[intOf];omega
    ·by_cases h2:r.st=2
     ·rw[h2] at q0
      have hstep:stepC r d=endC r d:=by unfold stepC;rw[if_neg h1,if_pos h2]
      rw[hstep] at hnx hokd
      have hend:=hid (end_any b r d lv' dv' wr hR (hok.two h2))
      clear hR hC hS hok he h4 h1 h2 hstep
      go_wp2_with fail
      refine (hend.out).mono ?_
      rintro e w2⟨rfl,hp⟩
      have hrel2:=hid (FeedRel.next hC'.out hS'.out hp hokd.out he'.out hnx.out)
      clear hp
      go_wp2
      go_round
      case rel=>exact⟨k+1,by omega,by go_num,hrel2.out⟩
      case measure=>simp[intOf];omega
     ·have hstep:stepC r d=letterC r d:=by unfold stepC;rw[if_neg h1,if_neg h2]
      have hs03:r.st=0∨r.st=3:=by have:=hok.st;omega
      rw[hstep] at hnx hokd
      have hlet:=hid (cletter_any b r d lv' dv' wr hGr.out hb'.out hR hok hs03)
      clear hR hC hS hok he h4 h1 h2 hstep
      rcases hs03 with h0 | h0
      all_goals
       rw[h0] at q0
       clear h0
       go_wp2_with fail
       refine (hlet.out).mono ?_
       rintro e w2⟨rfl,hp⟩
       have hrel2:=hid (FeedRel.next hC'.out hS'.out hp hokd.out he'.out hnx.out)
       clear hp
       go_wp2
       go_round
       case rel=>exact⟨k+1,by omega,by go_num,hrel2.out⟩
       case measure=>simp[intOf];omega
  ·obtain rfl:k=s.length:=by omega
   have hfin:=hid (show feedC c s=(s.length,r) by rw[he,List.drop_length];rfl)
   clear hR hC hS hok he
   go_wp2
   refine bodyPost_ret (v:=.int .i64 s.length) (by simp[results,results108,go_sem]) rfl ⟨by rw[hfin.out],?_⟩
   rw[hfin.out]
   exact⟨lv',dv',hR'.out,hC'.out,hS'.out⟩
theorem cfeed_is (b:Nat) (c c':Ck) (s:List UInt8) (n:Nat) (he:feedC c s=(n,c')) (lv dv:Value) (W:World) (hG:G W) (hb:5<b) (h:Rd b W c lv dv) (hok:CkOk c) (hl:s.length≤1000000) :
  Calls prog 108 #[.pointer (some ⟨b,0,none⟩),.string ⟨s.toArray⟩] W λe W'=>e=.returned (.int .i64 n)∧RdPost b lv dv W c' W':=by
 have:=cfeed_any b c s lv dv W hG hb h hok hl
 rw[he] at this;exact this
theorem done_is (b:Nat) (c:Ck) (f:Bool) (hf:decide (c.st=4∧c.bad=0)=f) (lv dv:Value) (W:World) (h:Rd b W c lv dv) :
  Calls prog 111 #[.pointer (some ⟨b,0,none⟩)] W λe W'=>e=.returned (.bool f)∧W=W':=hf▸done_any b c lv dv W h
