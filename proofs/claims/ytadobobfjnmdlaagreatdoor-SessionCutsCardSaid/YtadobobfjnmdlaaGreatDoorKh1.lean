/-
  Walks over package chunk: a byte of a line. (printed by mk_kh.py)
-/
import Derived.Test.YtadobobfjnmdlaaGreatDoorKe
set_option linter.unnecessarySimpa false
set_option linter.unusedVariables false
set_option linter.unusedSimpArgs false
set_option maxHeartbeats 16000000
set_option maxRecDepth 100000
open Go.Lib (hid)
open Go.Proofs.Tryz
namespace Go.Proofs.YtadobobfjnmdlaaGreatDoor
open Go.RowKit
attribute [local go_sem] Oper.semAt_some
theorem letter_we0 (b:Nat) (c:Ck) (d:UInt8) (lv dv:Value) (W:World) (hG:G W) (hb:5<b) (h:Rd b W c lv dv) (hok:CkOk c) (hl:c.line=[]) (hs:c.st=0) (hd:(d==10)=true) :
  Calls prog 137 #[.pointer (some ⟨b,0,none⟩),.int .u8 d.toNat] W λe W'=>e=.returned (.tuple #[])∧RdPost b lv dv W (letterC c d) W':=by
 obtain⟨i0,hi,hz0,hz1,hz2⟩:=info_parts infoU8
 have h':=hid h
 have hG':=hid hG
 have hb':=hid hb
 have hd10:=ten_eq d
 obtain⟨p,cap,hlv⟩:=ownsRow_slice h.l
 rw[hl] at hlv
 simp only[List.length_nil] at hlv
 have hlv':=hid hlv
 have hl':=hid hl
 have hcr:crB c.line=false:=by rw[hl];rfl
 have t1:∀ x:Later (Gr W),x.w.cell? ⟨b,1,none⟩=some (.slice p 0 cap):=λx=>(x.ok.cell h.c1).trans (by rw[hlv])
 rw[hd] at hd10
 have htl:=(hok.zero hs).2.1
 have hH:=hid (show letterC c d=wrongC c 400 by unfold letterC;simp only[if_neg (show ¬c.st=3 by omega)];rw[if_neg (by omega)];rw[if_pos (by rw[hcr,hd];rfl)])
 have q0':=h.c0
 rw[hs] at q0'
 have q5':=h.c5
 rw[htl] at q5'
 have hbl':=h.lt
 clear hd
 clear h hok hs hG hb hcr htl
 clear hl hlv
 haveI:Nonempty (Later (Gr W)):=⟨⟨_,Gr.refl _⟩⟩
 go_enter func137,ntmps137
 go_wp2_with fail
 refine wp_region_later (C:=Gr W) (by kernel_rfl) (by kernel_rfl) (Gr.drew' _) ?_
 repeat (go_big_quiet_step (fail))
 refine wpQuiet_nil ?_
 intro w1 hg1
 have h1:=hid (h'.out.gr hg1)
 have q0:=hg1.cell q0'
 have q5:=hg1.cell q5'
 have q1:=(h'.out.gr hg1).c1
 rw[hlv'.out] at q1
 have z1:=(h'.out.gr hg1).fz 1
 have z5:=(h'.out.gr hg1).fz 5
 have hbl:=(h'.out.gr hg1).lt
 have g1:=hid (hg1.to_ch (Fp b lv dv))
 have hG1:=hid (hG'.out.gr hg1)
 clear t1 hg1 q0' q5' hbl'
 have hV:=h1
 have gV:=g1
 have hGV:=hG1
 go_wp2_with fail
 refine (wrong_any b c 400 lv dv _ hV.out).mono ?_
 rintro e w2⟨rfl,hp⟩
 have hp':=hid hp
 clear hp
 go_wp2
 go_end0
 exact⟨rfl,by rw[hH.out];exact hp'.out.after gV.out fp_self⟩
theorem letter_ae3 (b:Nat) (c:Ck) (d:UInt8) (lv dv:Value) (W:World) (hG:G W) (hb:5<b) (h:Rd b W c lv dv) (hok:CkOk c) (hl:c.line=[]) (hs:c.st=3) (hd:(d==10)=false) (hm0:¬2048<c.tail+1) :
  Calls prog 137 #[.pointer (some ⟨b,0,none⟩),.int .u8 d.toNat] W λe W'=>e=.returned (.tuple #[])∧RdPost b lv dv W (letterC c d) W':=by
 obtain⟨i0,hi,hz0,hz1,hz2⟩:=info_parts infoU8
 have h':=hid h
 have hG':=hid hG
 have hb':=hid hb
 have hd10:=ten_eq d
 obtain⟨p,cap,hlv⟩:=ownsRow_slice h.l
 rw[hl] at hlv
 simp only[List.length_nil] at hlv
 have hlv':=hid hlv
 have hl':=hid hl
 have hcr:crB c.line=false:=by rw[hl];rfl
 have t1:∀ x:Later (Gr W),x.w.cell? ⟨b,1,none⟩=some (.slice p 0 cap):=λx=>(x.ok.cell h.c1).trans (by rw[hlv])
 obtain⟨m,hm⟩:∃ m,c.tail+1=m:=⟨_,rfl⟩
 have hmI:(c.tail:Int)+1=m:=by omega
 have hm':=hid hm
 have hmB:(m:Int)≤2049:=by have:=(hok.three hs).2.1;omega
 rw[hd] at hd10
 have hmb:¬((2048:Int)<m):=by omega
 have hlen:=(hok.three hs).1
 have hlt:=(hok.three hs).2.1
 have hH:=hid (show letterC c d={ c with line:=c.line++[d],tail:=m } by unfold letterC;simp only[if_pos hs,hm];rw[if_neg (by omega),if_neg (by rw[hcr,hd];decide),if_neg (by rw[hcr];decide),if_neg (λe=>by have:=e.1;omega)])
 have q0':=h.c0
 rw[hs] at q0'
 have q5':=h.c5
 have hbl':=h.lt
 clear hd
 clear hm0
 clear hlen hlt
 clear h hok hs hG hb hcr hm
 clear hl hlv
 haveI:Nonempty (Later (Gr W)):=⟨⟨_,Gr.refl _⟩⟩
 go_enter func137,ntmps137
 go_wp2_with fail
 refine wp_region_later (C:=Gr W) (by kernel_rfl) (by kernel_rfl) (Gr.drew' _) ?_
 repeat (go_big_quiet_step (fail))
 refine wpQuiet_nil ?_
 intro w1 hg1
 have h1:=hid (h'.out.gr hg1)
 have q0:=hg1.cell q0'
 have q5:=hg1.cell q5'
 have q1:=(h'.out.gr hg1).c1
 rw[hlv'.out] at q1
 have z1:=(h'.out.gr hg1).fz 1
 have z5:=(h'.out.gr hg1).fz 5
 have hbl:=(h'.out.gr hg1).lt
 have g1:=hid (hg1.to_ch (Fp b lv dv))
 have hG1:=hid (hG'.out.gr hg1)
 clear t1 hg1 q0' q5' hbl'
 have hV:=hid (h1.out.set5 m)
 have gV:=hid (g1.out.trans (fp_set (b:=b) (lv:=lv) (dv:=dv) w1 5 (.int .i64 m)))
 have hGV:=hid (hG1.out.ch (Ch.setCell (T:=λk=>k=b) w1 (a:=⟨b,5,none⟩) rfl (.int .i64 m)) (λg hg=>by have:=hb'.out;show ¬g=b;omega))
 have hcl:=hid (show c.line.length=0 from (by rw[hl'.out];rfl))
 go_wp2_with (at_builtin;refine wpList_append_own_at _ rfl _ _ 100 rfl (b+1) 5 i0 (.int .u8 0) 1 1 underlying100 hi hz0 hz1 hz2 rfl (by decide) lv c.line.length _ hlv'.out.symm (hV.out.l.alloc _) ⟨w1.heap.size,0,none⟩ 1 1 [.int .u8 d.toNat] rfl rfl (cell_one_new' _ _ _ (by simp)) (by simp[Value.oneCell']) (by rw[hcl.out];unfold maxLen;omega) (by rw[hcl.out];omega) (by simp;omega) ?_;intro v' w3 hown hgrow _ hat;have hown2:=own_snoc hown;obtain⟨g',cap',hv',_⟩:=OwnB.row hown2 (by simp);rw[show (c.line++[d]).length=0+1 by rw[List.length_append,hcl.out];rfl] at hv';subst hv';obtain⟨hp,⟨u,hu⟩,hz⟩:=hV.out.appended hgrow (l':=c.line++[d]) hown2 hat;have hp':=hid hp;clear hp hown hown2 hgrow hat)
 go_wp2
 go_end0
 exact⟨rfl,by rw[hH.out];exact hp'.out.after gV.out fp_self⟩
theorem letter_ln0 (b:Nat) (c:Ck) (d:UInt8) (lv dv:Value) (W:World) (hG:G W) (hb:5<b) (h:Rd b W c lv dv) (hok:CkOk c) (L:List UInt8) (x:UInt8) (hl:c.line=L++[x]) (hs:c.st=0) (hc:crB c.line=true) (hd:(d==10)=true) :
  Calls prog 137 #[.pointer (some ⟨b,0,none⟩),.int .u8 d.toNat] W λe W'=>e=.returned (.tuple #[])∧RdPost b lv dv W (letterC c d) W':=by
 obtain⟨i0,hi,hz0,hz1,hz2⟩:=info_parts infoU8
 have h':=hid h
 have hG':=hid hG
 have hb':=hid hb
 have hd10:=ten_eq d
 obtain⟨g,cap,hlv,hgb,hgs,hcells,hcap⟩:=h.l.row (by rw[hl];simp)
 obtain⟨n,hn⟩:∃ n,c.line.length=n:=⟨_,rfl⟩
 obtain⟨k,hk⟩:∃ k,L.length=k:=⟨_,rfl⟩
 have hnk0:n=k+1:=by rw[←hn,hl,←hk];simp
 have hnk:(n:Int) - 1=k:=by omega
 have hn0:decide (0<n)=true:=decide_eq_true (by omega)
 have hkn:(k:Int)<n:=by omega
 have hkB:(n:Int)≤2048:=by have:=hok.zero hs;omega
 have hncap:n≤cap:=hn▸hcap
 rw[hn] at hlv
 have hlv':=hid hlv
 have hn':=hid hn
 have hk':=hid hk
 have hl':=hid hl
 have hcr:crB c.line=((x.toNat:Int)==13):=by rw[hl];exact crB_snoc L x
 have t1:∀ y:Later (Gr W),y.w.cell? ⟨b,1,none⟩=some (.slice (some ⟨g,0,none⟩) n cap):=λy=>(y.ok.cell h.c1).trans (by rw[hlv])
 have t2:∀ y:Later (Gr W),y.w.cell? ⟨g,k,none⟩=some (.int .u8 x.toNat):=λy=>y.ok.cell ((hcells k (by omega)).trans (by simp only[hl];rw[List.getElem_append_right (by omega)];simp[hk]))
 rw[hd] at hd10
 have hx:=hcr.symm.trans hc
 have hs':=hid hs
 have hdl:=hok.data
 have hnf:=(hok.live (by omega)).2.1
 have hlen:c.line.length≤2048:=by have:=hok.zero hs;omega
 have hLl:L.length≤900000:=by rw[hn] at hlen;omega
 have htl:=(hok.zero hs).2.1
 have hH:=hid (show letterC c d=headC { c with line:=[] } L by unfold letterC;simp only[if_neg (show ¬c.st=3 by omega)];rw[if_neg (by omega)];rw[if_neg (by rw[hc,hd];decide),if_pos hc,if_pos hs];rw[hl];simp only[List.dropLast_concat])
 have q0':=h.c0
 rw[hs] at q0'
 have q5':=h.c5
 rw[htl] at q5'
 have hbl':=h.lt
 clear hd hc hlen
 clear h hok hs hG hb hcr htl
 clear hl hlv hk hn hgs hgb hcells hnk0
 haveI:Nonempty (Later (Gr W)):=⟨⟨_,Gr.refl _⟩⟩
 go_enter func137,ntmps137
 go_wp2_with fail
 refine wp_region_later (C:=Gr W) (by kernel_rfl) (by kernel_rfl) (Gr.drew' _) ?_
 repeat (go_big_quiet_step (fail))
 refine wpQuiet_nil ?_
 intro w1 hg1
 have h1:=hid (h'.out.gr hg1)
 have q0:=hg1.cell q0'
 have q5:=hg1.cell q5'
 have q1:=(h'.out.gr hg1).c1
 rw[hlv'.out] at q1
 have z1:=(h'.out.gr hg1).fz 1
 have z5:=(h'.out.gr hg1).fz 5
 have hbl:=(h'.out.gr hg1).lt
 have g1:=hid (hg1.to_ch (Fp b lv dv))
 have hG1:=hid (hG'.out.gr hg1)
 clear t1 hg1 q0' q5' hbl' t2 hn0
 have hV:=h1
 have gV:=g1
 have hGV:=hG1
 go_wp2_with fail
 haveI:Nonempty (Later (Gr w1)):=⟨⟨_,Gr.refl _⟩⟩
 have t1:∀ y:Later (Gr w1),y.w.cell? ⟨b,1,none⟩=some (.slice (some ⟨g,0,none⟩) n cap):=λy=>(y.ok.cell hV.out.c1).trans (by rw[hlv'.out])
 have t3:∀ y:Later (Gr w1),(convert 100 9 (.slice (some ⟨g,0,none⟩) k cap)).run prog y.w=.ok (.string ⟨L.toArray⟩) y.w:=λy=>by
   have:=conv_take (hV.out.gr y.ok).l (g:=g) (cap:=cap) (by rw[hlv'.out,←hn'.out]) k cap (by rw[hn'.out];omega)
   rwa [show c.line.take k=L by rw[hl'.out,←hk'.out];simp] at this
 refine wp_region_later (C:=Gr w1) (by kernel_rfl) (by kernel_rfl) (Gr.drew' _) ?_
 repeat (go_big_quiet_step (fail))
 refine wpQuiet_nil ?_
 intro w3 hg3
 have h3:=hV.out.gr hg3
 have h4:=hid (h3.set1 (OwnB.nil _ _) (λk hk=>by cases hk))
 have r0:=h3.c0
 try dsimp only at r0
 rw[hs'.out] at r0
 have r1:=h3.c1
 rw[hlv'.out] at r1
 have z3:=h3.fz 1
 have hbl3:=h3.lt
 have hG3:=hGV.out.gr hg3
 have hG4:=hid (hG3.ch (Ch.setCell (T:=λk=>k=b) w3 (a:=⟨b,1,none⟩) rfl (.slice none 0 0)) (λg hg=>by have:=hb'.out;show ¬g=b;omega))
 have g4:=hid ((gV.out.trans (hg3.to_ch (Fp b lv dv))).trans (fp_set (b:=b) (lv:=lv) (dv:=dv) w3 1 (.slice none 0 0)))
 clear t1 t3 hg3 hG3 h3 q0 q1 q5 z1 z5
 go_wp2_with fail
 refine (head_any b { c with line:=[] } L (.slice none 0 0) dv _ hG4.out h4.out hdl hLl).mono ?_
 rintro e w5⟨rfl,hp⟩
 have hp':=hid hp
 clear hp
 go_wp2
 go_end0
 exact⟨rfl,by rw[hH.out];exact hp'.out.after g4.out fp_nil⟩
theorem letter_tnt3 (b:Nat) (c:Ck) (d:UInt8) (lv dv:Value) (W:World) (hG:G W) (hb:5<b) (h:Rd b W c lv dv) (hok:CkOk c) (L:List UInt8) (x:UInt8) (hl:c.line=L++[x]) (hs:c.st=3) (hc:crB c.line=true) (hm0:2048<c.tail+1) :
  Calls prog 137 #[.pointer (some ⟨b,0,none⟩),.int .u8 d.toNat] W λe W'=>e=.returned (.tuple #[])∧RdPost b lv dv W (letterC c d) W':=by
 obtain⟨i0,hi,hz0,hz1,hz2⟩:=info_parts infoU8
 have h':=hid h
 have hG':=hid hG
 have hb':=hid hb
 have hd10:=ten_eq d
 obtain⟨g,cap,hlv,hgb,hgs,hcells,hcap⟩:=h.l.row (by rw[hl];simp)
 obtain⟨n,hn⟩:∃ n,c.line.length=n:=⟨_,rfl⟩
 obtain⟨k,hk⟩:∃ k,L.length=k:=⟨_,rfl⟩
 have hnk0:n=k+1:=by rw[←hn,hl,←hk];simp
 have hnk:(n:Int) - 1=k:=by omega
 have hn0:decide (0<n)=true:=decide_eq_true (by omega)
 have hkn:(k:Int)<n:=by omega
 have hkB:(n:Int)≤2048:=by have:=hok.three hs;omega
 have hncap:n≤cap:=hn▸hcap
 rw[hn] at hlv
 have hlv':=hid hlv
 have hn':=hid hn
 have hk':=hid hk
 have hl':=hid hl
 have hcr:crB c.line=((x.toNat:Int)==13):=by rw[hl];exact crB_snoc L x
 have t1:∀ y:Later (Gr W),y.w.cell? ⟨b,1,none⟩=some (.slice (some ⟨g,0,none⟩) n cap):=λy=>(y.ok.cell h.c1).trans (by rw[hlv])
 have t2:∀ y:Later (Gr W),y.w.cell? ⟨g,k,none⟩=some (.int .u8 x.toNat):=λy=>y.ok.cell ((hcells k (by omega)).trans (by simp only[hl];rw[List.getElem_append_right (by omega)];simp[hk]))
 obtain⟨m,hm⟩:∃ m,c.tail+1=m:=⟨_,rfl⟩
 have hmI:(c.tail:Int)+1=m:=by omega
 have hm':=hid hm
 have hmB:(m:Int)≤2049:=by have:=(hok.three hs).2.1;omega
 have hmb:(2048:Int)<m:=by omega
 have hx:=hcr.symm.trans hc
 have hH:=hid (show letterC c d=wrongC { c with tail:=m } 431 by unfold letterC;simp only[if_pos hs,hm];rw[if_pos (by omega)])
 have q0':=h.c0
 rw[hs] at q0'
 have q5':=h.c5
 have hbl':=h.lt
 clear hm0
 clear hc
 clear h hok hs hG hb hcr hm
 clear hl hlv hk hn hgs hgb hcells hnk0
 haveI:Nonempty (Later (Gr W)):=⟨⟨_,Gr.refl _⟩⟩
 go_enter func137,ntmps137
 go_wp2_with fail
 refine wp_region_later (C:=Gr W) (by kernel_rfl) (by kernel_rfl) (Gr.drew' _) ?_
 repeat (go_big_quiet_step (fail))
 refine wpQuiet_nil ?_
 intro w1 hg1
 have h1:=hid (h'.out.gr hg1)
 have q0:=hg1.cell q0'
 have q5:=hg1.cell q5'
 have q1:=(h'.out.gr hg1).c1
 rw[hlv'.out] at q1
 have z1:=(h'.out.gr hg1).fz 1
 have z5:=(h'.out.gr hg1).fz 5
 have hbl:=(h'.out.gr hg1).lt
 have g1:=hid (hg1.to_ch (Fp b lv dv))
 have hG1:=hid (hG'.out.gr hg1)
 clear t1 hg1 q0' q5' hbl' t2 hn0
 have hV:=hid (h1.out.set5 m)
 have gV:=hid (g1.out.trans (fp_set (b:=b) (lv:=lv) (dv:=dv) w1 5 (.int .i64 m)))
 have hGV:=hid (hG1.out.ch (Ch.setCell (T:=λk=>k=b) w1 (a:=⟨b,5,none⟩) rfl (.int .i64 m)) (λg hg=>by have:=hb'.out;show ¬g=b;omega))
 go_wp2_with fail
 refine (wrong_any b { c with tail:=m } 431 lv dv _ hV.out).mono ?_
 rintro e w2⟨rfl,hp⟩
 have hp':=hid hp
 clear hp
 go_wp2
 go_end0
 exact⟨rfl,by rw[hH.out];exact hp'.out.after gV.out fp_self⟩
theorem letter_ae0 (b:Nat) (c:Ck) (d:UInt8) (lv dv:Value) (W:World) (hG:G W) (hb:5<b) (h:Rd b W c lv dv) (hok:CkOk c) (hl:c.line=[]) (hs:c.st=0) (hd:(d==10)=false) :
  Calls prog 137 #[.pointer (some ⟨b,0,none⟩),.int .u8 d.toNat] W λe W'=>e=.returned (.tuple #[])∧RdPost b lv dv W (letterC c d) W':=by
 obtain⟨i0,hi,hz0,hz1,hz2⟩:=info_parts infoU8
 have h':=hid h
 have hG':=hid hG
 have hb':=hid hb
 have hd10:=ten_eq d
 obtain⟨p,cap,hlv⟩:=ownsRow_slice h.l
 rw[hl] at hlv
 simp only[List.length_nil] at hlv
 have hlv':=hid hlv
 have hl':=hid hl
 have hcr:crB c.line=false:=by rw[hl];rfl
 have t1:∀ x:Later (Gr W),x.w.cell? ⟨b,1,none⟩=some (.slice p 0 cap):=λx=>(x.ok.cell h.c1).trans (by rw[hlv])
 rw[hd] at hd10
 have hlen:=(hok.zero hs).1
 have htl:=(hok.zero hs).2.1
 have hH:=hid (show letterC c d={ c with line:=c.line++[d] } by unfold letterC;simp only[if_neg (show ¬c.st=3 by omega)];rw[if_neg (by omega)];rw[if_neg (by rw[hcr,hd];decide),if_neg (by rw[hcr];decide),if_neg (λe=>by have:=e.2;rw[hl] at this;simp at this)])
 have q0':=h.c0
 rw[hs] at q0'
 have q5':=h.c5
 rw[htl] at q5'
 have hbl':=h.lt
 clear hd
 clear hlen
 clear h hok hs hG hb hcr htl
 clear hl hlv
 haveI:Nonempty (Later (Gr W)):=⟨⟨_,Gr.refl _⟩⟩
 go_enter func137,ntmps137
 go_wp2_with fail
 refine wp_region_later (C:=Gr W) (by kernel_rfl) (by kernel_rfl) (Gr.drew' _) ?_
 repeat (go_big_quiet_step (fail))
 refine wpQuiet_nil ?_
 intro w1 hg1
 have h1:=hid (h'.out.gr hg1)
 have q0:=hg1.cell q0'
 have q5:=hg1.cell q5'
 have q1:=(h'.out.gr hg1).c1
 rw[hlv'.out] at q1
 have z1:=(h'.out.gr hg1).fz 1
 have z5:=(h'.out.gr hg1).fz 5
 have hbl:=(h'.out.gr hg1).lt
 have g1:=hid (hg1.to_ch (Fp b lv dv))
 have hG1:=hid (hG'.out.gr hg1)
 clear t1 hg1 q0' q5' hbl'
 have hV:=h1
 have gV:=g1
 have hGV:=hG1
 have hcl:=hid (show c.line.length=0 from (by rw[hl'.out];rfl))
 go_wp2_with (at_builtin;refine wpList_append_own_at _ rfl _ _ 100 rfl (b+1) 5 i0 (.int .u8 0) 1 1 underlying100 hi hz0 hz1 hz2 rfl (by decide) lv c.line.length _ hlv'.out.symm (hV.out.l.alloc _) ⟨w1.heap.size,0,none⟩ 1 1 [.int .u8 d.toNat] rfl rfl (cell_one_new' _ _ _ (by simp)) (by simp[Value.oneCell']) (by rw[hcl.out];unfold maxLen;omega) (by rw[hcl.out];omega) (by simp;omega) ?_;intro v' w3 hown hgrow _ hat;have hown2:=own_snoc hown;obtain⟨g',cap',hv',_⟩:=OwnB.row hown2 (by simp);rw[show (c.line++[d]).length=0+1 by rw[List.length_append,hcl.out];rfl] at hv';subst hv';obtain⟨hp,⟨u,hu⟩,hz⟩:=hV.out.appended hgrow (l':=c.line++[d]) hown2 hat;have hp':=hid hp;clear hp hown hown2 hgrow hat)
 go_wp2
 go_end0
 exact⟨rfl,by rw[hH.out];exact hp'.out.after gV.out fp_self⟩
theorem letter_wnt0 (b:Nat) (c:Ck) (d:UInt8) (lv dv:Value) (W:World) (hG:G W) (hb:5<b) (h:Rd b W c lv dv) (hok:CkOk c) (L:List UInt8) (x:UInt8) (hl:c.line=L++[x]) (hs:c.st=0) (hc:crB c.line=true) (hd:(d==10)=false) :
  Calls prog 137 #[.pointer (some ⟨b,0,none⟩),.int .u8 d.toNat] W λe W'=>e=.returned (.tuple #[])∧RdPost b lv dv W (letterC c d) W':=by
 obtain⟨i0,hi,hz0,hz1,hz2⟩:=info_parts infoU8
 have h':=hid h
 have hG':=hid hG
 have hb':=hid hb
 have hd10:=ten_eq d
 obtain⟨g,cap,hlv,hgb,hgs,hcells,hcap⟩:=h.l.row (by rw[hl];simp)
 obtain⟨n,hn⟩:∃ n,c.line.length=n:=⟨_,rfl⟩
 obtain⟨k,hk⟩:∃ k,L.length=k:=⟨_,rfl⟩
 have hnk0:n=k+1:=by rw[←hn,hl,←hk];simp
 have hnk:(n:Int) - 1=k:=by omega
 have hn0:decide (0<n)=true:=decide_eq_true (by omega)
 have hkn:(k:Int)<n:=by omega
 have hkB:(n:Int)≤2048:=by have:=hok.zero hs;omega
 have hncap:n≤cap:=hn▸hcap
 rw[hn] at hlv
 have hlv':=hid hlv
 have hn':=hid hn
 have hk':=hid hk
 have hl':=hid hl
 have hcr:crB c.line=((x.toNat:Int)==13):=by rw[hl];exact crB_snoc L x
 have t1:∀ y:Later (Gr W),y.w.cell? ⟨b,1,none⟩=some (.slice (some ⟨g,0,none⟩) n cap):=λy=>(y.ok.cell h.c1).trans (by rw[hlv])
 have t2:∀ y:Later (Gr W),y.w.cell? ⟨g,k,none⟩=some (.int .u8 x.toNat):=λy=>y.ok.cell ((hcells k (by omega)).trans (by simp only[hl];rw[List.getElem_append_right (by omega)];simp[hk]))
 rw[hd] at hd10
 have hx:=hcr.symm.trans hc
 have htl:=(hok.zero hs).2.1
 have hH:=hid (show letterC c d=wrongC c 400 by unfold letterC;simp only[if_neg (show ¬c.st=3 by omega)];rw[if_neg (by omega)];rw[if_pos (by rw[hc,hd];rfl)])
 have q0':=h.c0
 rw[hs] at q0'
 have q5':=h.c5
 rw[htl] at q5'
 have hbl':=h.lt
 clear hd hc
 clear h hok hs hG hb hcr htl
 clear hl hlv hk hn hgs hgb hcells hnk0
 haveI:Nonempty (Later (Gr W)):=⟨⟨_,Gr.refl _⟩⟩
 go_enter func137,ntmps137
 go_wp2_with fail
 refine wp_region_later (C:=Gr W) (by kernel_rfl) (by kernel_rfl) (Gr.drew' _) ?_
 repeat (go_big_quiet_step (fail))
 refine wpQuiet_nil ?_
 intro w1 hg1
 have h1:=hid (h'.out.gr hg1)
 have q0:=hg1.cell q0'
 have q5:=hg1.cell q5'
 have q1:=(h'.out.gr hg1).c1
 rw[hlv'.out] at q1
 have z1:=(h'.out.gr hg1).fz 1
 have z5:=(h'.out.gr hg1).fz 5
 have hbl:=(h'.out.gr hg1).lt
 have g1:=hid (hg1.to_ch (Fp b lv dv))
 have hG1:=hid (hG'.out.gr hg1)
 clear t1 hg1 q0' q5' hbl' t2 hn0
 have hV:=h1
 have gV:=g1
 have hGV:=hG1
 go_wp2_with fail
 refine (wrong_any b c 400 lv dv _ hV.out).mono ?_
 rintro e w2⟨rfl,hp⟩
 have hp':=hid hp
 clear hp
 go_wp2
 go_end0
 exact⟨rfl,by rw[hH.out];exact hp'.out.after gV.out fp_self⟩
theorem letter_mn0 (b:Nat) (c:Ck) (d:UInt8) (lv dv:Value) (W:World) (hG:G W) (hb:5<b) (h:Rd b W c lv dv) (hok:CkOk c) (L:List UInt8) (x:UInt8) (hl:c.line=L++[x]) (hs:c.st=0) (hc:crB c.line=false) (hd:(d==10)=false) (h2:c.line.length=2048) :
  Calls prog 137 #[.pointer (some ⟨b,0,none⟩),.int .u8 d.toNat] W λe W'=>e=.returned (.tuple #[])∧RdPost b lv dv W (letterC c d) W':=by
 obtain⟨i0,hi,hz0,hz1,hz2⟩:=info_parts infoU8
 have h':=hid h
 have hG':=hid hG
 have hb':=hid hb
 have hd10:=ten_eq d
 obtain⟨g,cap,hlv,hgb,hgs,hcells,hcap⟩:=h.l.row (by rw[hl];simp)
 obtain⟨n,hn⟩:∃ n,c.line.length=n:=⟨_,rfl⟩
 obtain⟨k,hk⟩:∃ k,L.length=k:=⟨_,rfl⟩
 have hnk0:n=k+1:=by rw[←hn,hl,←hk];simp
 have hnk:(n:Int) - 1=k:=by omega
 have hn0:decide (0<n)=true:=decide_eq_true (by omega)
 have hkn:(k:Int)<n:=by omega
 have hkB:(n:Int)≤2048:=by have:=hok.zero hs;omega
 have hncap:n≤cap:=hn▸hcap
 rw[hn] at hlv
 have hlv':=hid hlv
 have hn':=hid hn
 have hk':=hid hk
 have hl':=hid hl
 have hcr:crB c.line=((x.toNat:Int)==13):=by rw[hl];exact crB_snoc L x
 have t1:∀ y:Later (Gr W),y.w.cell? ⟨b,1,none⟩=some (.slice (some ⟨g,0,none⟩) n cap):=λy=>(y.ok.cell h.c1).trans (by rw[hlv])
 have t2:∀ y:Later (Gr W),y.w.cell? ⟨g,k,none⟩=some (.int .u8 x.toNat):=λy=>y.ok.cell ((hcells k (by omega)).trans (by simp only[hl];rw[List.getElem_append_right (by omega)];simp[hk]))
 rw[hd] at hd10
 have hx:=hcr.symm.trans hc
 have hn2:((n:Int)==2048)=true:=by rw[beq_iff_eq];omega
 have htl:=(hok.zero hs).2.1
 have hH:=hid (show letterC c d=wrongC c 431 by unfold letterC;simp only[if_neg (show ¬c.st=3 by omega)];rw[if_neg (by omega)];rw[if_neg (by rw[hc,hd];decide),if_neg (by rw[hc];decide),if_pos ⟨hs,h2⟩])
 have q0':=h.c0
 rw[hs] at q0'
 have q5':=h.c5
 rw[htl] at q5'
 have hbl':=h.lt
 clear hd hc h2
 clear h hok hs hG hb hcr htl
 clear hl hlv hk hn hgs hgb hcells hnk0
 haveI:Nonempty (Later (Gr W)):=⟨⟨_,Gr.refl _⟩⟩
 go_enter func137,ntmps137
 go_wp2_with fail
 refine wp_region_later (C:=Gr W) (by kernel_rfl) (by kernel_rfl) (Gr.drew' _) ?_
 repeat (go_big_quiet_step (fail))
 refine wpQuiet_nil ?_
 intro w1 hg1
 have h1:=hid (h'.out.gr hg1)
 have q0:=hg1.cell q0'
 have q5:=hg1.cell q5'
 have q1:=(h'.out.gr hg1).c1
 rw[hlv'.out] at q1
 have z1:=(h'.out.gr hg1).fz 1
 have z5:=(h'.out.gr hg1).fz 5
 have hbl:=(h'.out.gr hg1).lt
 have g1:=hid (hg1.to_ch (Fp b lv dv))
 have hG1:=hid (hG'.out.gr hg1)
 clear t1 hg1 q0' q5' hbl' t2 hn0
 have hV:=h1
 have gV:=g1
 have hGV:=hG1
 go_wp2_with fail
 refine (wrong_any b c 431 lv dv _ hV.out).mono ?_
 rintro e w2⟨rfl,hp⟩
 have hp':=hid hp
 clear hp
 go_wp2
 go_end0
 exact⟨rfl,by rw[hH.out];exact hp'.out.after gV.out fp_self⟩
theorem letter_tnf3 (b:Nat) (c:Ck) (d:UInt8) (lv dv:Value) (W:World) (hG:G W) (hb:5<b) (h:Rd b W c lv dv) (hok:CkOk c) (L:List UInt8) (x:UInt8) (hl:c.line=L++[x]) (hs:c.st=3) (hc:crB c.line=false) (hm0:2048<c.tail+1) :
  Calls prog 137 #[.pointer (some ⟨b,0,none⟩),.int .u8 d.toNat] W λe W'=>e=.returned (.tuple #[])∧RdPost b lv dv W (letterC c d) W':=by
 obtain⟨i0,hi,hz0,hz1,hz2⟩:=info_parts infoU8
 have h':=hid h
 have hG':=hid hG
 have hb':=hid hb
 have hd10:=ten_eq d
 obtain⟨g,cap,hlv,hgb,hgs,hcells,hcap⟩:=h.l.row (by rw[hl];simp)
 obtain⟨n,hn⟩:∃ n,c.line.length=n:=⟨_,rfl⟩
 obtain⟨k,hk⟩:∃ k,L.length=k:=⟨_,rfl⟩
 have hnk0:n=k+1:=by rw[←hn,hl,←hk];simp
 have hnk:(n:Int) - 1=k:=by omega
 have hn0:decide (0<n)=true:=decide_eq_true (by omega)
 have hkn:(k:Int)<n:=by omega
 have hkB:(n:Int)≤2048:=by have:=hok.three hs;omega
 have hncap:n≤cap:=hn▸hcap
 rw[hn] at hlv
 have hlv':=hid hlv
 have hn':=hid hn
 have hk':=hid hk
 have hl':=hid hl
 have hcr:crB c.line=((x.toNat:Int)==13):=by rw[hl];exact crB_snoc L x
 have t1:∀ y:Later (Gr W),y.w.cell? ⟨b,1,none⟩=some (.slice (some ⟨g,0,none⟩) n cap):=λy=>(y.ok.cell h.c1).trans (by rw[hlv])
 have t2:∀ y:Later (Gr W),y.w.cell? ⟨g,k,none⟩=some (.int .u8 x.toNat):=λy=>y.ok.cell ((hcells k (by omega)).trans (by simp only[hl];rw[List.getElem_append_right (by omega)];simp[hk]))
 obtain⟨m,hm⟩:∃ m,c.tail+1=m:=⟨_,rfl⟩
 have hmI:(c.tail:Int)+1=m:=by omega
 have hm':=hid hm
 have hmB:(m:Int)≤2049:=by have:=(hok.three hs).2.1;omega
 have hmb:(2048:Int)<m:=by omega
 have hx:=hcr.symm.trans hc
 have hH:=hid (show letterC c d=wrongC { c with tail:=m } 431 by unfold letterC;simp only[if_pos hs,hm];rw[if_pos (by omega)])
 have q0':=h.c0
 rw[hs] at q0'
 have q5':=h.c5
 have hbl':=h.lt
 clear hm0
 clear hc
 clear h hok hs hG hb hcr hm
 clear hl hlv hk hn hgs hgb hcells hnk0
 haveI:Nonempty (Later (Gr W)):=⟨⟨_,Gr.refl _⟩⟩
 go_enter func137,ntmps137
 go_wp2_with fail
 refine wp_region_later (C:=Gr W) (by kernel_rfl) (by kernel_rfl) (Gr.drew' _) ?_
 repeat (go_big_quiet_step (fail))
 refine wpQuiet_nil ?_
 intro w1 hg1
 have h1:=hid (h'.out.gr hg1)
 have q0:=hg1.cell q0'
 have q5:=hg1.cell q5'
 have q1:=(h'.out.gr hg1).c1
 rw[hlv'.out] at q1
 have z1:=(h'.out.gr hg1).fz 1
 have z5:=(h'.out.gr hg1).fz 5
 have hbl:=(h'.out.gr hg1).lt
 have g1:=hid (hg1.to_ch (Fp b lv dv))
 have hG1:=hid (hG'.out.gr hg1)
 clear t1 hg1 q0' q5' hbl' t2 hn0
 have hV:=hid (h1.out.set5 m)
 have gV:=hid (g1.out.trans (fp_set (b:=b) (lv:=lv) (dv:=dv) w1 5 (.int .i64 m)))
 have hGV:=hid (hG1.out.ch (Ch.setCell (T:=λk=>k=b) w1 (a:=⟨b,5,none⟩) rfl (.int .i64 m)) (λg hg=>by have:=hb'.out;show ¬g=b;omega))
 go_wp2_with fail
 refine (wrong_any b { c with tail:=m } 431 lv dv _ hV.out).mono ?_
 rintro e w2⟨rfl,hp⟩
 have hp':=hid hp
 clear hp
 go_wp2
 go_end0
 exact⟨rfl,by rw[hH.out];exact hp'.out.after gV.out fp_self⟩
theorem letter_we3 (b:Nat) (c:Ck) (d:UInt8) (lv dv:Value) (W:World) (hG:G W) (hb:5<b) (h:Rd b W c lv dv) (hok:CkOk c) (hl:c.line=[]) (hs:c.st=3) (hd:(d==10)=true) (hm0:¬2048<c.tail+1) :
  Calls prog 137 #[.pointer (some ⟨b,0,none⟩),.int .u8 d.toNat] W λe W'=>e=.returned (.tuple #[])∧RdPost b lv dv W (letterC c d) W':=by
 obtain⟨i0,hi,hz0,hz1,hz2⟩:=info_parts infoU8
 have h':=hid h
 have hG':=hid hG
 have hb':=hid hb
 have hd10:=ten_eq d
 obtain⟨p,cap,hlv⟩:=ownsRow_slice h.l
 rw[hl] at hlv
 simp only[List.length_nil] at hlv
 have hlv':=hid hlv
 have hl':=hid hl
 have hcr:crB c.line=false:=by rw[hl];rfl
 have t1:∀ x:Later (Gr W),x.w.cell? ⟨b,1,none⟩=some (.slice p 0 cap):=λx=>(x.ok.cell h.c1).trans (by rw[hlv])
 obtain⟨m,hm⟩:∃ m,c.tail+1=m:=⟨_,rfl⟩
 have hmI:(c.tail:Int)+1=m:=by omega
 have hm':=hid hm
 have hmB:(m:Int)≤2049:=by have:=(hok.three hs).2.1;omega
 rw[hd] at hd10
 have hmb:¬((2048:Int)<m):=by omega
 have hH:=hid (show letterC c d=wrongC { c with tail:=m } 400 by unfold letterC;simp only[if_pos hs,hm];rw[if_neg (by omega)];rw[if_pos (by rw[hcr,hd];rfl)])
 have q0':=h.c0
 rw[hs] at q0'
 have q5':=h.c5
 have hbl':=h.lt
 clear hd
 clear hm0
 clear h hok hs hG hb hcr hm
 clear hl hlv
 haveI:Nonempty (Later (Gr W)):=⟨⟨_,Gr.refl _⟩⟩
 go_enter func137,ntmps137
 go_wp2_with fail
 refine wp_region_later (C:=Gr W) (by kernel_rfl) (by kernel_rfl) (Gr.drew' _) ?_
 repeat (go_big_quiet_step (fail))
 refine wpQuiet_nil ?_
 intro w1 hg1
 have h1:=hid (h'.out.gr hg1)
 have q0:=hg1.cell q0'
 have q5:=hg1.cell q5'
 have q1:=(h'.out.gr hg1).c1
 rw[hlv'.out] at q1
 have z1:=(h'.out.gr hg1).fz 1
 have z5:=(h'.out.gr hg1).fz 5
 have hbl:=(h'.out.gr hg1).lt
 have g1:=hid (hg1.to_ch (Fp b lv dv))
 have hG1:=hid (hG'.out.gr hg1)
 clear t1 hg1 q0' q5' hbl'
 have hV:=hid (h1.out.set5 m)
 have gV:=hid (g1.out.trans (fp_set (b:=b) (lv:=lv) (dv:=dv) w1 5 (.int .i64 m)))
 have hGV:=hid (hG1.out.ch (Ch.setCell (T:=λk=>k=b) w1 (a:=⟨b,5,none⟩) rfl (.int .i64 m)) (λg hg=>by have:=hb'.out;show ¬g=b;omega))
 go_wp2_with fail
 refine (wrong_any b { c with tail:=m } 400 lv dv _ hV.out).mono ?_
 rintro e w2⟨rfl,hp⟩
 have hp':=hid hp
 clear hp
 go_wp2
 go_end0
 exact⟨rfl,by rw[hH.out];exact hp'.out.after gV.out fp_self⟩
theorem letter_wnf0 (b:Nat) (c:Ck) (d:UInt8) (lv dv:Value) (W:World) (hG:G W) (hb:5<b) (h:Rd b W c lv dv) (hok:CkOk c) (L:List UInt8) (x:UInt8) (hl:c.line=L++[x]) (hs:c.st=0) (hc:crB c.line=false) (hd:(d==10)=true) :
  Calls prog 137 #[.pointer (some ⟨b,0,none⟩),.int .u8 d.toNat] W λe W'=>e=.returned (.tuple #[])∧RdPost b lv dv W (letterC c d) W':=by
 obtain⟨i0,hi,hz0,hz1,hz2⟩:=info_parts infoU8
 have h':=hid h
 have hG':=hid hG
 have hb':=hid hb
 have hd10:=ten_eq d
 obtain⟨g,cap,hlv,hgb,hgs,hcells,hcap⟩:=h.l.row (by rw[hl];simp)
 obtain⟨n,hn⟩:∃ n,c.line.length=n:=⟨_,rfl⟩
 obtain⟨k,hk⟩:∃ k,L.length=k:=⟨_,rfl⟩
 have hnk0:n=k+1:=by rw[←hn,hl,←hk];simp
 have hnk:(n:Int) - 1=k:=by omega
 have hn0:decide (0<n)=true:=decide_eq_true (by omega)
 have hkn:(k:Int)<n:=by omega
 have hkB:(n:Int)≤2048:=by have:=hok.zero hs;omega
 have hncap:n≤cap:=hn▸hcap
 rw[hn] at hlv
 have hlv':=hid hlv
 have hn':=hid hn
 have hk':=hid hk
 have hl':=hid hl
 have hcr:crB c.line=((x.toNat:Int)==13):=by rw[hl];exact crB_snoc L x
 have t1:∀ y:Later (Gr W),y.w.cell? ⟨b,1,none⟩=some (.slice (some ⟨g,0,none⟩) n cap):=λy=>(y.ok.cell h.c1).trans (by rw[hlv])
 have t2:∀ y:Later (Gr W),y.w.cell? ⟨g,k,none⟩=some (.int .u8 x.toNat):=λy=>y.ok.cell ((hcells k (by omega)).trans (by simp only[hl];rw[List.getElem_append_right (by omega)];simp[hk]))
 rw[hd] at hd10
 have hx:=hcr.symm.trans hc
 have htl:=(hok.zero hs).2.1
 have hH:=hid (show letterC c d=wrongC c 400 by unfold letterC;simp only[if_neg (show ¬c.st=3 by omega)];rw[if_neg (by omega)];rw[if_pos (by rw[hc,hd];rfl)])
 have q0':=h.c0
 rw[hs] at q0'
 have q5':=h.c5
 rw[htl] at q5'
 have hbl':=h.lt
 clear hd hc
 clear h hok hs hG hb hcr htl
 clear hl hlv hk hn hgs hgb hcells hnk0
 haveI:Nonempty (Later (Gr W)):=⟨⟨_,Gr.refl _⟩⟩
 go_enter func137,ntmps137
 go_wp2_with fail
 refine wp_region_later (C:=Gr W) (by kernel_rfl) (by kernel_rfl) (Gr.drew' _) ?_
 repeat (go_big_quiet_step (fail))
 refine wpQuiet_nil ?_
 intro w1 hg1
 have h1:=hid (h'.out.gr hg1)
 have q0:=hg1.cell q0'
 have q5:=hg1.cell q5'
 have q1:=(h'.out.gr hg1).c1
 rw[hlv'.out] at q1
 have z1:=(h'.out.gr hg1).fz 1
 have z5:=(h'.out.gr hg1).fz 5
 have hbl:=(h'.out.gr hg1).lt
 have g1:=hid (hg1.to_ch (Fp b lv dv))
 have hG1:=hid (hG'.out.gr hg1)
 clear t1 hg1 q0' q5' hbl' t2 hn0
 have hV:=h1
 have gV:=g1
 have hGV:=hG1
 go_wp2_with fail
 refine (wrong_any b c 400 lv dv _ hV.out).mono ?_
 rintro e w2⟨rfl,hp⟩
 have hp':=hid hp
 clear hp
 go_wp2
 go_end0
 exact⟨rfl,by rw[hH.out];exact hp'.out.after gV.out fp_self⟩
theorem letter_wnt3 (b:Nat) (c:Ck) (d:UInt8) (lv dv:Value) (W:World) (hG:G W) (hb:5<b) (h:Rd b W c lv dv) (hok:CkOk c) (L:List UInt8) (x:UInt8) (hl:c.line=L++[x]) (hs:c.st=3) (hc:crB c.line=true) (hd:(d==10)=false) (hm0:¬2048<c.tail+1) :
  Calls prog 137 #[.pointer (some ⟨b,0,none⟩),.int .u8 d.toNat] W λe W'=>e=.returned (.tuple #[])∧RdPost b lv dv W (letterC c d) W':=by
 obtain⟨i0,hi,hz0,hz1,hz2⟩:=info_parts infoU8
 have h':=hid h
 have hG':=hid hG
 have hb':=hid hb
 have hd10:=ten_eq d
 obtain⟨g,cap,hlv,hgb,hgs,hcells,hcap⟩:=h.l.row (by rw[hl];simp)
 obtain⟨n,hn⟩:∃ n,c.line.length=n:=⟨_,rfl⟩
 obtain⟨k,hk⟩:∃ k,L.length=k:=⟨_,rfl⟩
 have hnk0:n=k+1:=by rw[←hn,hl,←hk];simp
 have hnk:(n:Int) - 1=k:=by omega
 have hn0:decide (0<n)=true:=decide_eq_true (by omega)
 have hkn:(k:Int)<n:=by omega
 have hkB:(n:Int)≤2048:=by have:=hok.three hs;omega
 have hncap:n≤cap:=hn▸hcap
 rw[hn] at hlv
 have hlv':=hid hlv
 have hn':=hid hn
 have hk':=hid hk
 have hl':=hid hl
 have hcr:crB c.line=((x.toNat:Int)==13):=by rw[hl];exact crB_snoc L x
 have t1:∀ y:Later (Gr W),y.w.cell? ⟨b,1,none⟩=some (.slice (some ⟨g,0,none⟩) n cap):=λy=>(y.ok.cell h.c1).trans (by rw[hlv])
 have t2:∀ y:Later (Gr W),y.w.cell? ⟨g,k,none⟩=some (.int .u8 x.toNat):=λy=>y.ok.cell ((hcells k (by omega)).trans (by simp only[hl];rw[List.getElem_append_right (by omega)];simp[hk]))
 obtain⟨m,hm⟩:∃ m,c.tail+1=m:=⟨_,rfl⟩
 have hmI:(c.tail:Int)+1=m:=by omega
 have hm':=hid hm
 have hmB:(m:Int)≤2049:=by have:=(hok.three hs).2.1;omega
 rw[hd] at hd10
 have hx:=hcr.symm.trans hc
 have hmb:¬((2048:Int)<m):=by omega
 have hH:=hid (show letterC c d=wrongC { c with tail:=m } 400 by unfold letterC;simp only[if_pos hs,hm];rw[if_neg (by omega)];rw[if_pos (by rw[hc,hd];rfl)])
 have q0':=h.c0
 rw[hs] at q0'
 have q5':=h.c5
 have hbl':=h.lt
 clear hd hc
 clear hm0
 clear h hok hs hG hb hcr hm
 clear hl hlv hk hn hgs hgb hcells hnk0
 haveI:Nonempty (Later (Gr W)):=⟨⟨_,Gr.refl _⟩⟩
 go_enter func137,ntmps137
 go_wp2_with fail
 refine wp_region_later (C:=Gr W) (by kernel_rfl) (by kernel_rfl) (Gr.drew' _) ?_
 repeat (go_big_quiet_step (fail))
 refine wpQuiet_nil ?_
 intro w1 hg1
 have h1:=hid (h'.out.gr hg1)
 have q0:=hg1.cell q0'
 have q5:=hg1.cell q5'
 have q1:=(h'.out.gr hg1).c1
 rw[hlv'.out] at q1
 have z1:=(h'.out.gr hg1).fz 1
 have z5:=(h'.out.gr hg1).fz 5
 have hbl:=(h'.out.gr hg1).lt
 have g1:=hid (hg1.to_ch (Fp b lv dv))
 have hG1:=hid (hG'.out.gr hg1)
 clear t1 hg1 q0' q5' hbl' t2 hn0
 have hV:=hid (h1.out.set5 m)
 have gV:=hid (g1.out.trans (fp_set (b:=b) (lv:=lv) (dv:=dv) w1 5 (.int .i64 m)))
 have hGV:=hid (hG1.out.ch (Ch.setCell (T:=λk=>k=b) w1 (a:=⟨b,5,none⟩) rfl (.int .i64 m)) (λg hg=>by have:=hb'.out;show ¬g=b;omega))
 go_wp2_with fail
 refine (wrong_any b { c with tail:=m } 400 lv dv _ hV.out).mono ?_
 rintro e w2⟨rfl,hp⟩
 have hp':=hid hp
 clear hp
 go_wp2
 go_end0
 exact⟨rfl,by rw[hH.out];exact hp'.out.after gV.out fp_self⟩
theorem letter_an3 (b:Nat) (c:Ck) (d:UInt8) (lv dv:Value) (W:World) (hG:G W) (hb:5<b) (h:Rd b W c lv dv) (hok:CkOk c) (L:List UInt8) (x:UInt8) (hl:c.line=L++[x]) (hs:c.st=3) (hc:crB c.line=false) (hd:(d==10)=false) (hm0:¬2048<c.tail+1) :
  Calls prog 137 #[.pointer (some ⟨b,0,none⟩),.int .u8 d.toNat] W λe W'=>e=.returned (.tuple #[])∧RdPost b lv dv W (letterC c d) W':=by
 obtain⟨i0,hi,hz0,hz1,hz2⟩:=info_parts infoU8
 have h':=hid h
 have hG':=hid hG
 have hb':=hid hb
 have hd10:=ten_eq d
 obtain⟨g,cap,hlv,hgb,hgs,hcells,hcap⟩:=h.l.row (by rw[hl];simp)
 obtain⟨n,hn⟩:∃ n,c.line.length=n:=⟨_,rfl⟩
 obtain⟨k,hk⟩:∃ k,L.length=k:=⟨_,rfl⟩
 have hnk0:n=k+1:=by rw[←hn,hl,←hk];simp
 have hnk:(n:Int) - 1=k:=by omega
 have hn0:decide (0<n)=true:=decide_eq_true (by omega)
 have hkn:(k:Int)<n:=by omega
 have hkB:(n:Int)≤2048:=by have:=hok.three hs;omega
 have hncap:n≤cap:=hn▸hcap
 rw[hn] at hlv
 have hlv':=hid hlv
 have hn':=hid hn
 have hk':=hid hk
 have hl':=hid hl
 have hcr:crB c.line=((x.toNat:Int)==13):=by rw[hl];exact crB_snoc L x
 have t1:∀ y:Later (Gr W),y.w.cell? ⟨b,1,none⟩=some (.slice (some ⟨g,0,none⟩) n cap):=λy=>(y.ok.cell h.c1).trans (by rw[hlv])
 have t2:∀ y:Later (Gr W),y.w.cell? ⟨g,k,none⟩=some (.int .u8 x.toNat):=λy=>y.ok.cell ((hcells k (by omega)).trans (by simp only[hl];rw[List.getElem_append_right (by omega)];simp[hk]))
 obtain⟨m,hm⟩:∃ m,c.tail+1=m:=⟨_,rfl⟩
 have hmI:(c.tail:Int)+1=m:=by omega
 have hm':=hid hm
 have hmB:(m:Int)≤2049:=by have:=(hok.three hs).2.1;omega
 rw[hd] at hd10
 have hx:=hcr.symm.trans hc
 have hmb:¬((2048:Int)<m):=by omega
 have hlen:=(hok.three hs).1
 have hlt:=(hok.three hs).2.1
 rw[hn] at hlen
 have hH:=hid (show letterC c d={ c with line:=c.line++[d],tail:=m } by unfold letterC;simp only[if_pos hs,hm];rw[if_neg (by omega),if_neg (by rw[hc,hd];decide),if_neg (by rw[hc];decide),if_neg (λe=>by have:=e.1;omega)])
 have q0':=h.c0
 rw[hs] at q0'
 have q5':=h.c5
 have hbl':=h.lt
 clear hd
 clear hc
 clear hm0
 clear h hok hs hG hb hcr hm
 clear hl hlv hk hn hgs hgb hcells hnk0
 haveI:Nonempty (Later (Gr W)):=⟨⟨_,Gr.refl _⟩⟩
 go_enter func137,ntmps137
 go_wp2_with fail
 refine wp_region_later (C:=Gr W) (by kernel_rfl) (by kernel_rfl) (Gr.drew' _) ?_
 repeat (go_big_quiet_step (fail))
 refine wpQuiet_nil ?_
 intro w1 hg1
 have h1:=hid (h'.out.gr hg1)
 have q0:=hg1.cell q0'
 have q5:=hg1.cell q5'
 have q1:=(h'.out.gr hg1).c1
 rw[hlv'.out] at q1
 have z1:=(h'.out.gr hg1).fz 1
 have z5:=(h'.out.gr hg1).fz 5
 have hbl:=(h'.out.gr hg1).lt
 have g1:=hid (hg1.to_ch (Fp b lv dv))
 have hG1:=hid (hG'.out.gr hg1)
 clear t1 hg1 q0' q5' hbl' t2 hn0
 have hV:=hid (h1.out.set5 m)
 have gV:=hid (g1.out.trans (fp_set (b:=b) (lv:=lv) (dv:=dv) w1 5 (.int .i64 m)))
 have hGV:=hid (hG1.out.ch (Ch.setCell (T:=λk=>k=b) w1 (a:=⟨b,5,none⟩) rfl (.int .i64 m)) (λg hg=>by have:=hb'.out;show ¬g=b;omega))
 have hcl:=hid (show c.line.length=n from hn'.out)
 go_wp2_with (at_builtin;refine wpList_append_own_at _ rfl _ _ 100 rfl (b+1) 5 i0 (.int .u8 0) 1 1 underlying100 hi hz0 hz1 hz2 rfl (by decide) lv c.line.length _ hlv'.out.symm (hV.out.l.alloc _) ⟨w1.heap.size,0,none⟩ 1 1 [.int .u8 d.toNat] rfl rfl (cell_one_new' _ _ _ (by simp)) (by simp[Value.oneCell']) (by rw[hcl.out];unfold maxLen;omega) (by rw[hcl.out];omega) (by simp;omega) ?_;intro v' w3 hown hgrow _ hat;have hown2:=own_snoc hown;obtain⟨g',cap',hv',_⟩:=OwnB.row hown2 (by simp);rw[show (c.line++[d]).length=n+1 by rw[List.length_append,hcl.out];rfl] at hv';subst hv';obtain⟨hp,⟨u,hu⟩,hz⟩:=hV.out.appended hgrow (l':=c.line++[d]) hown2 hat;have hp':=hid hp;clear hp hown hown2 hgrow hat)
 go_wp2
 go_end0
 exact⟨rfl,by rw[hH.out];exact hp'.out.after gV.out fp_self⟩
