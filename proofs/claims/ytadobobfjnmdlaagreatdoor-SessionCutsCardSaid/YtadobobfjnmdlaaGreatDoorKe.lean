/-
  Walks over the library's numbers in hexadecimal digits: what the program calls; what a chunk's head says.
-/
import Derived.Test.YtadobobfjnmdlaaGreatDoorL
import Derived.Deep.Cut
set_option linter.unnecessarySimpa false
set_option linter.unusedVariables false
set_option linter.unusedSimpArgs false
set_option maxHeartbeats 16000000
set_option maxRecDepth 100000
open Go.Lib (hid)
open Go.Proofs.Tryz
namespace Go.Proofs.YtadobobfjnmdlaaGreatDoor
open Go.RowKit
theorem pint0_any (l:List UInt8) (h0:l≠[]) (h8:l.length≤8) (hx:l.all isHex=true) (w:World) :
  Calls prog 233 #[.string ⟨l.toArray⟩,.int .i64 16,.int .i64 64] w λe w'=>e=.returned (.tuple #[.int .i64 (hexN l),.nilIface])∧Gr w w':=by
 have hcall:=hid (λw=>puint_any l h0 h8 hx w)
 have hb:=hexN_lt l.length l rfl hx
 have hb2:hexN l≤4294967295:=by
  have:16 ^ l.length≤16 ^ 8:=Nat.pow_le_pow_right (by decide) h8
  have e:(16:Nat) ^ 8=4294967296:=rfl
  omega
 obtain⟨n,hn⟩:∃ n,hexN l=n:=⟨_,rfl⟩
 rw[hn] at hcall hb2 ⊢
 have hlen:0<l.length:=List.length_pos_iff.2 h0
 obtain⟨c,hc⟩:∃ c,(⟨l.toArray⟩:ByteArray)[0]'(by rw[size_mk];exact hlen)=c:=⟨_,rfl⟩
 have hxc:isHex c=true:=List.all_eq_true.1 hx c (hc▸List.getElem_mem (l:=l) hlen)
 have hcs:=hex_cases c hxc
 have h43:((c.toNat:Int)==43)=false:=beq_eq_false_iff_ne.2 (by rcases hcs with⟨h,_⟩ | ⟨h,_⟩ <;> omega)
 have h45:((c.toNat:Int)==45)=false:=beq_eq_false_iff_ne.2 (by rcases hcs with⟨h,_⟩ | ⟨h,_⟩ <;> omega)
 have he:l.isEmpty=false:=by simpa using h0
 have hnI:(n:Int)≤4294967295:=by omega
 clear hx hb hn hcs hxc h0 hb2
 go_enter func233,ntmps233
 go_wp2_with fail
 refine (hcall.out _).mono ?_
 rintro e w1⟨rfl,hg⟩
 go_upto_region 17 with (fail)
 obtain⟨co,hco⟩:∃ co:Int,(9223372036854775808:Int)=co:=⟨_,rfl⟩
 have hco1:5000000000<co:=by omega
 rw[hco]
 clear hco
 go_wp2
 go_ret2
 exact⟨rfl,hg⟩
theorem pint_any (l:List UInt8) (h0:l≠[]) (h8:l.length≤8) (hx:l.all isHex=true) (w:World) :
  Calls prog 243 #[.string ⟨l.toArray⟩,.int .i64 16,.int .i64 64] w λe w'=>e=.returned (.tuple #[.int .i64 (hexN l),.nilIface])∧Gr w w':=by
 have hcall:=hid (λw=>pint0_any l h0 h8 hx w)
 obtain⟨n,hn⟩:∃ n,hexN l=n:=⟨_,rfl⟩
 rw[hn] at hcall ⊢
 clear hx hn h0
 go_enter func243,ntmps243
 go_wp2_with fail
 refine (hcall.out _).mono ?_
 rintro e w1⟨rfl,hg⟩
 go_wp2
 go_ret2
 exact⟨rfl,hg⟩
theorem dw_nil (p:UInt8→Bool):∀ l:List UInt8,l.dropWhile p=[]↔∀ x∈l,p x=true
 | []=>by simp
 | c :: t=>by
  rw[List.dropWhile_cons]
  cases h:p c
  ·simp[h]
  ·simp[h,dw_nil p t]
theorem dw_head (p:UInt8→Bool):∀ (l:List UInt8) (c:UInt8) (t:List UInt8),l.dropWhile p=c :: t→p c=false
 | [],_,_,h=>by cases h
 | a :: l,c,t,h=>by
  rw[List.dropWhile_cons] at h
  cases ha:p a
  ·rw[ha] at h;simp at h;rw[←h.1];exact ha
  ·rw[ha] at h;exact dw_head p l c t h
theorem trimS_empty (l cs:List UInt8):(Lib.trimS l cs).isEmpty=l.all (cs.contains ·):=by
 rw[Bool.eq_iff_iff,List.isEmpty_iff,List.all_eq_true]
 unfold Lib.trimS Lib.trimLeftS Lib.trimRightS
 rw[dw_nil]
 constructor
 ·intro h
  have hnil:l.reverse.dropWhile (cs.contains ·)=[]:=by
   cases hd:l.reverse.dropWhile (cs.contains ·) with
   | nil=>rfl
   | cons c t =>
    have h1:=dw_head _ _ _ _ hd
    have h2:=h c (by rw[hd];simp)
    rw[h1] at h2;cases h2
  have:=(dw_nil _ _).1 hnil
  exact λx hx=>this x (List.mem_reverse.2 hx)
 ·intro h
  have:l.reverse.dropWhile (cs.contains ·)=[]:=(dw_nil _ _).2 (λx hx=>h x (List.mem_reverse.1 hx))
  rw[this]
  intro x hx;cases hx
theorem trimh_any (l t:List UInt8) (ht:Lib.trimS l hexesL=t) (w:World) (hl:l.length≤9223372036854775807) :
  Calls prog 162 #[.string ⟨l.toArray⟩,.string ⟨#[48,49,50,51,52,53,54,55,56,57,97,98,99,100,101,102,65,66,67,68,69,70]⟩] w λe w'=>e=.returned (.string ⟨t.toArray⟩)∧Gr w w' :=
 ht▸Any.strings_Trim_laid lays160 (by kernel_rfl) ⟨l.toArray⟩ ⟨#[48,49,50,51,52,53,54,55,56,57,97,98,99,100,101,102,65,66,67,68,69,70]⟩ w (by rw[size_mk];exact hl) (by decide) (ascii_of_all (by decide))
def PFineX (f:Bool) (w:World) (e:Ending) (w':World):Prop:=∃ n v:List UInt8,e=.returned (.tuple #[.agg #[.string ⟨n.toArray⟩,.string ⟨v.toArray⟩],.bool f])∧Gr w w'
theorem pfinex (z y:List UInt8) (hz:z=[120,58]++y) (f:Bool) (hf:y.all isVal=f) (w:World) (hG:G w) (hl:z.length≤1000000) :
  Calls prog 142 #[.string ⟨z.toArray⟩] w (PFineX f w) :=
 (parse_any z w hG (by omega)).mono λe w' ⟨he,hg⟩=>by
  have h:=parse_colon (n:=[120]) (y:=y) (by decide)
  have hz':z=[120]++[58]++y:=by rw[hz];rfl
  rw[←hz',hf] at h
  rw[h] at he
  cases f
  ·exact⟨[],[],he,hg⟩
  ·exact⟨[120],trimB y,he,hg⟩
def szV (o:Option Nat):Value:=match o with | none=>.tuple #[.int .i64 0,.bool false] | some n=>.tuple #[.int .i64 n,.bool true]
theorem size_any (s:List UInt8) (w:World) (hG:G w) (hl:s.length≤900000) :
  Calls prog 209 #[.string ⟨s.toArray⟩] w λe w'=>e=.returned (szV (sizeC s))∧Gr w w':=by
 have hG':=hid hG
 have hc1:(Lib.cut s [59]).1.length≤s.length:=cut_le1 s [59]
 have hc2:(Lib.cut s [59]).2.1.length≤s.length:=cut_le2 s [59]
 have hcut:=cut_any s [59] w hG (by omega)
 clear hG
 obtain⟨⟨n,ext,d⟩,hc⟩:∃ c,Lib.cut s [59]=c:=⟨_,rfl⟩
 have hS:sizeC s=if ext.all isVal&&(!n.isEmpty&&(decide (n.length≤8)&&n.all isHex)) then some (hexN n) else none:=by unfold sizeC;rw[hc]
 rw[hc] at hc1 hc2 hcut
 dsimp only at hc1 hc2 hcut
 have hcut':=hid hcut
 clear hc hcut
 obtain⟨z,hz⟩:∃ z,[120,58]++ext=z:=⟨_,rfl⟩
 have ez:(⟨#[120,58]⟩:ByteArray)++⟨ext.toArray⟩=⟨z.toArray⟩:=hz▸cat_mk [120,58] ext
 have hzl:z.length≤1000000:=by rw[←hz];simp;omega
 obtain⟨f,hf⟩:∃ f,ext.all isVal=f:=⟨_,rfl⟩
 have hp:=hid (λW (h:Gr w W)=>pfinex z ext hz.symm f hf W (hG'.out.gr h) hzl)
 rw[hf] at hS
 clear hz hf
 cases f
 ·have hS':=hid (show sizeC s=none by rw[hS];rfl)
  clear hS
  go_enter func209,ntmps209
  go_wp2_with fail
  refine hcut'.out.mono ?_
  rintro e w1⟨rfl,hg1⟩
  have g1:=hid hg1
  clear hg1
  go_wp2_with fail
  refine (hp.out _ g1.out).mono ?_
  rintro e w2⟨x1,x2,rfl,hg2⟩
  have g2:=hid ((g1.out.trans hg2).alloc1 (.cells #[.string ⟨x1.toArray⟩,.string ⟨x2.toArray⟩] 80))
  clear hg2
  go_wp2
  go_ret2
  exact⟨by rw[hS'.out];rfl,g2.out⟩
 ·rw[Bool.true_and] at hS
  by_cases hne:n=[]
  ·have hS':=hid (show sizeC s=none by rw[hS,hne];rfl)
   subst hne
   clear hS
   go_enter func209,ntmps209
   go_wp2_with fail
   refine hcut'.out.mono ?_
   rintro e w1⟨rfl,hg1⟩
   have g1:=hid hg1
   clear hg1
   go_wp2_with fail
   refine (hp.out _ g1.out).mono ?_
   rintro e w2⟨x1,x2,rfl,hg2⟩
   have g2:=hid ((g1.out.trans hg2).alloc1 (.cells #[.string ⟨x1.toArray⟩,.string ⟨x2.toArray⟩] 80))
   clear hg2
   go_wp2
   go_ret2
   exact⟨by rw[hS'.out];rfl,g2.out⟩
  ·have hie:n.isEmpty=false:=by simpa using hne
   have hne':=hid hne
   clear hne
   rw[hie,Bool.not_false,Bool.true_and] at hS
   by_cases h8:n.length≤8
   ·rw[decide_eq_true h8,Bool.true_and] at hS
    obtain⟨t,ht⟩:∃ t,Lib.trimS n hexesL=t:=⟨_,rfl⟩
    have htr:=hid (λW=>trimh_any n t ht W (by omega))
    have hte:t.isEmpty=n.all isHex:=by rw[←ht];exact trimS_empty n hexesL
    have h8I:(n.length:Int)≤8:=by omega
    clear ht
    cases hx:n.all isHex
    ·have hS':=hid (show sizeC s=none by rw[hS,hx];rfl)
     have htI:(!t.isEmpty)=true:=by rw[hte,hx];rfl
     clear hte hS hx
     go_enter func209,ntmps209
     go_wp2_with fail
     refine hcut'.out.mono ?_
     rintro e w1⟨rfl,hg1⟩
     have g1:=hid hg1
     clear hg1
     go_wp2_with fail
     refine (hp.out _ g1.out).mono ?_
     rintro e w2⟨x1,x2,rfl,hg2⟩
     have g2:=hid ((g1.out.trans hg2).alloc1 (.cells #[.string ⟨x1.toArray⟩,.string ⟨x2.toArray⟩] 80))
     clear hg2
     go_wp2_with fail
     refine (htr.out _).mono ?_
     rintro e w3⟨rfl,hg3⟩
     have g3:=hid (g2.out.trans hg3)
     clear hg3
     go_wp2
     go_ret2
     exact⟨by rw[hS'.out];rfl,g3.out⟩
    ·have hS':=hid (show sizeC s=some (hexN n) by rw[hS,hx];rfl)
     have hpi:=hid (λW=>pint_any n hne'.out h8 hx W)
     obtain rfl:t=[]:=by rw[hx] at hte;simpa using hte
     clear hte hS hx
     go_enter func209,ntmps209
     go_wp2_with fail
     refine hcut'.out.mono ?_
     rintro e w1⟨rfl,hg1⟩
     have g1:=hid hg1
     clear hg1
     go_wp2_with fail
     refine (hp.out _ g1.out).mono ?_
     rintro e w2⟨x1,x2,rfl,hg2⟩
     have g2:=hid ((g1.out.trans hg2).alloc1 (.cells #[.string ⟨x1.toArray⟩,.string ⟨x2.toArray⟩] 80))
     clear hg2
     go_wp2_with fail
     refine (htr.out _).mono ?_
     rintro e w3⟨rfl,hg3⟩
     have g3:=hid (g2.out.trans hg3)
     clear hg3
     go_wp2_with fail
     refine (hpi.out _).mono ?_
     rintro e w4⟨rfl,hg4⟩
     have g4:=hid (g3.out.trans hg4)
     clear hg4
     haveI:Nonempty (Later (Gr w4)):=⟨⟨_,Gr.refl _⟩⟩
     go_wp2
     refine wp_region_later (C:=Gr w4) (by kernel_rfl) (by kernel_rfl) (Gr.drew' _) ?_
     repeat (go_big_quiet_step (fail))
     refine wpQuiet_nil ?_
     intro w5 hg5
     have g5:=hid (g4.out.trans hg5)
     clear hg5
     go_wp2
     go_ret2
     exact⟨by rw[hS'.out];rfl,g5.out⟩
   ·have hS':=hid (show sizeC s=none by rw[hS,decide_eq_false h8];rfl)
    have h8I:8<(n.length:Int):=by omega
    clear hS h8
    go_enter func209,ntmps209
    go_wp2_with fail
    refine hcut'.out.mono ?_
    rintro e w1⟨rfl,hg1⟩
    have g1:=hid hg1
    clear hg1
    go_wp2_with fail
    refine (hp.out _ g1.out).mono ?_
    rintro e w2⟨x1,x2,rfl,hg2⟩
    have g2:=hid ((g1.out.trans hg2).alloc1 (.cells #[.string ⟨x1.toArray⟩,.string ⟨x2.toArray⟩] 80))
    clear hg2
    go_wp2
    go_ret2
    exact⟨by rw[hS'.out];rfl,g2.out⟩
attribute [local go_sem] Oper.semAt_some
section
variable {b:Nat} {W:World} {c:Ck} {lv dv:Value}
theorem Rd.relined (h:Rd b W c lv dv) {W3:World} {lv':Value} {l':List UInt8} (hc:Ch (λk=>lv.ownBlock=some k) W W3) (hl:OwnB (b+1) W3 lv' l') (hat:lv'.ownBlock=lv.ownBlock∨∀ k,lv'.ownBlock=some k→W.heap.size≤k) :
  Rd b (W3.setCell ⟨b,1,none⟩ lv') { c with line:=l' } lv' dv:=by
 have hb:¬(lv.ownBlock=some b):=λe=>by have:=h.l.lt b e;omega
 have cell:∀ {o v},W.cell? ⟨b,o,none⟩=some v→W3.cell? ⟨b,o,none⟩=some v:=fun {o v} hh=>(hc.cell (p:=⟨b,o,none⟩) h.lt hb).trans hh
 have hd:OwnB (b+1) W3 dv c.data:=by
  obtain⟨h1,h2⟩:=h.d
  refine⟨h1,?_⟩
  rcases h2 with h2 | ⟨g,cap,cur,rfl,hb2,hh,hn2,hm,hcs,ht⟩
  ·exact .inl h2
  ·exact .inr ⟨g,cap,cur,rfl,hb2,hc.get hh (λe=>h.ne g e rfl),hn2,hm,hcs,ht⟩
 refine⟨cell_off (cell h.c0) (by decide),cell_set_same (cell h.c1),cell_off (cell h.c2) (by decide),cell_off (cell h.c3) (by decide),cell_off (cell h.c4) (by decide),cell_off (cell h.c5) (by decide),cell_off (cell h.c6) (by decide),λo=>frozen_set.trans ((hc.frozen (p:=⟨b,o,none⟩) h.lt hb).trans (h.fz o)),own_set hl,own_set hd,λk hk hk2=>?_⟩
 rcases hat with e | e
 ·rw[e] at hk;exact h.ne k hk hk2
 ·have:=e k hk;have:=h.d.lt k hk2;omega
theorem Rd.redata (h:Rd b W c lv dv) {W3:World} {dv':Value} {d':List UInt8} (hc:Ch (λk=>dv.ownBlock=some k) W W3) (hl:OwnB (b+1) W3 dv' d') (hat:dv'.ownBlock=dv.ownBlock∨∀ k,dv'.ownBlock=some k→W.heap.size≤k) :
  Rd b (W3.setCell ⟨b,3,none⟩ dv') { c with data:=d' } lv dv':=by
 have hb:¬(dv.ownBlock=some b):=λe=>by have:=h.d.lt b e;omega
 have cell:∀ {o v},W.cell? ⟨b,o,none⟩=some v→W3.cell? ⟨b,o,none⟩=some v:=fun {o v} hh=>(hc.cell (p:=⟨b,o,none⟩) h.lt hb).trans hh
 have hd:OwnB (b+1) W3 lv c.line:=by
  obtain⟨h1,h2⟩:=h.l
  refine⟨h1,?_⟩
  rcases h2 with h2 | ⟨g,cap,cur,rfl,hb2,hh,hn2,hm,hcs,ht⟩
  ·exact .inl h2
  ·exact .inr ⟨g,cap,cur,rfl,hb2,hc.get hh (λe=>h.ne g rfl e),hn2,hm,hcs,ht⟩
 refine⟨cell_off (cell h.c0) (by decide),cell_off (cell h.c1) (by decide),cell_off (cell h.c2) (by decide),cell_set_same (cell h.c3),cell_off (cell h.c4) (by decide),cell_off (cell h.c5) (by decide),cell_off (cell h.c6) (by decide),λo=>frozen_set.trans ((hc.frozen (p:=⟨b,o,none⟩) h.lt hb).trans (h.fz o)),own_set hd,own_set hl,λk hk hk2=>?_⟩
 rcases hat with e | e
 ·rw[e] at hk2;exact h.ne k hk hk2
 ·have:=e k hk2;have:=h.l.lt k hk;omega
end
theorem head_any (b:Nat) (c:Ck) (s:List UInt8) (lv dv:Value) (W:World) (hG:G W) (h:Rd b W c lv dv) (hd:c.data.length≤4096) (hl:s.length≤900000) :
  Calls prog 168 #[.pointer (some ⟨b,0,none⟩),.string ⟨s.toArray⟩] W λe W'=>e=.returned (.tuple #[])∧RdPost b lv dv W (headC c s) W':=by
 obtain⟨pd,cd,hdv⟩:=ownsRow_slice h.d
 have hsz:=size_any s W hG hl
 have h':=hid h
 clear hG h
 cases hs:sizeC s with
 | none =>
  have hH:=hid (show headC c s=wrongC c 400 by unfold headC;rw[hs])
  rw[hs] at hsz
  have hsz':=hid hsz
  clear hs hsz
  go_enter func168,ntmps168
  go_wp2_with fail
  refine hsz'.out.mono ?_
  rintro e w1⟨rfl,hg⟩
  have h1:=hid (h'.out.gr hg)
  have g1:=hid (hg.to_ch (Fp b lv dv))
  clear hg
  unfold szV
  go_wp2_with fail
  refine (wrong_any b c 400 lv dv _ h1.out).mono ?_
  rintro e w2⟨rfl,hp⟩
  have hp':=hid hp
  clear hp
  go_wp2
  go_end0
  exact⟨rfl,by rw[hH.out];exact hp'.out.after g1.out fp_self⟩
 | some n =>
  rw[hs] at hsz
  have hsz':=hid hsz
  have hs':=hid hs
  clear hs hsz
  by_cases hbig:4096<c.data.length+n
  ·have hH:=hid (show headC c s=wrongC c 413 by unfold headC;rw[hs'.out];dsimp only;rw[if_pos hbig])
   have hbI:(4096:Int) - (c.data.length:Int)<n:=by omega
   have hdI:(c.data.length:Int)≤4096:=by omega
   clear hbig
   go_enter func168,ntmps168
   go_wp2_with fail
   refine hsz'.out.mono ?_
   rintro e w1⟨rfl,hg⟩
   have h1:=hid (h'.out.gr hg)
   have q3:=(h'.out.gr hg).c3
   rw[hdv] at q3
   have g1:=hid (hg.to_ch (Fp b lv dv))
   clear hg
   unfold szV
   go_wp2_with fail
   refine (wrong_any b c 413 lv dv _ h1.out).mono ?_
   rintro e w2⟨rfl,hp⟩
   have hp':=hid hp
   clear hp
   go_wp2
   go_end0
   exact⟨rfl,by rw[hH.out];exact hp'.out.after g1.out fp_self⟩
  ·have hbI:¬((4096:Int) - (c.data.length:Int)<n):=by omega
   have hdI:(c.data.length:Int)≤4096:=by omega
   by_cases h0:n=0
   ·have hH:=hid (show headC c s={ c with st:=3 } by unfold headC;rw[hs'.out];dsimp only;rw[if_neg hbig,if_pos h0])
    subst h0
    clear hbig
    go_enter func168,ntmps168
    go_wp2_with fail
    refine hsz'.out.mono ?_
    rintro e w1⟨rfl,hg⟩
    have h1:=hid (h'.out.gr hg)
    have q3:=(h'.out.gr hg).c3
    have q0:=(h'.out.gr hg).c0
    have z0:=(h'.out.gr hg).fz 0
    rw[hdv] at q3
    have g1:=hid (hg.to_ch (Fp b lv dv))
    clear hg
    unfold szV
    go_wp2
    go_end0
    exact⟨rfl,by rw[hH.out];exact (RdPost.of (h1.out.set0 3) (fp_set _ _ _)).after g1.out fp_self⟩
   ·have hH:=hid (show headC c s={ c with st:=1,left:=n } by unfold headC;rw[hs'.out];dsimp only;rw[if_neg hbig,if_neg h0])
    have h0I:((n:Int)==0)=false:=beq_eq_false_iff_ne.2 (by omega)
    clear hbig h0
    go_enter func168,ntmps168
    go_wp2_with fail
    refine hsz'.out.mono ?_
    rintro e w1⟨rfl,hg⟩
    have h1:=hid (h'.out.gr hg)
    have q3:=(h'.out.gr hg).c3
    have q0:=(h'.out.gr hg).c0
    have q2:=(h'.out.gr hg).c2
    have z0:=(h'.out.gr hg).fz 0
    have z2:=(h'.out.gr hg).fz 2
    rw[hdv] at q3
    have g1:=hid (hg.to_ch (Fp b lv dv))
    clear hg
    unfold szV
    go_wp2
    go_end0
    exact⟨rfl,by rw[hH.out];exact (RdPost.of ((h1.out.set0 1).set2 n) ((fp_set _ _ _).trans (fp_set _ _ _))).after g1.out fp_self⟩
theorem trailer_any (b:Nat) (c:Ck) (s:List UInt8) (lv dv:Value) (W:World) (hG:G W) (hb:5<b) (h:Rd b W c lv dv) (hn:c.nf≤32) (hl:s.length≤900000) :
  Calls prog 169 #[.pointer (some ⟨b,0,none⟩),.string ⟨s.toArray⟩] W λe W'=>e=.returned (.tuple #[])∧RdPost b lv dv W (trailerC c s) W':=by
 have h':=hid h
 by_cases hs:s=[]
 ·have hH:=hid (show trailerC c s={ c with st:=4 } by unfold trailerC;rw[hs];rfl)
  have q0:=h.c0
  have z0:=h.fz 0
  subst hs
  clear h hG hb
  go_enter func169,ntmps169
  go_wp2
  refine bodyPost_ret (results_none (by kernel_rfl) _ _ _) rfl ?_
  exact⟨rfl,by rw[hH.out];exact RdPost.of (h'.out.set0 4) (fp_set _ _ _)⟩
 ·have hse:s.isEmpty=false:=by simpa using hs
  obtain⟨m,hm⟩:∃ m,c.nf+1=m:=⟨_,rfl⟩
  have hmI:(c.nf:Int)+1=m:=by omega
  have hnI:(c.nf:Int)≤32:=by omega
  have hm33:(m:Int)≤33:=by omega
  have q4:=h.c4
  have z4:=h.fz 4
  have h1:=hid (h.set4 m)
  have hG1:=hid (λ(v:Value)=>hG.ch (Ch.setCell (T:=λk=>k=b) W (a:=⟨b,4,none⟩) rfl v) (λg hg=>by show ¬g=b;omega))
  clear hb
  obtain⟨⟨n,v,f⟩,hp⟩:∃ x,parseB s=x:=⟨_,rfl⟩
  have hpc:=hid (λW (h:G W)=>parse_any s W h (by omega))
  rw[hp] at hpc
  have hH:trailerC c s=if f then (if 32≤c.nf then { c with nf:=m,st:=4,bad:=431 } else { c with nf:=m }) else { c with nf:=m,st:=4,bad:=400 }:=by
   unfold trailerC;rw[hse,hp,hm];rfl
  have hH':=hid hH
  have hm':=hid hm
  clear h hs hp hH hm hG
  go_enter func169,ntmps169
  go_wp2_with fail
  refine (hpc.out _ (hG1.out _)).mono ?_
  rintro e w2⟨rfl,hg⟩
  have hg2:Gr (W.setCell ⟨b,4,none⟩ (.int .i64 m)) (w2.alloc (.cells #[.string ⟨n.toArray⟩,.string ⟨v.toArray⟩] 80)):=hg.alloc1 _
  have h2:=hid (h1.out.gr hg2)
  have r4:=(h1.out.gr hg).c4
  have g2:=hid ((fp_set (b:=b) (lv:=lv) (dv:=dv) W 4 (.int .i64 m)).trans (hg2.to_ch (Fp b lv dv)))
  dsimp only at r4
  have hbl:b<w2.heap.size:=(h1.out.gr hg).lt
  clear hg hg2 q4 z4
  unfold pVal
  cases f
  ·go_wp2_with fail
   refine (wrong_any b { c with nf:=m } 400 lv dv _ h2.out).mono ?_
   rintro e w3⟨rfl,hp⟩
   have hp':=hid hp
   clear hp
   go_wp2
   go_end0
   exact⟨rfl,by rw[hH'.out];exact hp'.out.after g2.out fp_self⟩
  ·by_cases h32:32≤c.nf
   ·have h33:(32:Int)<m:=by omega
    go_wp2_with fail
    refine (wrong_any b { c with nf:=m } 431 lv dv _ h2.out).mono ?_
    rintro e w3⟨rfl,hp⟩
    have hp':=hid hp
    clear hp
    go_wp2
    go_end0
    exact⟨rfl,by rw[hH'.out,if_pos trivial,if_pos h32];exact hp'.out.after g2.out fp_self⟩
   ·have h33:¬((32:Int)<m):=by omega
    go_wp2
    go_end0
    exact⟨rfl,by rw[hH'.out,if_pos trivial,if_neg h32];exact RdPost.of h2.out g2.out⟩
section
variable {b:Nat} {W:World} {c:Ck} {lv dv:Value}
theorem Rd.appended (h:Rd b W c lv dv) {o:Obj} {w3:World} {v':Value} {l':List UInt8} (hg:(W.alloc o).grownBy w3 lv.ownBlock) (hl:OwnB (b+1) w3 v' l') (hat:v'.ownBlock=lv.ownBlock∨v'.ownBlock=some (W.alloc o).heap.size) :
  RdPost b lv dv W { c with line:=l' } (w3.setCell ⟨b,1,none⟩ v')∧(∃ u,w3.cell? ⟨b,1,none⟩=some u)∧w3.frozen? ⟨b,1,none⟩=false:=by
 have hc:Ch (λk=>lv.ownBlock=some k) W w3:=(Ch.alloc _ W o).trans (ch_grown hg)
 have hb:¬(lv.ownBlock=some b):=λe=>by have:=h.l.lt b e;omega
 have hsz:W.heap.size≤(W.alloc o).heap.size:=(Ch.alloc (λ_=>False) W o).size
 have hat2:v'.ownBlock=lv.ownBlock∨∀ k,v'.ownBlock=some k→W.heap.size≤k:=by
  rcases hat with e | e
  ·exact .inl e
  ·refine .inr λk hk=>?_
   rw[e] at hk;injection hk with hk;omega
 refine⟨⟨v',dv,h.relined hc hl hat2,?_,λk hk=>?_⟩,⟨lv,(hc.cell (p:=⟨b,1,none⟩) h.lt hb).trans h.c1⟩,(hc.frozen (p:=⟨b,1,none⟩) h.lt hb).trans (h.fz 1)⟩
 ·exact (hc.mono (λk hk=>.inr (.inl hk))).trans (fp_set _ 1 _)
 ·rcases hk with hk | hk | hk
  ·exact .inl (.inl hk)
  ·rcases hat2 with e | e
   ·exact .inl (.inr (.inl (e▸hk)))
   ·exact .inr (e k hk)
  ·exact .inl (.inr (.inr hk))
end
theorem end_any (b:Nat) (c:Ck) (d:UInt8) (lv dv:Value) (W:World) (h:Rd b W c lv dv) (hl:c.line=[]∨c.line=[13]) :
  Calls prog 136 #[.pointer (some ⟨b,0,none⟩),.int .u8 d.toNat] W λe W'=>e=.returned (.tuple #[])∧RdPost b lv dv W (endC c d) W':=by
 obtain⟨i0,hi,hz0,hz1,hz2⟩:=info_parts infoU8
 have h':=hid h
 obtain⟨p,cap,hlv⟩:=ownsRow_slice h.l
 have q1:=h.c1
 have q0:=h.c0
 have z1:=h.fz 1
 have z0:=h.fz 0
 have hbl:=h.lt
 have k0:(⟨#[13,10]⟩:ByteArray)[0]=13:=rfl
 have k1:(⟨#[13,10]⟩:ByteArray)[1]=10:=rfl
 rw[hlv] at q1
 obtain⟨want,hwant⟩:∃ x:UInt8,x=if c.line.isEmpty then 13 else 10:=⟨_,rfl⟩
 by_cases hd:d=want
 ·rcases hl with hl | hl
  ·have hw:want=13:=by rw[hwant,hl];rfl
   have hH:=hid (show endC c d={ c with line:=c.line++[d] } by unfold endC;rw[hl,if_pos (by rw[hd,hw];rfl),if_neg (by rw[hd,hw];decide)])
   have hl':=hid hl
   rw[hl] at q1
   simp only[List.length_nil] at q1
   have n13:((d.toNat:Int) != 13)=false:=by rw[hd,hw];rfl
   have n10:((d.toNat:Int)==10)=false:=by rw[hd,hw];rfl
   have hlv':=hid hlv
   clear hl hw h hlv hwant hd
   go_enter func136,ntmps136
   go_wp2_with (at_builtin;refine wpList_append_own_at _ rfl _ _ 100 rfl (b+1) 5 i0 (.int .u8 0) 1 1 underlying100 hi hz0 hz1 hz2 rfl (by decide) lv c.line.length _ (by show Value.slice p 0 cap=lv;rw[hlv'.out,hl'.out];rfl) (h'.out.l.alloc _) ⟨W.heap.size,0,none⟩ 1 1 [.int .u8 d.toNat] rfl rfl (cell_one_new _ _ _) (by simp[Value.oneCell']) (by rw[hl'.out];decide) (by rw[hl'.out];decide) (by simp;omega) ?_;intro v' w3 hown hgrow _ hat;have hown2:=own_snoc hown;obtain⟨g',cap',hv',_⟩:=OwnB.row hown2 (by simp);rw[show (c.line++[d]).length=c.line.length+1 by simp] at hv';subst hv';obtain⟨hp,⟨u,hu⟩,hz⟩:=h'.out.appended hgrow (l':=c.line++[d]) hown2 hat;have hp':=hid hp;clear hp hown hown2 hgrow hat)
   go_wp2
   go_end0
   exact⟨rfl,by rw[hH.out];exact hp'.out⟩
  ·have hw:want=10:=by rw[hwant,hl];rfl
   have hH:=hid (show endC c d={ c with line:=[],st:=0 } by unfold endC;rw[hl,if_pos (by rw[hd,hw];rfl),if_pos (by rw[hd,hw])])
   rw[hl] at q1
   simp only[List.length_nil,List.length_cons,Nat.zero_add] at q1
   rw[hw] at hd
   subst hd
   clear hl hw h hlv hwant
   go_enter func136,ntmps136
   go_wp2
   go_end0
   refine⟨rfl,?_⟩
   rw[hH.out]
   have hr:=(h'.out.set1 (OwnB.nil _ _) (λk hk=>by cases hk)).set0 0
   exact⟨_,_,hr,(fp_set _ _ _).trans (fp_set _ _ _),fp_nil⟩
 ·have hH:=hid (show endC c d=wrongC c 400 by unfold endC;rw[←hwant,if_neg hd])
  rcases hl with hl | hl
  ·have hw:want=13:=by rw[hwant,hl];rfl
   have hdb:((d.toNat:Int) != 13)=true:=by
    rw[bne_iff_ne];intro e;exact hd (UInt8.toNat_inj.1 (by rw[hw];show d.toNat=13;omega))
   rw[hl] at q1
   simp only[List.length_nil] at q1
   clear hd h hl hlv hw hwant
   go_enter func136,ntmps136
   go_wp2_with fail
   refine (wrong_any b c 400 lv dv _ h'.out).mono ?_
   rintro e w2⟨rfl,hp⟩
   have hp':=hid hp
   clear hp
   go_wp2
   go_end0
   exact⟨rfl,by rw[hH.out];exact hp'.out⟩
  ·have hw:want=10:=by rw[hwant,hl];rfl
   have hdb:((d.toNat:Int) != 10)=true:=by
    rw[bne_iff_ne];intro e;exact hd (UInt8.toNat_inj.1 (by rw[hw];show d.toNat=10;omega))
   rw[hl] at q1
   simp only[List.length_nil,List.length_cons,Nat.zero_add] at q1
   clear hd h hl hlv hw hwant
   go_enter func136,ntmps136
   go_wp2_with fail
   refine (wrong_any b c 400 lv dv _ h'.out).mono ?_
   rintro e w2⟨rfl,hp⟩
   have hp':=hid hp
   clear hp
   go_wp2
   go_end0
   exact⟨rfl,by rw[hH.out];exact hp'.out⟩
theorem new_any (W:World):Calls prog 135 #[] W λe W'=>e=.returned (.pointer (some ⟨W.heap.size,0,none⟩))∧Rd W.heap.size W' ck0 (.slice none 0 0) (.slice none 0 0)∧Gr W W':=by
 go_enter func135,ntmps135
 go_wp2
 refine bodyPost_ret (v:=.pointer (some ⟨W.heap.size,0,none⟩)) (by simp[results,results135,go_sem]) rfl ⟨rfl,?_,Gr.alloc _ _⟩
 exact⟨cell_new7 _ _ _ 0 _ rfl,cell_new7 _ _ _ 1 _ rfl,cell_new7 _ _ _ 2 _ rfl,cell_new7 _ _ _ 3 _ rfl,cell_new7 _ _ _ 4 _ rfl,cell_new7 _ _ _ 5 _ rfl,cell_new7 _ _ _ 6 _ rfl,λo=>World.frozen?_alloc_at _ _ _ _ rfl,OwnB.nil _ _,OwnB.nil _ _,λk hk=>by cases hk⟩
theorem data_any (b:Nat) (c:Ck) (lv dv:Value) (W:World) (h:Rd b W c lv dv) :
  Calls prog 110 #[.pointer (some ⟨b,0,none⟩)] W λe W'=>e=.returned (.string ⟨c.data.toArray⟩)∧W=W':=by
 have hc:=conv_all h.d
 have q3:=h.c3
 clear h
 go_enter func110,ntmps110
 go_wp2
 refine bodyPost_ret (v:=.string ⟨c.data.toArray⟩) (by simp[results,results110,go_sem]) rfl ⟨rfl,rfl⟩
theorem done_any (b:Nat) (c:Ck) (lv dv:Value) (W:World) (h:Rd b W c lv dv) :
  Calls prog 111 #[.pointer (some ⟨b,0,none⟩)] W λe W'=>e=.returned (.bool (decide (c.st=4∧c.bad=0)))∧W=W':=by
 have q0:=h.c0
 have q6:=h.c6
 clear h
 by_cases h4:c.st=4
 ·by_cases h0:c.bad=0
  ·have e4:((c.st:Int)==4)=true:=by rw[beq_iff_eq];omega
   have e0:((c.bad:Int)==0)=true:=by rw[beq_iff_eq];omega
   have hr:=hid (show decide (c.st=4∧c.bad=0)=true by simp[h4,h0])
   clear h4 h0
   go_enter func111,ntmps111
   go_wp2
   refine bodyPost_ret (v:=.bool true) (by simp[results,results111,go_sem]) rfl ⟨by rw[hr.out],rfl⟩
  ·have e4:((c.st:Int)==4)=true:=by rw[beq_iff_eq];omega
   have e0:((c.bad:Int)==0)=false:=beq_eq_false_iff_ne.2 (by omega)
   have hr:=hid (show decide (c.st=4∧c.bad=0)=false by simp[h4,h0])
   clear h4 h0
   go_enter func111,ntmps111
   go_wp2
   refine bodyPost_ret (v:=.bool false) (by simp[results,results111,go_sem]) rfl ⟨by rw[hr.out],rfl⟩
 ·have e4:((c.st:Int)==4)=false:=beq_eq_false_iff_ne.2 (by omega)
  have hr:=hid (show decide (c.st=4∧c.bad=0)=false by simp[h4])
  clear h4
  go_enter func111,ntmps111
  go_wp2
  refine bodyPost_ret (v:=.bool false) (by simp[results,results111,go_sem]) rfl ⟨by rw[hr.out],rfl⟩
theorem bad_any (b:Nat) (c:Ck) (lv dv:Value) (W:World) (h:Rd b W c lv dv) :
  Calls prog 109 #[.pointer (some ⟨b,0,none⟩)] W λe W'=>e=.returned (.int .i64 c.bad)∧W=W':=by
 have q6:=h.c6
 clear h
 go_enter func109,ntmps109
 go_wp2
 refine bodyPost_ret (v:=.int .i64 c.bad) (by simp[results,results109,go_sem]) rfl ⟨rfl,rfl⟩
theorem crB_snoc (L:List UInt8) (x:UInt8):crB (L++[x])=((x.toNat:Int)==13):=by
 unfold crB
 rw[List.getLast?_append,Bool.eq_iff_iff]
 simp only[List.getLast?_singleton,Option.some_or,beq_iff_eq,Option.some.injEq]
 constructor
 ·intro e;rw[e];rfl
 ·intro e;exact UInt8.toNat_inj.1 (by show x.toNat=13;omega)
theorem ten_eq (d:UInt8):((d.toNat:Int)==10)=(d==10):=by
 rw[Bool.eq_iff_iff,beq_iff_eq,beq_iff_eq]
 constructor
 ·intro e;exact UInt8.toNat_inj.1 (by show d.toNat=10;omega)
 ·intro e;rw[e];rfl
