/-
  The laws of sessions: a talk in pieces. (Printed by mk_eu.py.)
-/
import Derived.Test.YtadobobfjnmdlaaGreatDoorEt
import Derived.Laws.StructEq
set_option linter.unnecessarySimpa false
set_option linter.unusedVariables false
set_option linter.unusedSimpArgs false
set_option maxHeartbeats 16000000
set_option maxRecDepth 100000
open Go.Lib (hid)
open Go.Proofs.Tryz
namespace Go.Proofs.YtadobobfjnmdlaaGreatDoor
open Go.RowKit Go.Shelf
attribute [local go_sem] Oper.semAt_some
def IntsAt (W:World) (p:Option Addr) (l:List Int):Prop :=
 ∀ (i:Nat) (h:i<l.length),∃ b off,p=some ⟨b,off,none⟩∧W.cell? ⟨b,off+i,none⟩=some (.int .i64 l[i])
theorem IntsAt.gr {W W':World} {p:Option Addr} {l:List Int} (h:IntsAt W p l) (g:Gr W W'):IntsAt W' p l:=λi hi=>by
 obtain⟨b,off,e,h1⟩:=h i hi
 exact⟨b,off,e,g.cell h1⟩
def strLen:Value→Nat
 | .string s=>s.size
 | _=>0
def CutRel (w:World) (kt kl ks b limit:Nat) (bb:List UInt8) (c:Nat) (i x:Value) (wr:World):Prop :=
 ∃ (j:Nat) (done r:List UInt8) (bs:List (List UInt8)) (T:Nat→Prop) (s:Ss) (t:List UInt8) (l:List (Nat×List UInt8)) (k:Kern),i=.int .i64 j∧x=.string ⟨r.toArray⟩∧bb=done++r∧(bb=[]→bs=[]) ∧
  Tk w kt kl ks b T s t l wr∧Tlk serveH limit done bs s t l k∧Sok s∧SsB done.length s∧RepsB s∧t.length≤j*10000000000000000∧l.length≤j*3100∧(j≤c∨r=[])∧j≤61
theorem Tk.start {w W0 W1:World} {b q limit:Nat} {t9 t24 t32:TypeId} (hW0:W0=(w.alloc (.cells #[.string ⟨#[]⟩] t9)).alloc (.cells #[.slice none 0 0] t24)) (h:SnL w b (New W0 W1) (ss0 q limit) W1) (g:Gr W0 W1) :
  Tk w w.heap.size (w.heap.size+1) W1.heap.size b (New W0 W1) (ss0 q limit) [] [] (W1.alloc (.cells #[.pointer (some ⟨b,0,none⟩)] t32)):=by
 have z:W0.heap.size=w.heap.size+2:=by rw[hW0];simp
 have z1:=Below.size g
 have ga:=Gr.alloc W1 (.cells #[.pointer (some ⟨b,0,none⟩)] t32)
 have c1:W0.cell? ⟨w.heap.size,0,none⟩=some (.string ⟨#[]⟩):=by rw[hW0];simp[go_sem]
 have c2:W0.cell? ⟨w.heap.size+1,0,none⟩=some (.slice none 0 0):=by rw[hW0];simp[go_sem]
 have f1:W0.frozen? ⟨w.heap.size,0,none⟩=false:=by rw[hW0];simp[go_sem]
 have f2:W0.frozen? ⟨w.heap.size+1,0,none⟩=false:=by rw[hW0];simp[go_sem]
 refine⟨h.grow ga,(g.trans ga).cell c1,(Below.frozen (g.trans ga) (p:=⟨w.heap.size,0,none⟩) (by show w.heap.size<_;omega)).trans f1,⟨none,0,(g.trans ga).cell c2,World.ownsRow_nil _ _ _ _,λk e=>by cases e⟩,(Below.frozen (g.trans ga) (p:=⟨w.heap.size+1,0,none⟩) (by show w.heap.size+1<_;omega)).trans f2,cell_new7 W1 [.pointer (some ⟨b,0,none⟩)] t32 0 _ rfl,⟨λe=>?_,λe=>?_,λe=>?_⟩,⟨by omega,by omega,by omega⟩,⟨Nat.le_refl _,by omega,by omega⟩⟩
 ·have:=e.1;omega
 ·have:=e.1;omega
 ·have:=e.2;omega
theorem Tk.fin {w wr:World} {kt kl ks b:Nat} {T:Nat→Prop} {s:Ss} {t:List UInt8} {l:List (Nat×List UInt8)} {pv:Option Addr} {cv:Nat} (h:Tk w kt kl ks b T s t l wr) (hv:wr.cell? ⟨kl,0,none⟩=some (.slice pv l.length cv)) (row:OwnE w.heap.size wr (.slice pv l.length cv) l) :
  (((wr.setCell ⟨kt,0,none⟩ (.string ⟨t.toArray⟩)).setCell ⟨kl,0,none⟩ (.slice pv l.length cv)).drew).cell? ⟨kt,0,none⟩=some (.string ⟨t.toArray⟩) ∧
  (((wr.setCell ⟨kt,0,none⟩ (.string ⟨t.toArray⟩)).setCell ⟨kl,0,none⟩ (.slice pv l.length cv)).drew).cell? ⟨kl,0,none⟩=some (.slice pv l.length cv) ∧
  OwnE w.heap.size (((wr.setCell ⟨kt,0,none⟩ (.string ⟨t.toArray⟩)).setCell ⟨kl,0,none⟩ (.slice pv l.length cv)).drew) (.slice pv l.length cv) l∧Gr w (((wr.setCell ⟨kt,0,none⟩ (.string ⟨t.toArray⟩)).setCell ⟨kl,0,none⟩ (.slice pv l.length cv)).drew):=by
 have c1:Ch (λk=>k=kt) wr (wr.setCell ⟨kt,0,none⟩ (.string ⟨t.toArray⟩)):=Ch.putB wr _
 have c2:Ch (λk=>k=kl) (wr.setCell ⟨kt,0,none⟩ (.string ⟨t.toArray⟩)) ((wr.setCell ⟨kt,0,none⟩ (.string ⟨t.toArray⟩)).setCell ⟨kl,0,none⟩ (.slice pv l.length cv)):=Ch.putB _ _
 have a1:=h.text t
 obtain⟨p,cap,q1,q2,q3⟩:=a1.cl
 have e:(Value.slice p l.length cap)=.slice pv l.length cv:=by
  have hk:=(c1.cell (p:=⟨kl,0,none⟩) (cell_lt hv) (λe=>h.ne.1 e.symm)).trans hv
  rw[q1] at hk
  exact Option.some.inj hk
 rw[e] at q1 q2 q3
 have gd:=Gr.drew' ((wr.setCell ⟨kt,0,none⟩ (.string ⟨t.toArray⟩)).setCell ⟨kl,0,none⟩ (.slice pv l.length cv))
 refine⟨gd.cell ((c2.cell (p:=⟨kt,0,none⟩) (cell_lt a1.ct) h.ne.1).trans a1.ct),gd.cell (World.cell?_setCell_same _ _ _ q1),?_,Gr.trans (Gr.setCell (Gr.setCell h.n.gr (p:=⟨kt,0,none⟩) h.ge.1 _) (p:=⟨kl,0,none⟩) h.ge.2.1 _) gd⟩
 exact (q2.to c2 (λk e=>(q3 k e).2.2.1)).to (gd.to_ch (λ_=>False)) (λ_ _ e=>e)
theorem talk_any {w:World} (hG:G w) (q limit:Nat) (h1:1≤q) (h2:q≤64) (hlim:limit≤5000) (bb:List UInt8) (hb:bb.length≤3000) (p:Option Addr) (cap:Nat) (cuts:List Int) (hI:IntsAt w p cuts) (hc:cuts.length≤60) (hr:∀ x∈cuts,-9223372036854775808≤x∧x≤9223372036854775807) :
  Calls prog 8 #[.int .i64 q,.int .i64 limit,.string ⟨bb.toArray⟩,.slice p cuts.length cap] w λe w'=>∃ bs s t l k v,e=.returned (.tuple #[.string ⟨t.toArray⟩,v,.int .i64 s.st])∧Tlk serveH limit bb bs s t l k∧(bb=[]→bs=[])∧OwnE w.heap.size w' v l∧Gr w w'∧l.length≤1000000:=by
 obtain⟨W0,hW0⟩:∃ W0,(w.alloc (.cells #[.string ⟨#[]⟩] 9)).alloc (.cells #[.slice none 0 0] 24)=W0:=⟨_,rfl⟩
 have g0:Gr w W0:=by rw[←hW0];exact (Gr.alloc _ _).alloc1 _
 have hnw:=hid (lsn_new hG g0 q limit h1 h2 (by omega))
 have hG':=hid hG
 have hI':=hid hI
 have hr':=hid hr
 have hq64:=hid h2
 have hlm:=hid (show limit≤1099511627776 by omega)
 have hb':=hid hb
 have hW0':=hid hW0
 clear hG hI hr h1 h2 hlim hb g0
 go_enter func8,ntmps8
 go_upto_region 1 with (fail)
 try rw[hW0]
 clear hW0
 go_wp2_with fail
 refine hnw.out.mono ?_
 rintro e w1⟨b,rfl,h1,g1⟩
 have hst:=hid (Tk.start (t32:=32) hW0'.out.symm h1 g1)
 clear h1 g1 hnw
 go_upto_region 4 with (fail)
 obtain⟨w2,hw2⟩:∃ w2,w1.alloc (.cells #[.pointer (some ⟨b,0,none⟩)] 32)=w2:=⟨_,rfl⟩
 rw[hw2] at hst
 try rw[hw2]
 obtain⟨kt,hkt⟩:∃ x,w.heap.size=x:=⟨_,rfl⟩
 obtain⟨kl,hkl⟩:∃ x,w.heap.size+1=x:=⟨_,rfl⟩
 obtain⟨ks,hks⟩:∃ x,w1.heap.size=x:=⟨_,rfl⟩
 rw[hkl,hks] at hst
 try rw[hkl]
 try rw[hks]
 have hst1:=hid (show ∃ T,Tk w kt kl ks b T (ss0 q limit) [] [] w2 from⟨_,hkt▸hst.out⟩)
 try rw[hkt]
 clear hst hkt hkl hks hw2
 go_upto_region 6 with (fail)
 go_loopw [14,2] (λi x wr=>CutRel w kt kl ks b limit bb cuts.length i x wr) (λi x _=>(cuts.length - (intOf i).toNat)+strLen x)
 case atStart =>
  obtain⟨T,hT⟩:=hst1.out
  exact⟨0,[],bb,[],T,_,_,_,_,rfl,rfl,rfl,λ_=>rfl,hT,Tlk.start q,sok0 hq64.out,ss0_b hlm.out,repsB_new _ _,Nat.zero_le _,Nat.zero_le _,.inl (Nat.zero_le _),Nat.zero_le _⟩
 case round =>
  clear hst1
  obtain⟨j,done,r,bs,T,s,t,l,k,rfl,rfl,hbb,hnil,hk,htl,hS,hB,hR,ht,hl,hj,hj61⟩:=hrel
  have hdl:=hid (show done.length+r.length≤3000 by have:=hb'.out;rw[hbb,List.length_append] at this;exact this)
  cases r with
  | nil =>
   have cs:=hk.cs
   have ct:=hk.ct
   have ft:=hk.ft
   obtain⟨pv,cv,cl,row,_⟩:=hk.cl
   have fl:=hk.fl
   have htl':=hid (show Tlk serveH limit bb bs s t l k by rw[hbb,List.append_nil];exact htl)
   have hnil':=hid hnil
   have row':=hid row
   have hk':=hid hk
   have hst9:=hid (sn_state (hk.n.grow (Gr.drew' _)).at')
   have nkl:kt≠kl:=hk.ne.1
   have hlb:=hid (show l.length≤1000000 by omega)
   have hfin:=hid (hk.fin cl row)
   obtain⟨e8,e9,_,_⟩:=hk.fin cl row
   clear hk row htl hS hB hR ht hl hj hj61 hnil hbb hdl
   go_upto_region 14 with (fail)
   go_region_with (first
    |(go_at_call 20;refine hst9.out.mono ?_;rintro e w3 ⟨rfl,rfl⟩))
   all_goals
    go_wp2
    exact bodyPost_ret (v:=.tuple #[.string ⟨t.toArray⟩,.slice pv l.length cv,.int .i64 s.st]) (by simp[results,results8,go_sem,e8,e9]) rfl ⟨bs,s,t,l,k,_,rfl,htl'.out,hnil'.out,hfin.out.2.2.1,hfin.out.2.2.2,hlb.out⟩
  | cons r0 r1 =>
   obtain⟨r,hrr⟩:∃ r,r0 :: r1=r:=⟨_,rfl⟩
   rw[hrr] at hbb hj hdl ⊢
   have hr0:0<r.length:=by rw[←hrr];simp
   have hrN:¬r=[]:=λe=>by rw[e] at hr0;cases hr0
   have hr0I:(0:Int)<r.length:=by omega
   have hjc:j≤cuts.length:=hj.resolve_right hrN
   have hrl:r.length≤3000:=by have:=hdl.out;omega
   clear hrr hj r0 r1
   have hk':=hid hk
   have hS':=hid hS
   have hB':=hid hB
   have hR':=hid hR
   have htl':=hid htl
   have hbb':=hid hbb
   have ht':=hid ht
   have hl':=hid hl
   have cs:=hk.cs
   by_cases hlt:j<cuts.length
   ·have hltI:(j:Int)<cuts.length:=by omega
    obtain⟨cb,off,hpp,c0⟩:=(hI'.out.gr hk.n.gr) j hlt
    have hcr:=hr'.out _ (List.getElem_mem hlt)
    obtain⟨cj,hcj⟩:∃ x,cuts[j]=x:=⟨_,rfl⟩
    rw[hcj] at c0 hcr
    have htn:=λW=>turn_any cj (r.length+1) W (by omega) (by omega) hcr.1 hcr.2
    rw[show (((r.length+1:Nat)):Int)=(r.length:Int)+1 by omega] at htn
    have htn:=hid htn
    have hw:IntKind.i64.wrap ((r.length:Int)+1)=(r.length:Int)+1:=IntWalk.i64_in _ (by omega)
    subst hpp
    clear hk hS hB hR htl hbb ht hl hcj hcr hnil cs
    go_wp2_with fail
    refine (htn.out _).mono ?_
    rintro e w3⟨⟨kk,rfl,hkk⟩,rfl⟩
    have hkr:kk≤r.length:=by omega
    have hmz:=hid (show cuts.length - (j+1)+(r.length - kk)<cuts.length - j+r.length by omega)
    have hnext:=hid (show ∀ x2:List UInt8,x2=r.drop kk→j+1≤cuts.length∨x2=[] from λ_ _=>.inl hlt)
    clear hw htn hkk c0
    go_upto_region 11 with (fail)
    have hkI:(kk:Int)≤r.length:=by omega
    obtain⟨x1,hx1d⟩:∃ x,r.take kk=x:=⟨_,rfl⟩
    obtain⟨x2,hx2d⟩:∃ x,r.drop kk=x:=⟨_,rfl⟩
    have hx1:(⟨r.toArray⟩:ByteArray).extract 0 kk=⟨x1.toArray⟩:=by rw[extract_mk,←hx1d];simp
    have hx2:(⟨r.toArray⟩:ByteArray).extract kk r.length=⟨x2.toArray⟩:=by rw[extract_mk,←hx2d];simp
    have hrx:r=x1++x2:=by rw[←hx1d,←hx2d,List.take_append_drop]
    have hl1:x1.length=kk:=by rw[←hx1d,List.length_take];omega
    have hl2:=hid (show x2.length=r.length - kk by rw[←hx2d,List.length_drop])
    obtain⟨t2,l2,k2,m,s2,hrun,hm,htl2⟩:=htl'.out.more x1
    have hnn:done.length+x1.length≤3000:=by have:=hdl.out;omega
    obtain⟨i1,i2,i3,i4,i5⟩:=hrun.keeps (n:=done.length+x1.length) (by omega) (hS'.out.feed x1) (hB'.out.feed x1) (hR'.out.feed x1)
    have i4':t2.length≤10000000000000000:=by omega
    have i5':l2.length≤3100:=by omega
    have htt:(t++t2).length≤(j+1)*10000000000000000:=by have:=ht'.out;rw[List.length_append];omega
    have hll:(l++l2).length≤(j+1)*3100:=by have:=hl'.out;rw[List.length_append];omega
    have htk:=hid (λT W (h:Tk w kt kl ks b T (ssFeed s x1) t l W)=>talk1_any hG'.out h (hS'.out.feed x1) (hB'.out.feed x1) (by omega) hrun (by omega) (by omega) (by omega))
    have hfd:=hid (lsn_feed (hk'.out.grow (Gr.drew' _)).n hB'.out hS'.out x1 (by omega))
    have hrel:=hid (λT W (h:Tk w kt kl ks b T s2 (t++t2) (l++l2) W)=>(show CutRel w kt kl ks b limit bb cuts.length (.int .i64 ((j+1:Nat):Int)) (.string ⟨x2.toArray⟩) W from
     ⟨j+1,done++x1,x2,bs++[x1],T,s2,_,_,k2,rfl,rfl,by rw[hbb'.out,hrx,List.append_assoc],λe=>by rw[hbb'.out] at e;have:=(List.append_eq_nil_iff.1 e).2;exact absurd this hrN,h,htl2,i1,by rw[List.length_append];exact i2,i3,htt,hll,hnext.out x2 hx2d.symm,by omega⟩))
    have cs:=(hk'.out.grow (Gr.drew' _)).cs
    clear hrun hm htl2 i1 i2 i3 i4 i5 i4' i5' htt hll hx1d hx2d hrx hS' hB' hR' htl' hbb' ht' hl' hnn hnext hrN hl1
    go_region_with (first
     |(go_at_call 12;refine hfd.out.mono ?_;rintro e w4 ⟨rfl,hp4⟩;have hp4':=hid hp4;clear hp4))
    all_goals
     obtain⟨T4,h4⟩:=(hk'.out.grow (Gr.drew' _)).ln hp4'.out
     have h4':=hid h4
     clear h4 cs
     go_upto_region 13 with (fail)
     go_wp2_with fail
     refine (htk.out _ _ h4'.out).mono ?_
     rintro e w5⟨rfl,T5,h5⟩
     have h5':=hid h5
     clear h5
     go_wp2
     go_roundw
     case rel=>exact hrel.out _ _ h5'.out
     case measure =>
      have:=hmz.out
      have:=hl2.out
      simp[intOf,strLen,size_mk];omega
   ·have hltI:¬(j:Int)<cuts.length:=by omega
    obtain⟨kk,hkk⟩:∃ kk,r.length=kk:=⟨_,rfl⟩
    have hkr:kk≤r.length:=by omega
    have hmz:=hid (show cuts.length - (j+1)+(r.length - kk)<cuts.length - j+r.length by omega)
    have hnext:=hid (show ∀ x2:List UInt8,x2=r.drop kk→j+1≤cuts.length∨x2=[] from λx2 e=>.inr (by rw[e,←hkk];exact List.drop_length))
    have hkk':=hid hkk
    clear hk hS hB hR htl hbb ht hl hnil cs hkk
    go_upto_region 11 with (fail)
    rw[hkk'.out]
    clear hkk'
    have hkI:(kk:Int)≤r.length:=by omega
    obtain⟨x1,hx1d⟩:∃ x,r.take kk=x:=⟨_,rfl⟩
    obtain⟨x2,hx2d⟩:∃ x,r.drop kk=x:=⟨_,rfl⟩
    have hx1:(⟨r.toArray⟩:ByteArray).extract 0 kk=⟨x1.toArray⟩:=by rw[extract_mk,←hx1d];simp
    have hx2:(⟨r.toArray⟩:ByteArray).extract kk r.length=⟨x2.toArray⟩:=by rw[extract_mk,←hx2d];simp
    have hrx:r=x1++x2:=by rw[←hx1d,←hx2d,List.take_append_drop]
    have hl1:x1.length=kk:=by rw[←hx1d,List.length_take];omega
    have hl2:=hid (show x2.length=r.length - kk by rw[←hx2d,List.length_drop])
    obtain⟨t2,l2,k2,m,s2,hrun,hm,htl2⟩:=htl'.out.more x1
    have hnn:done.length+x1.length≤3000:=by have:=hdl.out;omega
    obtain⟨i1,i2,i3,i4,i5⟩:=hrun.keeps (n:=done.length+x1.length) (by omega) (hS'.out.feed x1) (hB'.out.feed x1) (hR'.out.feed x1)
    have i4':t2.length≤10000000000000000:=by omega
    have i5':l2.length≤3100:=by omega
    have htt:(t++t2).length≤(j+1)*10000000000000000:=by have:=ht'.out;rw[List.length_append];omega
    have hll:(l++l2).length≤(j+1)*3100:=by have:=hl'.out;rw[List.length_append];omega
    have htk:=hid (λT W (h:Tk w kt kl ks b T (ssFeed s x1) t l W)=>talk1_any hG'.out h (hS'.out.feed x1) (hB'.out.feed x1) (by omega) hrun (by omega) (by omega) (by omega))
    have hfd:=hid (lsn_feed (hk'.out.grow (Gr.drew' _)).n hB'.out hS'.out x1 (by omega))
    have hrel:=hid (λT W (h:Tk w kt kl ks b T s2 (t++t2) (l++l2) W)=>(show CutRel w kt kl ks b limit bb cuts.length (.int .i64 ((j+1:Nat):Int)) (.string ⟨x2.toArray⟩) W from
     ⟨j+1,done++x1,x2,bs++[x1],T,s2,_,_,k2,rfl,rfl,by rw[hbb'.out,hrx,List.append_assoc],λe=>by rw[hbb'.out] at e;have:=(List.append_eq_nil_iff.1 e).2;exact absurd this hrN,h,htl2,i1,by rw[List.length_append];exact i2,i3,htt,hll,hnext.out x2 hx2d.symm,by omega⟩))
    have cs:=(hk'.out.grow (Gr.drew' _)).cs
    clear hrun hm htl2 i1 i2 i3 i4 i5 i4' i5' htt hll hx1d hx2d hrx hS' hB' hR' htl' hbb' ht' hl' hnn hnext hrN hl1
    go_region_with (first
     |(go_at_call 12;refine hfd.out.mono ?_;rintro e w4 ⟨rfl,hp4⟩;have hp4':=hid hp4;clear hp4))
    all_goals
     obtain⟨T4,h4⟩:=(hk'.out.grow (Gr.drew' _)).ln hp4'.out
     have h4':=hid h4
     clear h4 cs
     go_upto_region 13 with (fail)
     go_wp2_with fail
     refine (htk.out _ _ h4'.out).mono ?_
     rintro e w5⟨rfl,T5,h5⟩
     have h5':=hid h5
     clear h5
     go_wp2
     go_roundw
     case rel=>exact hrel.out _ _ h5'.out
     case measure =>
      have:=hmz.out
      have:=hl2.out
      simp[intOf,strLen,size_mk];omega
end Go.Proofs.YtadobobfjnmdlaaGreatDoor
namespace Go.Proofs.YtadobobfjnmdlaaGreatDoor
open Go.RowKit Go.Lib
section
open Go.ChangeShapes Go.WideShapes Go.Deep
variable {H:Type} {enc:TypeId×Value→H}
theorem ints_of {W:World} {base:Nat} {v:Value} {d:DataW H} {p:List MemPlace} (hv:Value.okWide prog W .any base 22 v) (h:DataW.Trod enc prog W 0 (λ_=>true) true 22 v d p) :
  ∃ (l:List Int) (pa:Option Addr) (cap:Nat),v=.slice pa l.length cap∧(IntsAt W pa l∧∀ x∈l,-9223372036854775808≤x∧x≤9223372036854775807)∧l.length≤9223372036854775807:=by
 obtain⟨a0,len0,cap0,rfl⟩:=okWide_slice underlying22 hv
 obtain⟨fuel,hf⟩:=h
 rcases DataW.trod_slice underlying22 hf with⟨h0,_⟩ | ⟨a,len,cap,elems,rest,n,_,h0,_,_,hl,hm,hlen,hel,_,_⟩
 ·rw[show (Value.slice a0 len0 cap0).cells.toList=[.slice a0 len0 cap0] from rfl,List.cons.injEq,Value.slice.injEq] at h0
  obtain⟨⟨rfl,rfl,rfl⟩,_⟩:=h0
  exact⟨[],none,0,rfl,⟨λi hi=>absurd hi (Nat.not_lt_zero _),λx hx=>by cases hx⟩,by simp⟩
 ·rw[show (Value.slice a0 len0 cap0).cells.toList=[.slice a0 len0 cap0] from rfl,List.cons.injEq,Value.slice.injEq] at h0
  obtain⟨⟨rfl,rfl,rfl⟩,_⟩:=h0
  have hcb:prog.cellsOf 3=1:=by kernel_rfl
  have key:∀ i:Fin len0,∃ s:Int,W.cell? (a.add i.1)=some (.int .i64 s)∧-9223372036854775808≤s∧s≤9223372036854775807:=λi=>by
   have hx:=hel i.1 i.2
   rw[List.getElem?_eq_getElem (by omega),hcb,Nat.mul_one,Option.bind_eq_some_iff] at hx
   obtain⟨cs',hcs,hy'⟩:=hx
   obtain⟨z,e,_,w0⟩:=DataW.trod_int underlying3 hy'
   subst e
   have hb:-9223372036854775808≤z∧z≤9223372036854775807:=by simpa[Lit.wf,IntKind.min,IntKind.max,IntKind.signed,IntKind.bits] using w0
   exact⟨z,cell_of_cells?_one hcs,hb⟩
  let g:Fin len0→Int:=λi=>Classical.choose (key i)
  have hg:∀ i,W.cell? (a.add i.1)=some (.int .i64 (g i))∧-9223372036854775808≤g i∧g i≤9223372036854775807:=λi=>Classical.choose_spec (key i)
  refine⟨List.ofFn g,some a,cap0,by simp,⟨λi hi=>?_,λx hx=>?_⟩,by simp;unfold maxLen at hm;omega⟩
  ·have hi':i<len0:=by simpa using hi
   have h0:=(hg ⟨i,hi'⟩).1
   have hx0:=(hg ⟨0,by omega⟩).1
   have hgi:(List.ofFn g)[i]'hi=g ⟨i,hi'⟩:=by simp
   rw[hgi]
   obtain⟨b,off,spot⟩:=a
   rw[show (⟨b,off,spot⟩:Addr).add ((⟨0,by omega⟩:Fin len0).1)=⟨b,off,spot⟩ from rfl] at hx0
   have hsp:spot=none:=by
    unfold World.cell? at hx0
    split at hx0
    ·cases spot with
     | none=>rfl
     | some y=>simp at hx0
    ·cases hx0
   subst hsp
   have had:∀ n,(⟨b,off,none⟩:Addr).add n=⟨b,off+n,none⟩:=λn=>by
    unfold Addr.add
    by_cases h:n=0
    ·subst h;rfl
    ·simp[h]
   rw[had] at h0
   exact⟨b,off,rfl,h0⟩
  ·obtain⟨i,rfl⟩:=List.mem_ofFn.1 hx
   exact (hg i).2
end
end Go.Proofs.YtadobobfjnmdlaaGreatDoor
namespace Go.Proofs.YtadobobfjnmdlaaGreatDoor
open Go.RowKit Go.Shelf
attribute [local go_sem] Oper.semAt_some
theorem frm_mask:maskF 9 [120]=frmL:=by kernel_rfl
theorem get_home:getB' [47]=getL:=by kernel_rfl
theorem wk_ok:Sok wkS1∧Sok wkS2∧Sok wkS3∧Sok wkS4∧Sok wkS5∧Sok wkS6∧Sok wkS7:=by
 have h0:=sok0 (q:=2) (limit:=100) (by decide)
 have h1:=h0.feed wakeL
 rw[wake_feed] at h1
 have h2:=h1.next (H:=serveH)
 rw[wake_next1] at h2
 have h3:=h2.next (H:=serveH)
 rw[wake_next2] at h3
 have h4:=h3.next (H:=serveH)
 rw[wake_next3] at h4
 have h5:=h4.out
 rw[wake_out1] at h5
 have h6:=h5.out
 rw[wake_out2] at h6
 have h7:=h6.out
 rw[wake_out3] at h7
 exact⟨h1,h2,h3,h4,h5,h6,h7⟩
theorem wake_len:wakeL.length≤1000:=by decide +kernel
theorem wk_b:SsB 1000 wkS1∧SsB 1000 wkS2∧SsB 1000 wkS3∧SsB 1000 wkS4∧SsB 1000 wkS5∧SsB 1000 wkS6∧SsB 1000 wkS7:=by
 have h0:=ss0_b (q:=2) (limit:=100) (by decide)
 have h1:=(h0.feed wakeL).le (m:=1000) (by rw[Nat.zero_add];exact wake_len)
 rw[wake_feed] at h1
 have h2:=h1.next (H:=serveH)
 rw[wake_next1] at h2
 have h3:=h2.next (H:=serveH)
 rw[wake_next2] at h3
 have h4:=h3.next (H:=serveH)
 rw[wake_next3] at h4
 have h5:=h4.out
 rw[wake_out1] at h5
 have h6:=h5.out
 rw[wake_out2] at h6
 have h7:=h6.out
 rw[wake_out3] at h7
 exact⟨h1,h2,h3,h4,h5,h6,h7⟩
section
variable {w:World} {b:Nat} {T:Nat→Prop} {W:World}
theorem wk_next1 (h:SnL w b T wkS1 W) (hG:G w):Calls prog 13 #[.pointer (some ⟨b,0,none⟩)] W λe w'=>e=.returned (.tuple #[.agg #[.int .i64 3,.int .i64 0,.string ⟨#[]⟩],.bool true])∧LnPost w b T W wkS2 w':=by
 have:=lsn_next h hG wk_b.1 wk_ok.1 (by decide)
 rw[wake_next1] at this
 exact this
theorem wk_next2 (h:SnL w b T wkS2 W) (hG:G w):Calls prog 13 #[.pointer (some ⟨b,0,none⟩)] W λe w'=>e=.returned (.tuple #[.agg #[.int .i64 1,.int .i64 0,.string ⟨#[]⟩],.bool true])∧LnPost w b T W wkS3 w':=by
 have:=lsn_next h hG wk_b.2.1 wk_ok.2.1 (by decide)
 rw[wake_next2] at this
 exact this
theorem wk_next3 (h:SnL w b T wkS3 W) (hG:G w):Calls prog 13 #[.pointer (some ⟨b,0,none⟩)] W λe w'=>e=.returned (.tuple #[.agg #[.int .i64 3,.int .i64 0,.string ⟨#[]⟩],.bool true])∧LnPost w b T W wkS4 w':=by
 have:=lsn_next h hG wk_b.2.2.1 wk_ok.2.2.1 (by decide)
 rw[wake_next3] at this
 exact this
theorem wk_out1 (h:SnL w b T wkS4 W):Calls prog 14 #[.pointer (some ⟨b,0,none⟩)] W λe w'=>e=.returned (.tuple #[.string ⟨homeL.toArray⟩,.bool false,.bool true])∧LnPost w b T W wkS5 w':=by
 have:=lsn_out h wk_b.2.2.2.1 wk_ok.2.2.2.1 (by decide)
 rw[wake_out1] at this
 exact this
theorem wk_out2 (h:SnL w b T wkS5 W):Calls prog 14 #[.pointer (some ⟨b,0,none⟩)] W λe w'=>e=.returned (.tuple #[.string ⟨toldL.toArray⟩,.bool false,.bool true])∧LnPost w b T W wkS6 w':=by
 have:=lsn_out h wk_b.2.2.2.2.1 wk_ok.2.2.2.2.1 (by decide)
 rw[wake_out2] at this
 exact this
theorem wk_out3 (h:SnL w b T wkS6 W):Calls prog 14 #[.pointer (some ⟨b,0,none⟩)] W λe w'=>e=.returned (.tuple #[.string ⟨#[138,1,120]⟩,.bool false,.bool true])∧LnPost w b T W wkS7 w':=by
 have:=lsn_out h wk_b.2.2.2.2.2.1 wk_ok.2.2.2.2.2.1 (by decide)
 rw[wake_out3] at this
 exact this
end
theorem wakes28_any (w:World) (hG:G w):Calls prog 7 #[] w λe w'=>e=.returned (.bool true)∧Gr w w':=by
 have hG':=hid hG
 have hnw:=hid (lsn_new hG (Gr.refl w) 2 100 (by decide) (by decide) (by decide))
 have hget:=hid (λW=>lget_any [47] (by decide) W)
 have hfr:=hid (λW=>lframe_any 9 [120] W (by decide) (by decide))
 rw[frm_mask] at hfr
 rw[get_home] at hget
 have hgl:getL.length≤1000:=by decide +kernel
 have hal:askL.length≤1000:=by decide +kernel
 have hfl:frmL.length≤1000:=by decide +kernel
 have c1:(⟨getL.toArray⟩:ByteArray)++⟨askL.toArray⟩=⟨(getL++askL).toArray⟩:=cat_mk _ _
 have c2:(⟨(getL++askL).toArray⟩:ByteArray)++⟨frmL.toArray⟩=⟨wakeL.toArray⟩:=by
  refine (cat_mk _ _).trans ?_
  rw[List.append_assoc];rfl
 have hask:=hid (λW=>lask_any W)
 have htold:=hid (λW=>ltold_any W)
 have hfeed:=hid (λb T W (h:SnL w b T (ss0 2 100) W)=>lsn_feed h (ss0_b (q:=2) (limit:=100) (by decide)) (sok0 (by decide)) wakeL (by have:=wake_len;omega))
 rw[wake_feed] at hfeed
 have hho:homeL=[72,84,84,80,47,49,46,49,32,50,48,48,32,79,75,13,10,67,111,110,116,101,110,116,45,76,101,110,103,116,104,58,32,52,13,10,13,10,104,111,109,101]:=rfl
 have hho':=hid hho
 obtain⟨gl,egl⟩:∃ x,getL=x:=⟨_,rfl⟩
 obtain⟨al,eal⟩:∃ x,askL=x:=⟨_,rfl⟩
 obtain⟨fl,efl⟩:∃ x,frmL=x:=⟨_,rfl⟩
 obtain⟨wl,ewl⟩:∃ x,wakeL=x:=⟨_,rfl⟩
 obtain⟨tl,etl⟩:∃ x,toldL=x:=⟨_,rfl⟩
 rw[egl] at hget c1 c2 hgl
 rw[eal] at hask c1 c2 hal
 rw[efl] at hfr c2 hfl
 rw[ewl] at hfeed c2
 rw[etl] at htold
 have etl':=hid etl
 have hn1:¬9223372036854775807<gl.length+al.length:=by omega
 have hn2:¬9223372036854775807<gl.length+al.length+fl.length:=by omega
 clear hG hho egl eal efl ewl hgl hal hfl etl
 go_enter func7,ntmps7
 go_wp2_with fail
 refine hnw.out.mono ?_
 rintro e w1⟨b,rfl,h1,g1⟩
 have h1':=hid h1
 clear h1 g1 hnw
 go_wp2_with fail
 refine (hget.out _).mono ?_
 rintro e w2⟨rfl,rfl⟩
 go_wp2_with fail
 refine (hask.out _).mono ?_
 rintro e w2⟨rfl,rfl⟩
 go_wp2_with fail
 refine (hfr.out _).mono ?_
 rintro e w2⟨rfl,g2⟩
 have h2':=hid (h1'.out.grow g2)
 clear g2 h1' hget hask hfr
 go_wp2_with fail
 refine (hfeed.out _ _ _ h2'.out).mono ?_
 rintro e w3⟨rfl,T3,h3,_,_⟩
 have h3':=hid h3
 clear h3 h2' hfeed c1 c2 hn1 hn2
 go_wp2_with fail
 refine (wk_next1 h3'.out hG'.out).mono ?_
 rintro e w4⟨rfl,T4,h4,c4,n4⟩
 go_upto_region 6 with (fail)
 obtain⟨v1,hv1⟩:∃ v,w4.alloc (.cells #[.int .i64 3,.int .i64 0,.string ⟨#[]⟩] 28)=v:=⟨_,rfl⟩
 try rw[hv1]
 have gv1:Gr w4 v1:=hv1▸Gr.alloc w4 _
 have x1:v1.cell? ⟨w4.heap.size,0,none⟩=some (.int .i64 3):=by rw[←hv1];exact cell_new7 _ _ _ 0 _ rfl
 have a1:¬T4 w4.heap.size:=λe=>absurd (h4.lt _ e) (Nat.lt_irrefl _)
 have z1:w4.heap.size<v1.heap.size:=by rw[←hv1];simp
 have hv1':=hid (h4.grow gv1)
 clear h4 c4 n4 gv1 hv1 h3'
 go_wp2_with fail
 refine (wk_next2 hv1'.out hG'.out).mono ?_
 rintro e w5⟨rfl,T5,h5,c5,n5⟩
 replace x1:=(c5.cell (p:=⟨w4.heap.size,0,none⟩) (cell_lt x1) a1).trans x1
 replace a1:=n5 _ z1 a1
 replace z1:=Nat.lt_of_lt_of_le z1 c5.size
 go_upto_region 7 with (fail)
 obtain⟨v2,hv2⟩:∃ v,w5.alloc (.cells #[.int .i64 1,.int .i64 0,.string ⟨#[]⟩] 28)=v:=⟨_,rfl⟩
 try rw[hv2]
 have gv2:Gr w5 v2:=hv2▸Gr.alloc w5 _
 have x2:v2.cell? ⟨w5.heap.size,0,none⟩=some (.int .i64 1):=by rw[←hv2];exact cell_new7 _ _ _ 0 _ rfl
 have a2:¬T5 w5.heap.size:=λe=>absurd (h5.lt _ e) (Nat.lt_irrefl _)
 have z2:w5.heap.size<v2.heap.size:=by rw[←hv2];simp
 replace x1:=gv2.cell x1
 replace z1:=Nat.lt_of_lt_of_le z1 (Below.size gv2)
 have hv2':=hid (h5.grow gv2)
 clear h5 c5 n5 gv2 hv2 hv1'
 go_wp2_with fail
 refine (wk_next3 hv2'.out hG'.out).mono ?_
 rintro e w6⟨rfl,T6,h6,c6,n6⟩
 replace x1:=(c6.cell (p:=⟨w4.heap.size,0,none⟩) (cell_lt x1) a1).trans x1
 replace a1:=n6 _ z1 a1
 replace z1:=Nat.lt_of_lt_of_le z1 c6.size
 replace x2:=(c6.cell (p:=⟨w5.heap.size,0,none⟩) (cell_lt x2) a2).trans x2
 replace a2:=n6 _ z2 a2
 replace z2:=Nat.lt_of_lt_of_le z2 c6.size
 go_upto_region 8 with (fail)
 obtain⟨v3,hv3⟩:∃ v,w6.alloc (.cells #[.int .i64 3,.int .i64 0,.string ⟨#[]⟩] 28)=v:=⟨_,rfl⟩
 try rw[hv3]
 have gv3:Gr w6 v3:=hv3▸Gr.alloc w6 _
 have x3:v3.cell? ⟨w6.heap.size,0,none⟩=some (.int .i64 3):=by rw[←hv3];exact cell_new7 _ _ _ 0 _ rfl
 have a3:¬T6 w6.heap.size:=λe=>absurd (h6.lt _ e) (Nat.lt_irrefl _)
 have z3:w6.heap.size<v3.heap.size:=by rw[←hv3];simp
 replace x1:=gv3.cell x1
 replace z1:=Nat.lt_of_lt_of_le z1 (Below.size gv3)
 replace x2:=gv3.cell x2
 replace z2:=Nat.lt_of_lt_of_le z2 (Below.size gv3)
 have hv3':=hid (h6.grow gv3)
 clear h6 c6 n6 gv3 hv3 hv2'
 have hhr:=hid (sn_hears hv3'.out.at' (sok_some wk_ok.2.2.2.1))
 rw[wake_hears] at hhr
 go_wp2_with fail
 refine hhr.out.mono ?_
 rintro e w7⟨rfl,rfl⟩
 clear hhr
 go_wp2_with fail
 refine (wk_out1 hv3'.out).mono ?_
 rintro e w7⟨rfl,T7,h7,c7,n7⟩
 replace x1:=(c7.cell (p:=⟨w4.heap.size,0,none⟩) (cell_lt x1) a1).trans x1
 replace a1:=n7 _ z1 a1
 replace z1:=Nat.lt_of_lt_of_le z1 c7.size
 replace x2:=(c7.cell (p:=⟨w5.heap.size,0,none⟩) (cell_lt x2) a2).trans x2
 replace a2:=n7 _ z2 a2
 replace z2:=Nat.lt_of_lt_of_le z2 c7.size
 replace x3:=(c7.cell (p:=⟨w6.heap.size,0,none⟩) (cell_lt x3) a3).trans x3
 replace a3:=n7 _ z3 a3
 replace z3:=Nat.lt_of_lt_of_le z3 c7.size
 have ho1':=hid h7
 clear h7 c7 n7 hv3'
 go_wp2_with fail
 refine (wk_out2 ho1'.out).mono ?_
 rintro e w8⟨rfl,T8,h8,c8,n8⟩
 replace x1:=(c8.cell (p:=⟨w4.heap.size,0,none⟩) (cell_lt x1) a1).trans x1
 replace a1:=n8 _ z1 a1
 replace z1:=Nat.lt_of_lt_of_le z1 c8.size
 replace x2:=(c8.cell (p:=⟨w5.heap.size,0,none⟩) (cell_lt x2) a2).trans x2
 replace a2:=n8 _ z2 a2
 replace z2:=Nat.lt_of_lt_of_le z2 c8.size
 replace x3:=(c8.cell (p:=⟨w6.heap.size,0,none⟩) (cell_lt x3) a3).trans x3
 replace a3:=n8 _ z3 a3
 replace z3:=Nat.lt_of_lt_of_le z3 c8.size
 have ho2':=hid h8
 clear h8 c8 n8 ho1'
 go_wp2_with fail
 refine (wk_out3 ho2'.out).mono ?_
 rintro e w9⟨rfl,T9,h9,c9,n9⟩
 replace x1:=(c9.cell (p:=⟨w4.heap.size,0,none⟩) (cell_lt x1) a1).trans x1
 replace a1:=n9 _ z1 a1
 replace z1:=Nat.lt_of_lt_of_le z1 c9.size
 replace x2:=(c9.cell (p:=⟨w5.heap.size,0,none⟩) (cell_lt x2) a2).trans x2
 replace a2:=n9 _ z2 a2
 replace z2:=Nat.lt_of_lt_of_le z2 c9.size
 replace x3:=(c9.cell (p:=⟨w6.heap.size,0,none⟩) (cell_lt x3) a3).trans x3
 replace a3:=n9 _ z3 a3
 replace z3:=Nat.lt_of_lt_of_le z3 c9.size
 have ho3':=hid h9
 clear h9 c9 n9 ho2'
 have hwt:=hid (sn_waits ho3'.out.at')
 rw[wake_waits] at hwt
 rw[hho'.out]
 go_wp2_with fail
 refine (htold.out _).mono ?_
 rintro e w10⟨rfl,rfl⟩
 go_wp2_with fail
 refine hwt.out.mono ?_
 rintro e w10⟨rfl,rfl⟩
 go_wp2
 go_ret
 exact⟨rfl,ho3'.out.gr⟩
theorem eventEq (w:World) (op:Int) (x:List UInt8):(Op.equalIn 10000 28 (.agg #[.int .i64 2,.int .i64 op,.string ⟨x.toArray⟩]) (.agg #[.int .i64 2,.int .i64 op,.string ⟨x.toArray⟩])).run prog w=.ok true w:=by
 have ht:prog.underlying 28=some (.struct (prog.fieldsOf 28)):=by kernel_rfl
 have hp:prog.stoodInHeld 28=false:=by kernel_rfl
 have hfo:(prog.fieldsOf 28).toList.map (λf=>(decide (f.name = "_"),f.type,f.offset))=[(false,3,0),(false,3,1),(false,9,2)]:=by kernel_rfl
 rw[run_equalIn_agg w 9999 _ _ _ ht hp]
 generalize (prog.fieldsOf 28).toList=l at hfo
 have hl:l.length=3:=by simpa using congrArg List.length hfo
 match l,hl,hfo with
 | [f0,f1,f2],_,h =>
  simp only[List.map_cons,List.map_nil,List.cons.injEq,Prod.mk.injEq,decide_eq_false_iff_not,and_true] at h
  obtain⟨⟨n0,t0,o0⟩,⟨n1,t1,o1⟩,n2,t2,o2⟩:=h
  simp[Op.eqFields,n0,n1,n2,t0,t1,t2,o0,o1,o2,go_sem]
theorem OwnE.at {B:Nat} {W:World} {v:Value} {l:List (Nat×List UInt8)} (h:OwnE B W v l) {n:Nat} (hn:n<l.length) :
  ∃ g off cap,v=.slice (some ⟨g,off,none⟩) l.length cap∧W.cell? ⟨g,off+n*3,none⟩=some (.int .i64 2)∧W.cell? ⟨g,off+n*3+1,none⟩=some (.int .i64 l[n].1)∧W.cell? ⟨g,off+n*3+2,none⟩=some (.string ⟨l[n].2.toArray⟩):=by
 obtain⟨g,cap,e,_,_,hc⟩:=ownsRow_cell h (by omega)
 have hk:∀ x,(evL x).length=3:=λ_=>rfl
 have h0:=hc (n*3+0) (by omega)
 have h1:=hc (n*3+1) (by omega)
 have h2:=hc (n*3+2) (by omega)
 rw[rcells_get hk _ _ _ hn (by decide)] at h0 h1 h2
 rw[Nat.add_zero] at h0
 exact⟨g,0,cap,e,by rw[Nat.zero_add];exact h0,by rw[Nat.zero_add];exact h1,by rw[Nat.zero_add];exact h2⟩
theorem OwnE.gr {B:Nat} {W W':World} {v:Value} {l:List (Nat×List UInt8)} (h:OwnE B W v l) (g:Gr W W'):OwnE B W' v l:=h.to (g.to_ch (λ_=>False)) (λ_ _ e=>e)
theorem talk_nil {limit:Nat} {b:List UInt8} {bs:List (List UInt8)} {s:Ss} {t:List UInt8} {l:List (Nat×List UInt8)} {k:Kern} (h:Tlk serveH limit b bs s t l k) (e:bs=[]):t=[]:=by
 have hd:=h.ds
 rw[e] at hd
 cases hd
 rfl
theorem cuts28_any (q limit:Int) (bb:List UInt8) (p:Option Addr) (cap:Nat) (cuts:List Int) (w:World) (hG:G w) (hI:IntsAt w p cuts) (hr:∀ x∈cuts,-9223372036854775808≤x∧x≤9223372036854775807) :
  Calls prog 3 #[.int .i64 q,.int .i64 limit,.string ⟨bb.toArray⟩,.slice p cuts.length cap] w λe w'=>e=.returned (.bool true)∧Gr w w':=by
 have hG':=hid hG
 have hI':=hid hI
 have hr':=hid hr
 have hwk:=hid (λW (g:Gr w W)=>wakes28_any W (hG.gr g))
 clear hG hI hr
 by_cases c0:q<1
 ·go_enter func3,ntmps3
  go_wp2_with fail
  refine (hwk.out _ (Gr.refl _)).mono ?_
  rintro e w1⟨rfl,g1⟩
  go_wp2
  go_ret
  exact⟨rfl,g1⟩
 by_cases c1:64<q
 ·go_enter func3,ntmps3
  go_wp2_with fail
  refine (hwk.out _ (Gr.refl _)).mono ?_
  rintro e w1⟨rfl,g1⟩
  go_wp2
  go_ret
  exact⟨rfl,g1⟩
 by_cases c2:limit<0
 ·go_enter func3,ntmps3
  go_wp2_with fail
  refine (hwk.out _ (Gr.refl _)).mono ?_
  rintro e w1⟨rfl,g1⟩
  go_wp2
  go_ret
  exact⟨rfl,g1⟩
 by_cases c3:5000<limit
 ·go_enter func3,ntmps3
  go_wp2_with fail
  refine (hwk.out _ (Gr.refl _)).mono ?_
  rintro e w1⟨rfl,g1⟩
  go_wp2
  go_ret
  exact⟨rfl,g1⟩
 by_cases c4:(3000:Int)<bb.length
 ·go_enter func3,ntmps3
  go_wp2_with fail
  refine (hwk.out _ (Gr.refl _)).mono ?_
  rintro e w1⟨rfl,g1⟩
  go_wp2
  go_ret
  exact⟨rfl,g1⟩
 by_cases c5:(60:Int)<cuts.length
 ·go_enter func3,ntmps3
  go_wp2_with fail
  refine (hwk.out _ (Gr.refl _)).mono ?_
  rintro e w1⟨rfl,g1⟩
  go_wp2
  go_ret
  exact⟨rfl,g1⟩
 obtain⟨q,rfl⟩:=Int.eq_ofNat_of_zero_le (show 0≤q by omega)
 obtain⟨limit,rfl⟩:=Int.eq_ofNat_of_zero_le (show 0≤limit by omega)
 have ht1:=hid (talk_any hG'.out q limit (by omega) (by omega) (by omega) bb (by omega) none 0 [] (λi hi=>absurd hi (Nat.not_lt_zero _)) (by decide) (λx hx=>by cases hx))
 have ht2:=hid (λW (g:Gr w W)=>talk_any (hG'.out.gr g) q limit (by omega) (by omega) (by omega) bb (by omega) p cap cuts (hI'.out.gr g) (by omega) hr'.out)
 by_cases hb:bb=[]
 ·subst hb
  go_enter func3,ntmps3
  go_wp2_with fail
  refine ht1.out.mono ?_
  rintro e w1⟨bs1,s1,t1,l1,k1,v1,rfl,h1,n1,row1,g1,lb1⟩
  have h1':=hid h1
  have n1':=hid (n1 (by simp))
  have row1':=hid row1
  have g1':=hid g1
  obtain⟨pa1,ca1,rfl⟩:=ownsRow_slice row1
  clear h1 n1 row1 g1 ht1
  go_wp2_with fail
  refine (ht2.out _ g1'.out).mono ?_
  rintro e w2⟨bs2,s2,t2,l2,k2,v2,rfl,h2,n2,row2,g2,lb2⟩
  have h2':=hid h2
  have n2':=hid (n2 (by simp))
  have row2':=hid row2
  have g2':=hid g2
  obtain⟨pa2,ca2,rfl⟩:=ownsRow_slice row2
  clear h2 n2 row2 g2 ht2
  obtain rfl:=talk_nil h1'.out n1'.out
  obtain rfl:=talk_nil h2'.out n2'.out
  go_wp2_with fail
  refine (hwk.out _ (g1'.out.trans g2'.out)).mono ?_
  rintro e w3⟨rfl,g3⟩
  go_wp2
  go_ret
  exact⟨rfl,(g1'.out.trans g2'.out).trans g3⟩
 ·have hb1:bb.isEmpty=false:=by simpa using hb
  go_enter func3,ntmps3
  go_wp2_with fail
  refine ht1.out.mono ?_
  rintro e w1⟨bs1,s1,t1,l1,k1,v1,rfl,h1,n1,row1,g1,lb1⟩
  have h1':=hid h1
  have n1':=hid (n1)
  have row1':=hid row1
  have g1':=hid g1
  obtain⟨pa1,ca1,rfl⟩:=ownsRow_slice row1
  clear h1 n1 row1 g1 ht1
  go_wp2_with fail
  refine (ht2.out _ g1'.out).mono ?_
  rintro e w2⟨bs2,s2,t2,l2,k2,v2,rfl,h2,n2,row2,g2,lb2⟩
  have h2':=hid h2
  have n2':=hid (n2)
  have row2':=hid row2
  have g2':=hid g2
  obtain⟨pa2,ca2,rfl⟩:=ownsRow_slice row2
  clear h2 n2 row2 g2 ht2
  have e1:bs1≠[]:=λe=>hb (by rw[←h1'.out.fl,e];rfl)
  have e2:bs2≠[]:=λe=>hb (by rw[←h2'.out.fl,e];rfl)
  obtain⟨rfl,rfl,hst⟩:=talk_same h1'.out h2'.out e1 e2
  obtain⟨st,hst1⟩:∃ x,s1.st=x:=⟨_,rfl⟩
  rw[←hst,hst1]
  have r1:=hid (row1'.out.gr g2'.out)
  have hwk2:=hid (λW (g:Gr w2 W)=>hwk.out W ((g1'.out.trans g2'.out).trans g))
  clear e1 e2 hst hst1 h1' h2' n1' n2' row1' hb hwk
  go_upto_region 10 with (fail)
  go_loopw [15] (λi wr=>∃ n:Nat,n≤l1.length∧i=.int .i64 n∧Gr w2 wr) (λi _=>l1.length - (intOf i).toNat)
  case atStart=>exact⟨0,Nat.zero_le _,rfl,Gr.refl _⟩
  case round =>
   obtain⟨n,hn,rfl,gr⟩:=hrel
   have gr':=hid gr
   by_cases hlt:n<l1.length
   ·have hltI:(n:Int)<l1.length:=by omega
    obtain⟨ga,oa,ka,ea,a0,a1,a2⟩:=(r1.out.gr gr).at hlt
    obtain⟨gb,ob,kb,eb,b0,b1,b2⟩:=(row2'.out.gr gr).at hlt
    clear gr
    cases ea
    cases eb
    obtain⟨op,hop⟩:∃ x,l1[n].1=x:=⟨_,rfl⟩
    obtain⟨tx,htx⟩:∃ x,l1[n].2=x:=⟨_,rfl⟩
    rw[hop] at a1 b1
    rw[htx] at a2 b2
    have heq:=λW=>eventEq W (op:Int) tx
    clear hop htx
    go_upto_region 12 with (fail)
    go_region
    all_goals go_wp2
    all_goals go_roundw
    all_goals first
     | exact⟨n+1,hlt,by go_num,gr'.out.trans (Gr.drew' _)⟩
     | exact⟨n+1,hlt,by go_num,gr'.out⟩
     |(simp[intOf];omega)
   ·obtain rfl:n=l1.length:=by omega
    go_wp2_with fail
    refine (hwk2.out _ gr'.out).mono ?_
    rintro e w3⟨rfl,g3⟩
    go_wp2
    go_ret
    exact⟨rfl,((g1'.out.trans g2'.out).trans gr'.out).trans g3⟩
