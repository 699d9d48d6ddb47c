/-
  The laws of sessions: SessionEnds. (Printed by mk_er.py.)
-/
import Derived.Test.YtadobobfjnmdlaaGreatDoorEo
set_option linter.unnecessarySimpa false
set_option linter.unusedVariables false
set_option linter.unusedSimpArgs false
set_option maxHeartbeats 16000000
set_option maxRecDepth 100000
open Go.Lib (hid)
namespace Go.Proofs.YtadobobfjnmdlaaGreatDoor
open Go.RowKit Go.Shelf
attribute [local go_sem] Oper.semAt_some
def EndRel (w:World) (b:Nat) (l:List Ac) (ah i:Value) (wr:World):Prop :=
 ∃ (k:Nat) (T:Nat→Prop) (s:Ss),k≤l.length∧i=.int .i64 k∧ah=.bool s.x.told∧SnL w b T s wr∧Sok s∧SsB (acSum (l.take k)) s
def EndRel2 (w:World) (b:Nat) (t0:Bool) (la i:Value) (wr:World):Prop :=
 ∃ (k:Nat) (T:Nat→Prop) (s:Ss) (last:Bool),i=.int .i64 k∧la=.bool last∧SnL w b T s wr∧Sok s∧SsB 20000 s∧s.st=3∧LastInv t0 s.x last k
theorem lapse_ok {s:Ss} (h:Sok s):Sok (ssLapse s):=by
 unfold ssLapse
 split
 ·exact ends_ok (s:=ssOver s) h.x
 ·unfold ssStop
  split
  ·exact h.ends
  ·split
   ·rename_i h1 hh
    have h2:s.st=2:=by
     unfold ssHears at hh
     rw[Bool.and_eq_true] at hh
     exact eq_of_beq hh.1
    obtain⟨c,hc,hs⟩:=h.b h2
    refine⟨h.a,fun _=>⟨wnShut c,by dsimp only;rw[hc];rfl,?_⟩,(h.x.close _).2.1.trans h.e,(h.x.close _).1⟩
    unfold wnShut
    split
    ·exact .inr rfl
    ·exact hs
   ·exact h
theorem over_feed {s:Ss} (h:s.st=3) (b:List UInt8):ssFeed s b=s:=by
 unfold ssFeed
 rw[if_neg (by omega),if_neg (by omega)]
theorem over_hears {s:Ss} (h:s.st=3):ssHears s=false:=by unfold ssHears;rw[h];rfl
theorem over_waiting {s:Ss} (h:s.st=3):ssWaiting s=false:=by unfold ssWaiting;rw[h];rfl
theorem over_takes {s:Ss} (h:s.st=3):ssTakes s=false:=by unfold ssTakes;rw[h];rfl
theorem over_send {s:Ss} (h:s.st=3) (op:Int) (t:List UInt8):ssSend s op t=(s,11):=by unfold ssSend;rw[over_hears h];rfl
theorem ends28_any (q limit:Int) (p:Option Addr) (cap:Nat) (l:List Ac) (fin:Bool) (w:World) (hG:G w) (hA:ActsAt w p l) (hl:l.length≤9223372036854775807) :
  Calls Tryz.prog 4 #[.int .i64 q,.int .i64 limit,.slice p l.length cap,.bool fin] w fun e w'=>e=.returned (.bool true)∧Gr w w':=by
 have hG':=hid hG
 have hA':=hid hA
 have hgr:=hid (great28_any p cap l w hA hl)
 have hwk:=hid (wakes28_any w hG)
 obtain⟨gv,hgv⟩:∃ gv,greatA l=gv:=⟨_,rfl⟩
 rw[hgv] at hgr
 clear hG hA
 cases gv with
 | true =>
  clear hgv
  go_enter Tryz.func4,Tryz.ntmps4
  go_wp2_with (fail)
  refine hgr.out.mono ?_
  rintro e w1 ⟨rfl,rfl⟩
  go_wp2_with (fail)
  refine hwk.out.mono ?_
  rintro e w1 ⟨rfl,g1⟩
  go_wp2
  go_ret
  exact⟨rfl,g1⟩
 | false =>
  by_cases c0:(100:Int)<l.length
  ·clear hgv
   go_enter Tryz.func4,Tryz.ntmps4
   go_wp2_with (fail)
   refine hgr.out.mono ?_
   rintro e w1 ⟨rfl,rfl⟩
   go_wp2_with (fail)
   refine hwk.out.mono ?_
   rintro e w1 ⟨rfl,g1⟩
   go_wp2
   go_ret
   exact⟨rfl,g1⟩
  by_cases c1:q<1
  ·clear hgv
   go_enter Tryz.func4,Tryz.ntmps4
   go_wp2_with (fail)
   refine hgr.out.mono ?_
   rintro e w1 ⟨rfl,rfl⟩
   go_wp2_with (fail)
   refine hwk.out.mono ?_
   rintro e w1 ⟨rfl,g1⟩
   go_wp2
   go_ret
   exact⟨rfl,g1⟩
  by_cases c2:64<q
  ·clear hgv
   go_enter Tryz.func4,Tryz.ntmps4
   go_wp2_with (fail)
   refine hgr.out.mono ?_
   rintro e w1 ⟨rfl,rfl⟩
   go_wp2_with (fail)
   refine hwk.out.mono ?_
   rintro e w1 ⟨rfl,g1⟩
   go_wp2
   go_ret
   exact⟨rfl,g1⟩
  by_cases c3:limit<0
  ·clear hgv
   go_enter Tryz.func4,Tryz.ntmps4
   go_wp2_with (fail)
   refine hgr.out.mono ?_
   rintro e w1 ⟨rfl,rfl⟩
   go_wp2_with (fail)
   refine hwk.out.mono ?_
   rintro e w1 ⟨rfl,g1⟩
   go_wp2
   go_ret
   exact⟨rfl,g1⟩
  by_cases c4:5000<limit
  ·clear hgv
   go_enter Tryz.func4,Tryz.ntmps4
   go_wp2_with (fail)
   refine hgr.out.mono ?_
   rintro e w1 ⟨rfl,rfl⟩
   go_wp2_with (fail)
   refine hwk.out.mono ?_
   rintro e w1 ⟨rfl,g1⟩
   go_wp2
   go_ret
   exact⟨rfl,g1⟩
  obtain⟨q,rfl⟩:=Int.eq_ofNat_of_zero_le (show 0≤q by omega)
  obtain⟨limit,rfl⟩:=Int.eq_ofNat_of_zero_le (show 0≤limit by omega)
  have hnw:=hid (lsn_new hG'.out (Gr.refl w) q limit (by omega) (by omega) (by omega))
  have h100:=hid (show l.length≤100 by omega)
  have hq64:=hid (show q≤64 by omega)
  have hlm:=hid (show limit≤1099511627776 by omega)
  have hsum:=hid (show acSum l≤15000 by
   have:=hgv
   unfold greatA at this
   simp only[Bool.or_eq_false_iff,decide_eq_false_iff_not] at this
   omega)
  have hget:=hid (fun W=>lget_any [47] (by decide) W)
  rw[get_home] at hget
  have hask:=hid (fun W=>lask_any W)
  have hgl:getL.length≤1000:=by decide +kernel
  have hal:askL.length≤1000:=by decide +kernel
  have cat1:(⟨getL.toArray⟩:ByteArray)++⟨askL.toArray⟩=⟨(getL++askL).toArray⟩:=cat_mk _ _
  obtain⟨gl,egl⟩:∃ x,getL=x:=⟨_,rfl⟩
  obtain⟨al,eal⟩:∃ x,askL=x:=⟨_,rfl⟩
  rw[egl] at hget cat1 hgl
  rw[eal] at hask cat1 hal
  have hn1:¬9223372036854775807<gl.length+al.length:=by omega
  have hgal:=hid (show gl.length+al.length≤2000 by omega)
  clear hgv egl eal hgl hal
  cases fin with
  | true =>
   go_enter Tryz.func4,Tryz.ntmps4
   go_wp2_with (fail)
   refine hgr.out.mono ?_
   rintro e w1 ⟨rfl,rfl⟩
   go_wp2_with (fail)
   refine hnw.out.mono ?_
   rintro e w1 ⟨b,rfl,h1,_⟩
   have h1':=hid h1
   clear h1 hnw hgr hwk
   go_upto_region 8 with (fail)
   go_loopw [11,12] (fun ah i wr=>EndRel w b l ah i wr) (fun _ i _=>l.length - (intOf i).toNat)
   case atStart=>exact⟨0,_,_,Nat.zero_le _,rfl,rfl,h1'.out,sok0 hq64.out,ss0_b hlm.out⟩
   case round =>
    clear h1'
    obtain⟨k,T,s,hk,rfl,rfl,h,hS,hB⟩:=hrel
    have hS':=hid hS
    have hB':=hid hB
    have h':=hid h
    clear h hS hB
    by_cases hlt:k<l.length
    ·have hkI:(k:Int)<l.length:=by omega
     obtain⟨ab,off,hpp,c0,c1,c2⟩:=(hA'.out.gr h'.out.gr) k hlt
     have hpp':=hid hpp
     have hn:=hid (acSum_take l k hlt)
     have hle:=hid (acSum_le l (k+1))
     obtain⟨a,ha⟩:∃ a,a=l[k]:=⟨_,rfl⟩
     rw[←ha] at c0 c1 c2 hn
     clear ha
     subst hpp
     have hrel1:=hid (fun T s1 W (h:SnL w b T s1 W) (hs:Sok s1) (hb:SsB (acSum (l.take k)+a.t.length) s1)=>(show EndRel w b l (.bool s1.x.told) (.int .i64 ((k+1:Nat):Int)) W from⟨k+1,T,s1,hlt,rfl,rfl,h,hs,by rw[hn.out];exact hb⟩))
     have hN:=hid (show acSum (l.take k)+a.t.length≤15000 by have:=hn.out;have:=hle.out;have:=hsum.out;omega)
     have hok:=hid (actE_ok hS'.out hB'.out a)
     by_cases d0:a.d=0
     ·rw[d0] at c0
      have hfd:=hid (lsn_feed h'.out hB'.out hS'.out a.t (by have:=hN.out;omega))
      have hr:=hid (fun T W (h:SnL w b T (ssFeed s a.t) W)=>hrel1.out T _ W h (hS'.out.feed _) (hB'.out.feed _))
      have htl:=feed_told s a.t
      rw[htl] at hr
      clear htl hrel1
      go_wp2_with (fail)
      refine hfd.out.mono ?_
      rintro e w2 ⟨rfl,T2,h2,_,_⟩
      have hz:=hid (hr.out T2 w2 h2)
      clear h2 hfd c0 c1 c2
      go_wp2
      go_roundw
      case rel=>exact hz.out
      case measure=>simp[intOf];omega
     ·by_cases d1:a.d=1
      ·rw[d1] at c0
       have hfd:=hid (lsn_next h'.out hG'.out hB'.out hS'.out (by have:=hN.out;omega))
       have hr:=hid (fun T W (h:SnL w b T (ssNext serveH s).1 W)=>hrel1.out T _ W h hS'.out.next (hB'.out.next.le (Nat.le_add_right _ _)))
       have htl:=next_told serveH s
       rw[htl] at hr
       obtain⟨n0,n1,nt,hnv⟩:=sevO_agg (ssNext serveH s).2
       rw[hnv] at hfd
       clear htl hrel1 hnv
       go_wp2_with (fail)
       refine hfd.out.mono ?_
       rintro e w2 ⟨rfl,T2,h2,_,_⟩
       have hz:=hid (hr.out T2 w2 h2)
       clear h2 hfd c0 c1 c2
       go_wp2
       go_roundw
       case rel=>exact hz.out
       case measure=>simp[intOf];omega
      ·by_cases d2:a.d=2
       ·rw[d2] at c0
        have hfd:=hid (lsn_out h'.out hB'.out hS'.out (by have:=hN.out;omega))
        have hr:=hid (fun T W (h:SnL w b T (ssOut s).1 W)=>hrel1.out T _ W h hS'.out.out (hB'.out.out.le (Nat.le_add_right _ _)))
        have htl:=out_told hS'.out
        rw[htl] at hr
        obtain⟨told,htd⟩:∃ x,s.x.told=x:=⟨_,rfl⟩
        rw[htd] at hr ⊢
        obtain⟨o,ho⟩:∃ o,(ssOut s).2=o:=⟨_,rfl⟩
        rw[ho] at hfd hr
        clear htl hrel1 htd ho
        cases o with
        | none =>
         unfold outV at hfd
         cases told
         all_goals
          go_wp2_with (fail)
          refine hfd.out.mono ?_
          rintro e w2 ⟨rfl,T2,h2,_,_⟩
          have hz:=hid (hr.out T2 w2 h2)
          clear h2 hfd c0 c1 c2
          go_wp2
          go_roundw
          case rel=>exact hz.out
          case measure=>simp[intOf];omega
        | some x =>
         obtain⟨xt,xe⟩:=x
         unfold outV at hfd
         dsimp only at hfd
         cases told
         all_goals
          go_wp2_with (fail)
          refine hfd.out.mono ?_
          rintro e w2 ⟨rfl,T2,h2,_,_⟩
          have hz:=hid (hr.out T2 w2 h2)
          clear h2 hfd c0 c1 c2
          go_wp2
          go_roundw
          case rel=>exact hz.out
          case measure=>simp[intOf];omega
       ·by_cases d3:a.d=3
        ·rw[d3] at c0
         have hfd:=hid (lsn_send h'.out hS'.out 1 a.t)
         have hr:=hid (fun T W (h:SnL w b T (ssSend s 1 a.t).1 W)=>hrel1.out T _ W h (hS'.out.send _ _) (hB'.out.send _ _))
         have htl:=send_told s 1 a.t
         rw[htl] at hr
         clear htl hrel1
         go_wp2_with (fail)
         refine hfd.out.mono ?_
         rintro e w2 ⟨rfl,T2,h2,_,_⟩
         have hz:=hid (hr.out T2 w2 h2)
         clear h2 hfd c0 c1 c2
         go_wp2
         go_roundw
         case rel=>exact hz.out
         case measure=>simp[intOf];omega
        ·have e0:((a.d.toNat:Int)==0)=false:=beq_false_of_ne (fun e=>d0 (UInt8.toNat_inj.1 (by (show a.d.toNat=0);omega)))
         have e1:((a.d.toNat:Int)==1)=false:=beq_false_of_ne (fun e=>d1 (UInt8.toNat_inj.1 (by (show a.d.toNat=1);omega)))
         have e2:((a.d.toNat:Int)==2)=false:=beq_false_of_ne (fun e=>d2 (UInt8.toNat_inj.1 (by (show a.d.toNat=2);omega)))
         have e3:((a.d.toNat:Int)==3)=false:=beq_false_of_ne (fun e=>d3 (UInt8.toNat_inj.1 (by (show a.d.toNat=3);omega)))
         have hz:=hid (hrel1.out T s wr h'.out hS'.out (hB'.out.le (Nat.le_add_right _ _)))
         clear hrel1 c1 c2 d0 d1 d2 d3
         go_wp2
         go_roundw
         case rel=>exact hz.out
         case measure=>simp[intOf];omega
    ·obtain rfl:k=l.length:=by omega
     rw[List.take_length] at hB'
     have ht0:=hid (show LastInv s.x.told s.x false 0→True from fun _=>trivial)
     have hfi:=hid (lsn_finish h'.out hS'.out)
     obtain⟨hS2,h3,ht⟩:=hS'.out.finish
     have hB2:=hB'.out.finish
     obtain⟨s2,hs2⟩:∃ s2,ssFinish s=s2:=⟨_,rfl⟩
     rw[hs2] at hfi hS2 h3 ht hB2
     clear hs2
     go_wp2_with (fail)
     refine hfi.out.mono ?_
     rintro e w2 ⟨rfl,T2,h2,_,_⟩
     have h2':=hid h2
     have hS2':=hid hS2
     have h3':=hid h3
     have hB2':=hid (hB2.le (m:=15000) hsum.out)
     have hfe:=hid (lsn_feed h2 hB2'.out hS2 (gl++al) (by have:=hgal.out;rw[List.length_append];omega))
     rw[over_feed h3] at hfe
     obtain⟨tb,htb⟩:∃ x,s.x.told=x:=⟨_,rfl⟩
     rw[htb] at ht ⊢
     have ht':=hid ht
     have hinv0:=hid (show LastInv tb s2.x false 0 by rw[←ht];exact LastInv.start hS2.x (by rw[hS2.e];exact decide_eq_true h3))
     clear h2 hS2 h3 hB2 ht htb ht0
     go_wp2_with (fail)
     refine (hget.out _).mono ?_
     rintro e w3 ⟨rfl,rfl⟩
     go_wp2_with (fail)
     refine (hask.out _).mono ?_
     rintro e w3 ⟨rfl,rfl⟩
     go_wp2_with (fail)
     refine hfe.out.mono ?_
     rintro e w3 ⟨rfl,T3,h3,_,_⟩
     have h3s:=hid h3
     clear h3 hfe
     have hnx:=lsn_next h3s.out hG'.out hB2'.out hS2'.out (by decide)
     rw[ssNext_over h3'.out] at hnx
     unfold sevO at hnx
     dsimp only at hnx
     have hnx:=hid hnx
     go_wp2_with (fail)
     refine hnx.out.mono ?_
     rintro e w4 ⟨rfl,T4,h4,_,_⟩
     have h4s:=hid h4
     clear h4 hnx
     go_upto_region 26 with (fail)
     have h5:=h4s.out.grow (Gr.alloc w4 (.cells #[.int .i64 0,.int .i64 0,.string ⟨#[]⟩] 28))
     obtain⟨w5,hw5⟩:∃ w5,w4.alloc (.cells #[.int .i64 0,.int .i64 0,.string ⟨#[]⟩] 28)=w5:=⟨_,rfl⟩
     rw[hw5] at h5
     try rw[hw5]
     have n1:=sn_state h5.at'
     have n2:=sn_hears h5.at' (sok_some hS2'.out)
     have n3:=sn_waiting h5.at' (sok_some hS2'.out)
     have n4:=sn_takes h5.at'
     have n5:=sn_fresh h5.at'
     have n6:=lsn_send h5 hS2'.out 1 [120]
     rw[h3'.out] at n1 n5
     rw[over_hears h3'.out] at n2
     rw[over_waiting h3'.out] at n3
     rw[over_takes h3'.out] at n4
     rw[over_send h3'.out] at n6
     have n1:=hid n1
     have n2:=hid n2
     have n3:=hid n3
     have n4:=hid n4
     have n5:=hid (show Calls _ _ _ _ fun e w'=>e=.returned (.bool false)∧w5=w' from n5)
     have n6:=hid n6
     clear hw5 h5
     go_wp2_with (fail)
     refine n1.out.mono ?_
     rintro e w6 ⟨rfl,rfl⟩
     go_wp2_with (fail)
     refine n2.out.mono ?_
     rintro e w6 ⟨rfl,rfl⟩
     go_wp2_with (fail)
     refine n3.out.mono ?_
     rintro e w6 ⟨rfl,rfl⟩
     go_wp2_with (fail)
     refine n4.out.mono ?_
     rintro e w6 ⟨rfl,rfl⟩
     go_wp2_with (fail)
     refine n5.out.mono ?_
     rintro e w6 ⟨rfl,rfl⟩
     go_wp2_with (fail)
     refine n6.out.mono ?_
     rintro e w6 ⟨rfl,T6,h6,_,_⟩
     have h6s:=hid h6
     clear h6 n1 n2 n3 n4 n5 n6
     go_upto_region 30 with (fail)
     go_loopw [18,19] (fun la i wr=>EndRel2 w b tb la i wr) (fun _ i _=>100 - (intOf i).toNat)
     case atStart=>exact⟨0,T6,s2,false,rfl,rfl,h6s.out,hS2'.out,hB2'.out.le (by decide),h3'.out,hinv0.out⟩
     case round =>
      clear h6s hinv0 h4s h3s h2' hS2' h3' hB2' ht'
      obtain⟨k2,T7,s7,last,rfl,rfl,h7,hS7,hB7,h37,hinv⟩:=hrel
      have hk2:k2≤71:=by have:=hinv.n;omega
      have hkI:(k2:Int)<100:=by omega
      have hou:=lsn_out h7 hB7 hS7 (by decide)
      have hou0:ssOut s7=({ s7 with x:=(bxNext s7.x).1 },(bxNext s7.x).2.map outB'):=rfl
      have hS7o:=hid hS7.out
      have hB7o:=hid hB7.out
      have h37':=hid h37
      cases hb:bxNext s7.x with
      | mk x7 o7 =>
       rw[hb] at hou0
       cases o7 with
       | none =>
        obtain⟨hx7,hlast,htl,hwt⟩:=hinv.stop hb
        rw[hou0] at hou
        unfold outV at hou
        dsimp only[Option.map] at hou
        have hou:=hid hou
        have hS7':=hid hS7
        have hx7':=hid hx7
        have htl':=hid htl
        have hwt':=hid hwt
        rw[hlast]
        clear h7 hS7 hB7 h37 hinv hb hou0 hx7 htl hwt hlast
        go_wp2_with (fail)
        refine hou.out.mono ?_
        rintro e w8 ⟨rfl,T8,h8,_,_⟩
        have ne:=sn_ended h8.at'
        have nw:=sn_waits h8.at'
        rw[show ({ s7 with x:=x7 }:Ss).x.told=true by dsimp only;rw[hx7'.out];exact htl'.out] at ne
        rw[show bxWaits ({ s7 with x:=x7 }:Ss).x=false by dsimp only;rw[hx7'.out];exact hwt'.out] at nw
        have ne:=hid ne
        have nw:=hid nw
        have hwk2:=hid (wakes28_any w8 (hG'.out.gr h8.gr))
        have g8:=hid h8.gr
        clear h8 hou
        cases tb
        all_goals
         go_wp2_with (fail)
         refine ne.out.mono ?_
         rintro e w9 ⟨rfl,rfl⟩
         go_wp2_with (fail)
         refine nw.out.mono ?_
         rintro e w9 ⟨rfl,rfl⟩
         go_wp2_with (fail)
         refine hwk2.out.mono ?_
         rintro e w9 ⟨rfl,g9⟩
         go_wp2
         go_ret
         exact⟨rfl,g8.out.trans g9⟩
       | some it =>
        have hst:=hid (hinv.step hb)
        rw[hou0] at hou hS7o hB7o
        dsimp only[Option.map] at hou
        obtain⟨xt,xe,hxo⟩:∃ xt xe,outB' it=(xt,xe):=⟨_,_,rfl⟩
        rw[hxo] at hou hst
        unfold outV at hou
        dsimp only at hou hst
        have hou:=hid hou
        clear h7 hS7 hB7 h37 hinv hb hou0 hxo
        go_wp2_with (fail)
        refine hou.out.mono ?_
        rintro e w8 ⟨rfl,T8,h8,_,_⟩
        have hz:=hid (show EndRel2 w b tb (.bool xe) (.int .i64 ((k2+1:Nat):Int)) w8 from⟨k2+1,T8,_,xe,rfl,rfl,h8,hS7o.out,hB7o.out,h37'.out,hst.out⟩)
        clear h8 hou hst
        go_wp2
        go_roundw
        case rel=>exact hz.out
        case measure=>simp[intOf];omega
  | false =>
   go_enter Tryz.func4,Tryz.ntmps4
   go_wp2_with (fail)
   refine hgr.out.mono ?_
   rintro e w1 ⟨rfl,rfl⟩
   go_wp2_with (fail)
   refine hnw.out.mono ?_
   rintro e w1 ⟨b,rfl,h1,_⟩
   have h1':=hid h1
   clear h1 hnw hgr hwk
   go_upto_region 8 with (fail)
   go_loopw [11,12] (fun ah i wr=>EndRel w b l ah i wr) (fun _ i _=>l.length - (intOf i).toNat)
   case atStart=>exact⟨0,_,_,Nat.zero_le _,rfl,rfl,h1'.out,sok0 hq64.out,ss0_b hlm.out⟩
   case round =>
    clear h1'
    obtain⟨k,T,s,hk,rfl,rfl,h,hS,hB⟩:=hrel
    have hS':=hid hS
    have hB':=hid hB
    have h':=hid h
    clear h hS hB
    by_cases hlt:k<l.length
    ·have hkI:(k:Int)<l.length:=by omega
     obtain⟨ab,off,hpp,c0,c1,c2⟩:=(hA'.out.gr h'.out.gr) k hlt
     have hpp':=hid hpp
     have hn:=hid (acSum_take l k hlt)
     have hle:=hid (acSum_le l (k+1))
     obtain⟨a,ha⟩:∃ a,a=l[k]:=⟨_,rfl⟩
     rw[←ha] at c0 c1 c2 hn
     clear ha
     subst hpp
     have hrel1:=hid (fun T s1 W (h:SnL w b T s1 W) (hs:Sok s1) (hb:SsB (acSum (l.take k)+a.t.length) s1)=>(show EndRel w b l (.bool s1.x.told) (.int .i64 ((k+1:Nat):Int)) W from⟨k+1,T,s1,hlt,rfl,rfl,h,hs,by rw[hn.out];exact hb⟩))
     have hN:=hid (show acSum (l.take k)+a.t.length≤15000 by have:=hn.out;have:=hle.out;have:=hsum.out;omega)
     have hok:=hid (actE_ok hS'.out hB'.out a)
     by_cases d0:a.d=0
     ·rw[d0] at c0
      have hfd:=hid (lsn_feed h'.out hB'.out hS'.out a.t (by have:=hN.out;omega))
      have hr:=hid (fun T W (h:SnL w b T (ssFeed s a.t) W)=>hrel1.out T _ W h (hS'.out.feed _) (hB'.out.feed _))
      have htl:=feed_told s a.t
      rw[htl] at hr
      clear htl hrel1
      go_wp2_with (fail)
      refine hfd.out.mono ?_
      rintro e w2 ⟨rfl,T2,h2,_,_⟩
      have hz:=hid (hr.out T2 w2 h2)
      clear h2 hfd c0 c1 c2
      go_wp2
      go_roundw
      case rel=>exact hz.out
      case measure=>simp[intOf];omega
     ·by_cases d1:a.d=1
      ·rw[d1] at c0
       have hfd:=hid (lsn_next h'.out hG'.out hB'.out hS'.out (by have:=hN.out;omega))
       have hr:=hid (fun T W (h:SnL w b T (ssNext serveH s).1 W)=>hrel1.out T _ W h hS'.out.next (hB'.out.next.le (Nat.le_add_right _ _)))
       have htl:=next_told serveH s
       rw[htl] at hr
       obtain⟨n0,n1,nt,hnv⟩:=sevO_agg (ssNext serveH s).2
       rw[hnv] at hfd
       clear htl hrel1 hnv
       go_wp2_with (fail)
       refine hfd.out.mono ?_
       rintro e w2 ⟨rfl,T2,h2,_,_⟩
       have hz:=hid (hr.out T2 w2 h2)
       clear h2 hfd c0 c1 c2
       go_wp2
       go_roundw
       case rel=>exact hz.out
       case measure=>simp[intOf];omega
      ·by_cases d2:a.d=2
       ·rw[d2] at c0
        have hfd:=hid (lsn_out h'.out hB'.out hS'.out (by have:=hN.out;omega))
        have hr:=hid (fun T W (h:SnL w b T (ssOut s).1 W)=>hrel1.out T _ W h hS'.out.out (hB'.out.out.le (Nat.le_add_right _ _)))
        have htl:=out_told hS'.out
        rw[htl] at hr
        obtain⟨told,htd⟩:∃ x,s.x.told=x:=⟨_,rfl⟩
        rw[htd] at hr ⊢
        obtain⟨o,ho⟩:∃ o,(ssOut s).2=o:=⟨_,rfl⟩
        rw[ho] at hfd hr
        clear htl hrel1 htd ho
        cases o with
        | none =>
         unfold outV at hfd
         cases told
         all_goals
          go_wp2_with (fail)
          refine hfd.out.mono ?_
          rintro e w2 ⟨rfl,T2,h2,_,_⟩
          have hz:=hid (hr.out T2 w2 h2)
          clear h2 hfd c0 c1 c2
          go_wp2
          go_roundw
          case rel=>exact hz.out
          case measure=>simp[intOf];omega
        | some x =>
         obtain⟨xt,xe⟩:=x
         unfold outV at hfd
         dsimp only at hfd
         cases told
         all_goals
          go_wp2_with (fail)
          refine hfd.out.mono ?_
          rintro e w2 ⟨rfl,T2,h2,_,_⟩
          have hz:=hid (hr.out T2 w2 h2)
          clear h2 hfd c0 c1 c2
          go_wp2
          go_roundw
          case rel=>exact hz.out
          case measure=>simp[intOf];omega
       ·by_cases d3:a.d=3
        ·rw[d3] at c0
         have hfd:=hid (lsn_send h'.out hS'.out 1 a.t)
         have hr:=hid (fun T W (h:SnL w b T (ssSend s 1 a.t).1 W)=>hrel1.out T _ W h (hS'.out.send _ _) (hB'.out.send _ _))
         have htl:=send_told s 1 a.t
         rw[htl] at hr
         clear htl hrel1
         go_wp2_with (fail)
         refine hfd.out.mono ?_
         rintro e w2 ⟨rfl,T2,h2,_,_⟩
         have hz:=hid (hr.out T2 w2 h2)
         clear h2 hfd c0 c1 c2
         go_wp2
         go_roundw
         case rel=>exact hz.out
         case measure=>simp[intOf];omega
        ·have e0:((a.d.toNat:Int)==0)=false:=beq_false_of_ne (fun e=>d0 (UInt8.toNat_inj.1 (by (show a.d.toNat=0);omega)))
         have e1:((a.d.toNat:Int)==1)=false:=beq_false_of_ne (fun e=>d1 (UInt8.toNat_inj.1 (by (show a.d.toNat=1);omega)))
         have e2:((a.d.toNat:Int)==2)=false:=beq_false_of_ne (fun e=>d2 (UInt8.toNat_inj.1 (by (show a.d.toNat=2);omega)))
         have e3:((a.d.toNat:Int)==3)=false:=beq_false_of_ne (fun e=>d3 (UInt8.toNat_inj.1 (by (show a.d.toNat=3);omega)))
         have hz:=hid (hrel1.out T s wr h'.out hS'.out (hB'.out.le (Nat.le_add_right _ _)))
         clear hrel1 c1 c2 d0 d1 d2 d3
         go_wp2
         go_roundw
         case rel=>exact hz.out
         case measure=>simp[intOf];omega
    ·obtain rfl:k=l.length:=by omega
     rw[List.take_length] at hB'
     have ht0:=hid (show LastInv s.x.told s.x false 0→True from fun _=>trivial)
     have hfi:=hid (lsn_lapse h'.out hS'.out)
     go_wp2_with (fail)
     refine hfi.out.mono ?_
     rintro e w9 ⟨rfl,T9,h9,_,_⟩
     have hS9:Sok (ssLapse s):=lapse_ok hS'.out
     have hfj:=hid (lsn_lapse h9 hS9)
     obtain⟨hS2,h3,ht⟩:=hS'.out.lapses
     have hB2:=hB'.out.lapse.lapse
     obtain⟨s2,hs2⟩:∃ s2,ssLapse (ssLapse s)=s2:=⟨_,rfl⟩
     rw[hs2] at hfj hS2 h3 ht hB2
     clear hs2 h9 hS9 hfi
     go_wp2_with (fail)
     refine hfj.out.mono ?_
     rintro e w2 ⟨rfl,T2,h2,_,_⟩
     have h2':=hid h2
     have hS2':=hid hS2
     have h3':=hid h3
     have hB2':=hid (hB2.le (m:=15000) hsum.out)
     have hfe:=hid (lsn_feed h2 hB2'.out hS2 (gl++al) (by have:=hgal.out;rw[List.length_append];omega))
     rw[over_feed h3] at hfe
     obtain⟨tb,htb⟩:∃ x,s.x.told=x:=⟨_,rfl⟩
     rw[htb] at ht ⊢
     have ht':=hid ht
     have hinv0:=hid (show LastInv tb s2.x false 0 by rw[←ht];exact LastInv.start hS2.x (by rw[hS2.e];exact decide_eq_true h3))
     clear h2 hS2 h3 hB2 ht htb ht0
     go_wp2_with (fail)
     refine (hget.out _).mono ?_
     rintro e w3 ⟨rfl,rfl⟩
     go_wp2_with (fail)
     refine (hask.out _).mono ?_
     rintro e w3 ⟨rfl,rfl⟩
     go_wp2_with (fail)
     refine hfe.out.mono ?_
     rintro e w3 ⟨rfl,T3,h3,_,_⟩
     have h3s:=hid h3
     clear h3 hfe
     have hnx:=lsn_next h3s.out hG'.out hB2'.out hS2'.out (by decide)
     rw[ssNext_over h3'.out] at hnx
     unfold sevO at hnx
     dsimp only at hnx
     have hnx:=hid hnx
     go_wp2_with (fail)
     refine hnx.out.mono ?_
     rintro e w4 ⟨rfl,T4,h4,_,_⟩
     have h4s:=hid h4
     clear h4 hnx
     go_upto_region 26 with (fail)
     have h5:=h4s.out.grow (Gr.alloc w4 (.cells #[.int .i64 0,.int .i64 0,.string ⟨#[]⟩] 28))
     obtain⟨w5,hw5⟩:∃ w5,w4.alloc (.cells #[.int .i64 0,.int .i64 0,.string ⟨#[]⟩] 28)=w5:=⟨_,rfl⟩
     rw[hw5] at h5
     try rw[hw5]
     have n1:=sn_state h5.at'
     have n2:=sn_hears h5.at' (sok_some hS2'.out)
     have n3:=sn_waiting h5.at' (sok_some hS2'.out)
     have n4:=sn_takes h5.at'
     have n5:=sn_fresh h5.at'
     have n6:=lsn_send h5 hS2'.out 1 [120]
     rw[h3'.out] at n1 n5
     rw[over_hears h3'.out] at n2
     rw[over_waiting h3'.out] at n3
     rw[over_takes h3'.out] at n4
     rw[over_send h3'.out] at n6
     have n1:=hid n1
     have n2:=hid n2
     have n3:=hid n3
     have n4:=hid n4
     have n5:=hid (show Calls _ _ _ _ fun e w'=>e=.returned (.bool false)∧w5=w' from n5)
     have n6:=hid n6
     clear hw5 h5
     go_wp2_with (fail)
     refine n1.out.mono ?_
     rintro e w6 ⟨rfl,rfl⟩
     go_wp2_with (fail)
     refine n2.out.mono ?_
     rintro e w6 ⟨rfl,rfl⟩
     go_wp2_with (fail)
     refine n3.out.mono ?_
     rintro e w6 ⟨rfl,rfl⟩
     go_wp2_with (fail)
     refine n4.out.mono ?_
     rintro e w6 ⟨rfl,rfl⟩
     go_wp2_with (fail)
     refine n5.out.mono ?_
     rintro e w6 ⟨rfl,rfl⟩
     go_wp2_with (fail)
     refine n6.out.mono ?_
     rintro e w6 ⟨rfl,T6,h6,_,_⟩
     have h6s:=hid h6
     clear h6 n1 n2 n3 n4 n5 n6
     go_upto_region 30 with (fail)
     go_loopw [18,19] (fun la i wr=>EndRel2 w b tb la i wr) (fun _ i _=>100 - (intOf i).toNat)
     case atStart=>exact⟨0,T6,s2,false,rfl,rfl,h6s.out,hS2'.out,hB2'.out.le (by decide),h3'.out,hinv0.out⟩
     case round =>
      clear h6s hinv0 h4s h3s h2' hS2' h3' hB2' ht'
      obtain⟨k2,T7,s7,last,rfl,rfl,h7,hS7,hB7,h37,hinv⟩:=hrel
      have hk2:k2≤71:=by have:=hinv.n;omega
      have hkI:(k2:Int)<100:=by omega
      have hou:=lsn_out h7 hB7 hS7 (by decide)
      have hou0:ssOut s7=({ s7 with x:=(bxNext s7.x).1 },(bxNext s7.x).2.map outB'):=rfl
      have hS7o:=hid hS7.out
      have hB7o:=hid hB7.out
      have h37':=hid h37
      cases hb:bxNext s7.x with
      | mk x7 o7 =>
       rw[hb] at hou0
       cases o7 with
       | none =>
        obtain⟨hx7,hlast,htl,hwt⟩:=hinv.stop hb
        rw[hou0] at hou
        unfold outV at hou
        dsimp only[Option.map] at hou
        have hou:=hid hou
        have hS7':=hid hS7
        have hx7':=hid hx7
        have htl':=hid htl
        have hwt':=hid hwt
        rw[hlast]
        clear h7 hS7 hB7 h37 hinv hb hou0 hx7 htl hwt hlast
        go_wp2_with (fail)
        refine hou.out.mono ?_
        rintro e w8 ⟨rfl,T8,h8,_,_⟩
        have ne:=sn_ended h8.at'
        have nw:=sn_waits h8.at'
        rw[show ({ s7 with x:=x7 }:Ss).x.told=true by dsimp only;rw[hx7'.out];exact htl'.out] at ne
        rw[show bxWaits ({ s7 with x:=x7 }:Ss).x=false by dsimp only;rw[hx7'.out];exact hwt'.out] at nw
        have ne:=hid ne
        have nw:=hid nw
        have hwk2:=hid (wakes28_any w8 (hG'.out.gr h8.gr))
        have g8:=hid h8.gr
        clear h8 hou
        cases tb
        all_goals
         go_wp2_with (fail)
         refine ne.out.mono ?_
         rintro e w9 ⟨rfl,rfl⟩
         go_wp2_with (fail)
         refine nw.out.mono ?_
         rintro e w9 ⟨rfl,rfl⟩
         go_wp2_with (fail)
         refine hwk2.out.mono ?_
         rintro e w9 ⟨rfl,g9⟩
         go_wp2
         go_ret
         exact⟨rfl,g8.out.trans g9⟩
       | some it =>
        have hst:=hid (hinv.step hb)
        rw[hou0] at hou hS7o hB7o
        dsimp only[Option.map] at hou
        obtain⟨xt,xe,hxo⟩:∃ xt xe,outB' it=(xt,xe):=⟨_,_,rfl⟩
        rw[hxo] at hou hst
        unfold outV at hou
        dsimp only at hou hst
        have hou:=hid hou
        clear h7 hS7 hB7 h37 hinv hb hou0 hxo
        go_wp2_with (fail)
        refine hou.out.mono ?_
        rintro e w8 ⟨rfl,T8,h8,_,_⟩
        have hz:=hid (show EndRel2 w b tb (.bool xe) (.int .i64 ((k2+1:Nat):Int)) w8 from⟨k2+1,T8,_,xe,rfl,rfl,h8,hS7o.out,hB7o.out,h37'.out,hst.out⟩)
        clear h8 hou hst
        go_wp2
        go_roundw
        case rel=>exact hz.out
        case measure=>simp[intOf];omega
end Go.Proofs.YtadobobfjnmdlaaGreatDoor
