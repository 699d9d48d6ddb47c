/-
  Walks over package chunk: feeding.
-/
import Derived.Test.YtadobobfjnmdlaaGreatDoorKh3
import Derived.Deep.AppendLies
import Derived.Deep.RegionLaw
import Derived.Test.YtadobobfjnmdlaaGreatDoorH
import Derived.Deep.RegionHeld3
set_option maxHeartbeats 16000000
set_option maxRecDepth 100000
open Go.Lib (hid)
namespace Go.Proofs.YtadobobfjnmdlaaGreatDoor
open Go.RowKit
attribute [local go_sem] Oper.semAt_some
theorem step_append_string {P:Program} {w:World} {ops:Array Oper} {o:Oper} {a:Act} {K:Act→World→Prop} {Q:Exit→Act→World→Prop} {E:Prop} (hgd:o.guard=none) (s x:Operand) (t u:TypeId)
  (ho:o.op=.call { callee:=.builtin .append,args:=#[s,x],argTypes:=#[t,u] })
  (base:Nat) (e:TypeId) (i:TypeInfo) (ht:P.underlying t=some (.slice e)) (hu:P.underlying u=some .string) (hi:P.info? e=some i) (hz:i.zero=some (.int .u8 0)) (hsize:i.size=1) (hby:i.bytes=1)
  (v:Value) (n:Nat) (xs:List Value) (hs:a.eval s=v) (hown:w.ownsRow base e 1 v n xs) (str:ByteArray) (hx:a.eval x=.string str) (h0:0<str.size)
  (h63:n+str.size≤maxLen) (hbytes:n+str.size≤140737488355328) (hbase:base≤w.heap.size) (N:Nat) (hN:n+str.size=N)
  (h:∀ g cap w',w'.ownsRow base e 1 (.slice (some ⟨g,0,none⟩) N cap) N (xs++Lib.strCells str)→w.grownBy w' v.ownBlock→(v.ownBlock=some g∨g=w.heap.size)→K (a.put o.dst (.slice (some ⟨g,0,none⟩) N cap)) w') :
  if Region.wanted o (yielded ops a.tmps)=true then Oper.wp P o a w K Q else E:=by
 have hw:Region.wanted o (yielded ops a.tmps)=true:=by simp [Region.wanted,hgd]
 rw [if_pos hw]
 obtain ⟨v',w',hr,h2,h3,h5⟩:=append_string_at (P:=P) w base t u o.type e i ht hu hi hz hsize hby v n xs hown str h63 hbytes hbase
 rw [hN] at h2
 obtain ⟨g,cap,hv,_,_⟩:=World.ownsRow.form h2 (by omega)
 subst hv
 unfold Oper.wp execOp
 simp only [ho,resolve,invoke,builtin,Sem.run_bind,Sem.run_pure,Result.andThen_ok,List.map_toArray,List.map_cons,List.map_nil,hs,hx,hr]
 exact h g cap w' h2 h3 (h5.imp (fun e=>e.symm) (fun e=>Option.some.inj e))
def FeedRel (b:Nat) (lv dv:Value) (W:World) (c:Ck) (s:List UInt8) (k:Nat) (wr:World):Prop :=
 ∃ r lv' dv',Rd b wr r lv' dv'∧Ch (Fp b lv dv) W wr∧(∀ j,Fp b lv' dv' j→Fp b lv dv j∨W.heap.size≤j)∧CkOk r∧feedC c s=(k+(feedC r (s.drop k)).1,(feedC r (s.drop k)).2)
theorem FeedRel.next {b:Nat} {lv dv lv' dv':Value} {W wr w2:World} {c r r2:Ck} {s:List UInt8} {k m:Nat} (hC:Ch (Fp b lv dv) W wr) (hS:∀ j,Fp b lv' dv' j→Fp b lv dv j∨W.heap.size≤j)
  (hp:RdPost b lv' dv' wr r2 w2) (hok:CkOk r2) (he:feedC c s=(k+(feedC r (s.drop k)).1,(feedC r (s.drop k)).2)) (hs:feedC r (s.drop k)=(m+(feedC r2 (s.drop (k+m))).1,(feedC r2 (s.drop (k+m))).2)):FeedRel b lv dv W c s (k+m) w2:=by
 obtain ⟨lv2,dv2,h1,h2,h3⟩:=RdPost.after hC hS hp
 refine ⟨r2,lv2,dv2,h1,h2,h3,hok,?_⟩
 rw [he,hs];simp;omega
theorem feed_one {r:Ck} {s:List UInt8} {k:Nat} {d:UInt8} (hk:k<s.length) (hd:s[k]=d) (h4:r.st≠4):feedC r (s.drop k)=(1+(feedC (stepC r d) (s.drop (k+1))).1,(feedC (stepC r d) (s.drop (k+1))).2):=by
 rw [List.drop_eq_getElem_cons hk,hd,feed_cons h4,Nat.add_comm]
theorem feed_many {r:Ck} {s:List UInt8} {k m:Nat} (h1:r.st=1) (h0:1≤m) (hl:m≤r.left) (hk:k+m≤s.length) :
  feedC r (s.drop k)=(m+(feedC { r with data:=r.data++(s.drop k).take m,left:=r.left - m,st:=if r.left=m then 2 else 1 } (s.drop (k+m))).1,(feedC { r with data:=r.data++(s.drop k).take m,left:=r.left - m,st:=if r.left=m then 2 else 1 } (s.drop (k+m))).2):=by
 have hl2:((s.drop k).take m).length=m:=by rw [List.length_take,List.length_drop];omega
 have:=feed_app ((s.drop k).take m) ((s.drop k).drop m) r
 rw [List.take_append_drop] at this
 rw [this,feed_data _ h1 (by omega) (by omega),hl2,List.drop_drop]
theorem many_ok {r:Ck} {a:List UInt8} (h:CkOk r) (h1:r.st=1) (h0:1≤a.length) (hl:a.length≤r.left):CkOk { r with data:=r.data++a,left:=r.left - a.length,st:=if r.left=a.length then 2 else 1 }:=by
 have:=feed_ok a h
 rw [feed_data a h1 h0 hl] at this
 exact this
theorem Rd.grown {b:Nat} {W w9:World} {c:Ck} {lv dv v':Value} {a:List UInt8} (hR:Rd b W c lv dv) (h0:0<a.length) {N:Nat} (hN:c.data.length+a.length=N) (hown:w9.ownsRow (b+1) 5 1 v' N (bcells c.data++Lib.strCells ⟨a.toArray⟩)) (hgrow:W.grownBy w9 dv.ownBlock) (hat:v'.ownBlock=dv.ownBlock∨v'.ownBlock=some W.heap.size) :
  (Rd b (w9.setCell ⟨b,3,none⟩ v') { c with data:=c.data++a } lv v'∧Ch (Fp b lv dv) W (w9.setCell ⟨b,3,none⟩ v')∧∀ j,Fp b lv v' j→Fp b lv dv j∨W.heap.size≤j) ∧
  w9.cell? ⟨b,3,none⟩=some dv∧w9.frozen? ⟨b,3,none⟩=false∧w9.cell? ⟨b,2,none⟩=some (.int .i64 c.left)∧w9.frozen? ⟨b,2,none⟩=false∧w9.cell? ⟨b,0,none⟩=some (.int .i64 c.st)∧w9.frozen? ⟨b,0,none⟩=false:=by
 have hown2:OwnB (b+1) w9 v' (c.data++a):=by
  unfold OwnB;rw [List.length_append,bcells_app,←strCells_eq a,hN];exact hown
 obtain ⟨g9,cap9,hv9,_⟩:=OwnB.row hown2 (by simp;omega)
 have hc9:Ch (fun j=>dv.ownBlock=some j) W w9:=ch_grown hgrow
 have hat2:v'.ownBlock=dv.ownBlock∨∀ j,v'.ownBlock=some j→W.heap.size≤j:=by
  rcases hat with e | e
  ·exact .inl e
  ·refine .inr fun j hj=>?_
   rw [e] at hj;injection hj with hj;omega
 have hb9:¬(dv.ownBlock=some b):=fun e=>by have:=hR.d.lt b e;omega
 refine ⟨⟨hR.redata hc9 hown2 hat2,(hc9.mono (fun j hj=>.inr (.inr hj))).trans (fp_set _ _ _),fun j hj=>?_⟩,
  (hc9.cell (p:=⟨b,3,none⟩) hR.lt hb9).trans hR.c3,(hc9.frozen (p:=⟨b,3,none⟩) hR.lt hb9).trans (hR.fz 3),(hc9.cell (p:=⟨b,2,none⟩) hR.lt hb9).trans hR.c2,
  (hc9.frozen (p:=⟨b,2,none⟩) hR.lt hb9).trans (hR.fz 2),(hc9.cell (p:=⟨b,0,none⟩) hR.lt hb9).trans hR.c0,(hc9.frozen (p:=⟨b,0,none⟩) hR.lt hb9).trans (hR.fz 0)⟩
 rcases hj with hj | hj | hj
 ·exact .inl (.inl hj)
 ·exact .inl (.inr (.inl hj))
 ·rcases hat2 with e | e
  ·exact .inl (.inr (.inr (e▸hj)))
  ·exact .inr (e j hj)
theorem cfeed_any (b:Nat) (c:Ck) (s:List UInt8) (lv dv:Value) (W:World) (hG:G W) (hb:5<b) (h:Rd b W c lv dv) (hok:CkOk c) (hl:s.length≤1000000) :
  Calls Tryz.prog 108 #[.pointer (some ⟨b,0,none⟩),.string ⟨s.toArray⟩] W fun e W'=>e=.returned (.int .i64 (feedC c s).1)∧RdPost b lv dv W (feedC c s).2 W':=by
 obtain ⟨i0,hi,hz0,hz1,hz2⟩:=info_parts infoU8
 have h':=hid h
 have hG':=hid hG
 have hb':=hid hb
 have hst:=hid (show FeedRel b lv dv W c s 0 W from ⟨c,lv,dv,h,Ch.refl _ _,fun _ hj=>.inl hj,hok,by simp⟩)
 have hfp:=hid (fun j=>h.fp_lt j)
 have hmx:=hid (cell_lt hG.max.choose_spec)
 clear h hG hb hok
 go_enter Tryz.func108,Tryz.ntmps108
 go_wp2
 go_loopw [5] (fun i wr=>∃ k:Nat,k≤s.length∧i=.int .i64 k∧FeedRel b lv dv W c s k wr) (fun i _=>s.length - (intOf i).toNat)
 case atStart=>exact ⟨0,Nat.zero_le _,rfl,hst.out⟩
 case round =>
  obtain ⟨k,hk,rfl,r,lv',dv',hR,hC,hS,hok,he⟩:=hrel
  have hGr:=hid (hG'.out.ch hC (fun g hg e=>by
   have h1:=hb'.out;have h2:=hfp.out _ e;omega))
  have hR':=hid hR
  have hC':=hid hC
  have hS':=hid hS
  have hok':=hid hok
  have he':=hid he
  have q0:=hR.c0
  by_cases hkl:k<s.length
  ·by_cases h4:r.st=4
   ·rw [h4] at q0
    have hfin:=hid (show feedC c s=(k,r) by rw [he,feed_over h4];rfl)
    clear hR hC hS hok he h4
    go_wp2
    refine bodyPost_ret (v:=.int .i64 k) (by simp [results,Tryz.results108,go_sem]) rfl ⟨by rw [hfin.out],?_⟩
    rw [hfin.out]
    exact ⟨lv',dv',hR'.out,hC'.out,hS'.out⟩
   ·obtain ⟨d,hd⟩:∃ d,(⟨s.toArray⟩:ByteArray)[k]'(by rw [size_mk];exact hkl)=d:=⟨_,rfl⟩
    have hnx:=hid (feed_one hkl (show s[k]=d from hd) h4)
    have hokd:=hid (step_ok d hok h4)
    by_cases h1:r.st=1
    ·rw [h1] at q0
     obtain ⟨o1,o2,o3⟩:=hok.one h1
     obtain ⟨m,hm⟩:∃ m,min r.left (s.length - k)=m:=⟨_,rfl⟩
     have hm0:1≤m:=by omega
     have hml:m≤r.left:=by omega
     have hmk:k+m≤s.length:=by omega
     have hmin:min (r.left:Int) ((s.length:Int) - k)=m:=by omega
     obtain ⟨a,ha⟩:∃ a,(s.drop k).take m=a:=⟨_,rfl⟩
     have hal:a.length=m:=by rw [←ha,List.length_take,List.length_drop];omega
     have hx:(⟨s.toArray⟩:ByteArray).extract k (k+m)=⟨a.toArray⟩:=by rw [extract_mk,←ha];simp [List.drop_take]
     have hnx2:=feed_many h1 hm0 hml hmk
     rw [ha] at hnx2
     have hok2:=many_ok (a:=a) hok h1 (by omega) (by omega)
     rw [hal] at hok2
     have q2:=hR.c2
     have q3:=hR.c3
     obtain ⟨pd,cd,hdv⟩:=ownsRow_slice hR.d
     obtain ⟨km,hkm⟩:∃ km,k+m=km:=⟨_,rfl⟩
     obtain ⟨lm,hlm⟩:∃ lm,r.left - m=lm:=⟨_,rfl⟩
     have hkmI:(k:Int)+m=km:=by omega
     have hlmI:(r.left:Int) - m=lm:=by omega
     have hkm1:(km:Int)≤s.length:=by omega
     have hkm2:(k:Int)≤km:=by omega
     have hkmB:(km:Int)≤1000000:=by omega
     have hkm2n:k≤km:=by omega
     have hwr:IntKind.i64.wrap (km:Int)=km:=by unfold IntKind.wrap;simp [IntKind.bits,IntKind.signed];omega
     have hlo:(r.left:Int)≤4096:=by omega
     have hlmB:(lm:Int)≤4096:=by omega
     rw [hkm] at hx
     rw [hlm] at hnx2 hok2
     have hnx3:=hid hnx2
     have hok3:=hid hok2
     have hm0':1≤(m:Int):=by omega
     have hmB:(m:Int)≤4096:=by omega
     have hkm':=hid hkm
     have hkms:km≤s.length:=by omega
     have hdl:=hid (show r.data.length≤4096 from hok.data)
     have hal':=hid hal
     obtain ⟨n9,hn9⟩:∃ n9,r.data.length+a.length=n9:=⟨_,rfl⟩
     have hn9':=hid hn9
     have hRd:=hid (hR.ch (Ch.drew (fun _=>False) wr) (fun _ h=>h.elim))
     have hblr:=hR.lt
     have hRlt:=hid hblr
     rw [hdv] at q3
     have hdv':=hid hdv
     have h1':=hid h1
     have hkI:(k:Int)<s.length:=by omega
     have hal0:=hid (show 0<a.length by omega)
     clear hR hC hS hok he h4 hm ha hnx2 hok2 hdv hkm o2 o3 hnx hokd hal hn9
     by_cases hz:lm=0
     ·have hlz:((lm:Int)==0)=true:=by rw [beq_iff_eq];omega
      have hH2:=hid (show ({ r with data:=r.data++a,left:=lm,st:=if r.left=m then 2 else 1 }:Ck)={ { { r with data:=r.data++a } with left:=lm } with st:=2 } from by rw [if_pos (by omega)])
      clear hz hlm h1
      go_wp2_with fail
      go_region_law (refine step_append_string (by rfl) (.tmp 44) (.tmp 50) 100 9 (by rfl) (b+1) 5 i0 Tryz.underlying100 Tryz.underlying9 hi hz0 hz1 hz2 dv' r.data.length (bcells r.data) (by exact hdv'.out.symm) hRd.out.d ⟨a.toArray⟩ (by rfl) (by rw [size_mk];exact hal0.out) (by rw [size_mk,hal'.out];have:=hdl.out;unfold maxLen;omega) (by rw [size_mk,hal'.out];have:=hdl.out;omega) hRlt.out n9 (by rw [size_mk];exact hn9'.out) ?_;intro g9 cap9 w9 hown hgrow hat;obtain ⟨hp,u3,y3,u2,y2,u0,y0⟩:=hRd.out.grown hal0.out hn9'.out hown hgrow (hat.imp (fun e=>e.symm) (fun e=>congrArg some e));rw [h1'.out] at u0;have hp':=hid hp;clear hp hown hgrow hat)
      go_wp2
      go_round
      case rel =>
       refine ⟨km,hkms,rfl,?_⟩
       obtain ⟨x1,x2,x3⟩:=hp'.out
       have hpost:RdPost b lv' dv' wr { r with data:=r.data++a,left:=lm,st:=if r.left=m then 2 else 1 } (((w9.setCell ⟨b,3,none⟩ (.slice (some ⟨g9,0,none⟩) n9 cap9)).setCell ⟨b,2,none⟩ (.int .i64 lm)).setCell ⟨b,0,none⟩ (.int .i64 2)):=by
        rw [hH2.out];exact RdPost.after (Ch.drew (Fp b lv' dv') wr) fp_self ⟨lv',_,(x1.set2 lm).set0 2,x2.trans ((fp_set _ _ _).trans (fp_set _ _ _)),x3⟩
       have:=FeedRel.next hC'.out hS'.out hpost hok3.out he'.out (by rw [hnx3.out,hkm'.out])
       rwa [hkm'.out] at this
      case measure=>simp [intOf];omega
     ·have hlz:((lm:Int)==0)=false:=beq_eq_false_iff_ne.2 (by omega)
      have hH2:=hid (show ({ r with data:=r.data++a,left:=lm,st:=if r.left=m then 2 else 1 }:Ck)={ { r with data:=r.data++a } with left:=lm } from by rw [if_neg (by omega),h1])
      clear hz hlm h1
      go_wp2_with fail
      go_region_law (refine step_append_string (by rfl) (.tmp 44) (.tmp 50) 100 9 (by rfl) (b+1) 5 i0 Tryz.underlying100 Tryz.underlying9 hi hz0 hz1 hz2 dv' r.data.length (bcells r.data) (by exact hdv'.out.symm) hRd.out.d ⟨a.toArray⟩ (by rfl) (by rw [size_mk];exact hal0.out) (by rw [size_mk,hal'.out];have:=hdl.out;unfold maxLen;omega) (by rw [size_mk,hal'.out];have:=hdl.out;omega) hRlt.out n9 (by rw [size_mk];exact hn9'.out) ?_;intro g9 cap9 w9 hown hgrow hat;obtain ⟨hp,u3,y3,u2,y2,u0,y0⟩:=hRd.out.grown hal0.out hn9'.out hown hgrow (hat.imp (fun e=>e.symm) (fun e=>congrArg some e));rw [h1'.out] at u0;have hp':=hid hp;clear hp hown hgrow hat)
      go_wp2
      go_round
      case rel =>
       refine ⟨km,hkms,rfl,?_⟩
       obtain ⟨x1,x2,x3⟩:=hp'.out
       have hpost:RdPost b lv' dv' wr { r with data:=r.data++a,left:=lm,st:=if r.left=m then 2 else 1 } ((w9.setCell ⟨b,3,none⟩ (.slice (some ⟨g9,0,none⟩) n9 cap9)).setCell ⟨b,2,none⟩ (.int .i64 lm)):=by
        rw [hH2.out];exact RdPost.after (Ch.drew (Fp b lv' dv') wr) fp_self ⟨lv',_,x1.set2 lm,x2.trans (fp_set _ _ _),x3⟩
       have:=FeedRel.next hC'.out hS'.out hpost hok3.out he'.out (by rw [hnx3.out,hkm'.out])
       rwa [hkm'.out] at this
      case measure=>simp [intOf];omega
    ·by_cases h2:r.st=2
     ·rw [h2] at q0
      have hstep:stepC r d=endC r d:=by unfold stepC;rw [if_neg h1,if_pos h2]
      rw [hstep] at hnx hokd
      have hend:=hid (end_any b r d lv' dv' wr hR (hok.two h2))
      clear hR hC hS hok he h4 h1 h2 hstep
      go_wp2_with fail
      refine (hend.out).mono ?_
      rintro e w2 ⟨rfl,hp⟩
      have hrel2:=hid (FeedRel.next hC'.out hS'.out hp hokd.out he'.out hnx.out)
      clear hp
      go_wp2
      go_round
      case rel=>exact ⟨k+1,by omega,by go_num,hrel2.out⟩
      case measure=>simp [intOf];omega
     ·have hstep:stepC r d=letterC r d:=by unfold stepC;rw [if_neg h1,if_neg h2]
      have hs03:r.st=0∨r.st=3:=by have:=hok.st;omega
      rw [hstep] at hnx hokd
      have hlet:=hid (cletter_any b r d lv' dv' wr hGr.out hb'.out hR hok hs03)
      clear hR hC hS hok he h4 h1 h2 hstep
      rcases hs03 with h0 | h0
      all_goals
       rw [h0] at q0
       clear h0
       go_wp2_with fail
       refine (hlet.out).mono ?_
       rintro e w2 ⟨rfl,hp⟩
       have hrel2:=hid (FeedRel.next hC'.out hS'.out hp hokd.out he'.out hnx.out)
       clear hp
       go_wp2
       go_round
       case rel=>exact ⟨k+1,by omega,by go_num,hrel2.out⟩
       case measure=>simp [intOf];omega
  ·obtain rfl:k=s.length:=by omega
   have hfin:=hid (show feedC c s=(s.length,r) by rw [he,List.drop_length];rfl)
   clear hR hC hS hok he
   go_wp2
   refine bodyPost_ret (v:=.int .i64 s.length) (by simp [results,Tryz.results108,go_sem]) rfl ⟨by rw [hfin.out],?_⟩
   rw [hfin.out]
   exact ⟨lv',dv',hR'.out,hC'.out,hS'.out⟩
theorem cfeed_is (b:Nat) (c c':Ck) (s:List UInt8) (n:Nat) (he:feedC c s=(n,c')) (lv dv:Value) (W:World) (hG:G W) (hb:5<b) (h:Rd b W c lv dv) (hok:CkOk c) (hl:s.length≤1000000) :
  Calls Tryz.prog 108 #[.pointer (some ⟨b,0,none⟩),.string ⟨s.toArray⟩] W fun e W'=>e=.returned (.int .i64 n)∧RdPost b lv dv W c' W':=by
 have:=cfeed_any b c s lv dv W hG hb h hok hl
 rw [he] at this;exact this
theorem done_is (b:Nat) (c:Ck) (f:Bool) (hf:decide (c.st=4∧c.bad=0)=f) (lv dv:Value) (W:World) (h:Rd b W c lv dv) :
  Calls Tryz.prog 111 #[.pointer (some ⟨b,0,none⟩)] W fun e W'=>e=.returned (.bool f)∧W=W':=hf▸done_any b c lv dv W h
end Go.Proofs.YtadobobfjnmdlaaGreatDoor
namespace Go.Proofs.YtadobobfjnmdlaaGreatDoor
open Go.RowKit
def ChAt (T:Nat→Prop) (W:World) (o:Option Ck) (cv:Value):Prop:=match o with
 | none=>cv=.pointer none
 | some c=>∃ b lv dv,cv=.pointer (some ⟨b,0,none⟩)∧Rd b W c lv dv∧CkOk c∧5<b∧∀ k,Fp b lv dv k→T k
def FOut (T:Nat→Prop) (v:Value):Prop:=∀ a n c,v=.slice (some a) n c→¬T a.block
structure PsAt (B:Nat) (T:Nat→Prop) (W:World) (p:Ps) (fv cv:Value):Prop where
 c0:W.cell? ⟨B,0,none⟩=some (.string ⟨p.inp.toArray⟩)
 c1:W.cell? ⟨B,1,none⟩=some (.string ⟨p.und.toArray⟩)
 c2:W.cell? ⟨B,2,none⟩=some (.bool p.head)
 c3:W.cell? ⟨B,3,none⟩=some (.string ⟨p.r.m.toArray⟩)
 c4:W.cell? ⟨B,4,none⟩=some (.string ⟨p.r.p.toArray⟩)
 c5:W.cell? ⟨B,5,none⟩=some (.string ⟨p.r.q.toArray⟩)
 c6:W.cell? ⟨B,6,none⟩=some (.int .i64 p.r.v)
 c7:W.cell? ⟨B,7,none⟩=some fv
 c8:W.cell? ⟨B,8,none⟩=some (.string ⟨p.r.b.toArray⟩)
 c9:W.cell? ⟨B,9,none⟩=some (.bool p.r.c)
 c10:W.cell? ⟨B,10,none⟩=some (.int .i64 p.len)
 c11:W.cell? ⟨B,11,none⟩=some cv
 c12:W.cell? ⟨B,12,none⟩=some (.int .i64 p.bad)
 fz:∀ o,W.frozen? ⟨B,o,none⟩=false
 f:FieldsAt W fv p.r.fs
 fo:FOut T fv
 ch:ChAt (fun k=>T k∧k≠B) W p.ch cv
 tb:T B
 tl:∀ k,T k→B≤k∧k<W.heap.size
 gb:5<B
 fb:∀ a n c,fv=.slice (some a) n c→a.block<W.heap.size
theorem FieldsAt.ch {T:Nat→Prop} {W W':World} {v:Value} {fs:List Fl} (h:FieldsAt W v fs) (hc:Ch T W W') (ho:FOut T v):FieldsAt W' v fs:=by
 obtain ⟨p,cap,e,hcs⟩:=h
 refine ⟨p,cap,e,fun i hi=>?_⟩
 obtain ⟨b,off,hp,h1,h2⟩:=hcs i hi
 have hb:¬T b:=ho ⟨b,off,none⟩ _ _ (by rw [e,hp])
 exact ⟨b,off,hp,(hc.cell (p:=⟨b,off+i*2,none⟩) (cell_lt h1) hb).trans h1,(hc.cell (p:=⟨b,off+i*2+1,none⟩) (cell_lt h2) hb).trans h2⟩
theorem ChAt.gr {T:Nat→Prop} {W W':World} {o:Option Ck} {cv:Value} (h:ChAt T W o cv) (hg:Gr W W'):ChAt T W' o cv:=by
 cases o with
 | none=>exact h
 | some c =>
  obtain ⟨b,lv,dv,h1,h2,h3⟩:=h
  exact ⟨b,lv,dv,h1,h2.gr hg,h3⟩
theorem ChAt.ch {T S:Nat→Prop} {W W':World} {o:Option Ck} {cv:Value} (h:ChAt T W o cv) (hc:Ch S W W') (hd:∀ k,S k→¬T k):ChAt T W' o cv:=by
 cases o with
 | none=>exact h
 | some c =>
  obtain ⟨b,lv,dv,h1,h2,h3,h4,h5⟩:=h
  exact ⟨b,lv,dv,h1,h2.ch hc (fun k hk hf=>hd k hk (h5 k hf)),h3,h4,h5⟩
theorem PsAt.lt {B:Nat} {T:Nat→Prop} {W:World} {p:Ps} {fv cv:Value} (h:PsAt B T W p fv cv):B<W.heap.size:=cell_lt h.c0
theorem PsAt.gr {B:Nat} {T:Nat→Prop} {W W':World} {p:Ps} {fv cv:Value} (h:PsAt B T W p fv cv) (hg:Gr W W'):PsAt B T W' p fv cv :=
 ⟨hg.cell h.c0,hg.cell h.c1,hg.cell h.c2,hg.cell h.c3,hg.cell h.c4,hg.cell h.c5,hg.cell h.c6,hg.cell h.c7,hg.cell h.c8,hg.cell h.c9,hg.cell h.c10,hg.cell h.c11,hg.cell h.c12,
  fun o=>(Below.frozen hg (show (⟨B,o,none⟩:Addr).block<W.heap.size from h.lt)).trans (h.fz o),h.f.gr hg,h.fo,h.ch.gr hg,h.tb,fun k hk=>⟨(h.tl k hk).1,Nat.lt_of_lt_of_le (h.tl k hk).2 (Below.size hg)⟩,h.gb,fun a n c e=>Nat.lt_of_lt_of_le (h.fb a n c e) (Below.size hg)⟩
theorem PsAt.ch_out {B:Nat} {T S:Nat→Prop} {W W':World} {p:Ps} {fv cv:Value} (h:PsAt B T W p fv cv) (hc:Ch S W W') (hd:∀ k,S k→¬T k) (hf:FOut S fv):PsAt B T W' p fv cv:=by
 have hB:¬S B:=fun e=>hd B e h.tb
 have cell:∀ {o v},W.cell? ⟨B,o,none⟩=some v→W'.cell? ⟨B,o,none⟩=some v:=fun {o v} hh=>(hc.cell (p:=⟨B,o,none⟩) h.lt hB).trans hh
 exact ⟨cell h.c0,cell h.c1,cell h.c2,cell h.c3,cell h.c4,cell h.c5,cell h.c6,cell h.c7,cell h.c8,cell h.c9,cell h.c10,cell h.c11,cell h.c12,
  fun o=>(hc.frozen (p:=⟨B,o,none⟩) h.lt hB).trans (h.fz o),h.f.ch hc hf,h.fo,h.ch.ch hc (fun k hk ht=>hd k hk ht.1),h.tb,fun k hk=>⟨(h.tl k hk).1,Nat.lt_of_lt_of_le (h.tl k hk).2 hc.size⟩,h.gb,fun a n c e=>Nat.lt_of_lt_of_le (h.fb a n c e) hc.size⟩
def PsPost (B:Nat) (T:Nat→Prop) (W:World) (p':Ps) (W':World):Prop :=
 ∃ T' fv cv,PsAt B T' W' p' fv cv∧Ch T W W'∧(∀ k,T' k→T k∨W.heap.size≤k)∧∀ a n c,fv=.slice (some a) n c→(∃ n0 c0,W.cell? ⟨B,7,none⟩=some (.slice (some a) n0 c0))∨W.heap.size≤a.block
theorem PsPost.trans {B:Nat} {T:Nat→Prop} {W W1 W2:World} {p1 p2:Ps} (h:PsPost B T W p1 W1) (k:∀ T1 fv cv,PsAt B T1 W1 p1 fv cv→PsPost B T1 W1 p2 W2):PsPost B T W p2 W2:=by
 obtain ⟨T1,fv1,cv1,h1,h2,h3,h4⟩:=h
 obtain ⟨T2,fv2,cv2,k1,k2,k3,k4⟩:=k T1 fv1 cv1 h1
 have hs:=h2.size
 refine ⟨T2,fv2,cv2,k1,?_,fun j hj=>?_,fun a n c e=>(k4 a n c e).elim (fun ⟨n0,c0,e2⟩=>h4 a n0 c0 (Option.some.inj (h1.c7.symm.trans e2))) (fun e=>.inr (by omega))⟩
 ·refine ⟨k2.os.trans h2.os,k2.tape.trans h2.tape,k2.output.trans h2.output,Nat.le_trans h2.size k2.size,fun j hj hn=>?_⟩
  have:¬T1 j:=fun e=>(h3 j e).elim hn (by omega)
  exact (k2.block j (by omega) this).trans (h2.block j hj hn)
 ·rcases k3 j hj with e | e
  ·exact h3 j e
  ·exact .inr (by omega)
theorem PsPost.G {B:Nat} {T:Nat→Prop} {W W1:World} {p p':Ps} {fv cv:Value} (h:PsPost B T W p' W1) (hp:PsAt B T W p fv cv) (hG:G W):G W1:=by
 obtain ⟨_,_,_,_,h2,_,_⟩:=h
 exact hG.ch h2 (fun g hg hk=>by have:=(hp.tl g hk).1;have:=hp.gb;omega)
theorem PsPost.of_gr {B:Nat} {T:Nat→Prop} {W W':World} {p:Ps} {fv cv:Value} (hp:PsAt B T W p fv cv) (hg:Gr W W'):PsPost B T W p W' :=
 ⟨T,fv,cv,hp.gr hg,hg.to_ch T,fun _ hk=>.inl hk,fun _a n c e=>.inl ⟨n,c,e▸hp.c7⟩⟩
theorem PsPost.ahead {B:Nat} {T:Nat→Prop} {W W1 W2:World} {p':Ps} (hB:B<W.heap.size) (hg:Gr W W1) (h:PsPost B T W1 p' W2):PsPost B T W p' W2:=by
 obtain ⟨T2,fv,cv,h1,h2,h3,h4⟩:=h
 have hs:=Below.size hg
 exact ⟨T2,fv,cv,h1,(hg.to_ch T).trans h2,fun k hk=>(h3 k hk).imp id (fun e=>by omega),fun a n c e=>(h4 a n c e).elim (fun ⟨n0,c0,e2⟩=>.inl ⟨n0,c0,(Below.cell hg (p:=⟨B,7,none⟩) hB).symm.trans e2⟩) (fun e=>.inr (by omega))⟩
theorem PsPost.behind {B:Nat} {T:Nat→Prop} {W W1 W2:World} {p':Ps} (h:PsPost B T W p' W1) (hg:Gr W1 W2):PsPost B T W p' W2:=by
 obtain ⟨T2,fv,cv,h1,h2,h3,h4⟩:=h
 exact ⟨T2,fv,cv,h1.gr hg,h2.trans (hg.to_ch T),h3,h4⟩
theorem Ch.putB {B o:Nat} (W:World) (v:Value):Ch (fun k=>k=B) W (W.setCell ⟨B,o,none⟩ v):=Ch.setCell (T:=fun k=>k=B) W (a:=⟨B,o,none⟩) rfl v
theorem ChAt.put {T:Nat→Prop} {B:Nat} {W:World} {o:Option Ck} {cv:Value} (h:ChAt (fun k=>T k∧k≠B) W o cv) (j:Nat) (v:Value):ChAt (fun k=>T k∧k≠B) (W.setCell ⟨B,j,none⟩ v) o cv :=
 h.ch (Ch.putB W v) (fun _ hk ht=>ht.2 hk)
theorem FieldsAt.putB {T:Nat→Prop} {B:Nat} {W:World} {fv:Value} {fs:List Fl} (h:FieldsAt W fv fs) (ho:FOut T fv) (hT:T B) (j:Nat) (v:Value):FieldsAt (W.setCell ⟨B,j,none⟩ v) fv fs :=
 h.ch (Ch.putB W v) (fun a n c e hk=>ho a n c e (by rw [show a.block=B from hk];exact hT))
end Go.Proofs.YtadobobfjnmdlaaGreatDoor
namespace Go.Proofs.YtadobobfjnmdlaaGreatDoor
open Go.RowKit
attribute [local go_sem] Oper.semAt_some
theorem PsAt.two {B:Nat} {T:Nat→Prop} {W:World} {p:Ps} {fv cv:Value} (h:PsAt B T W p fv cv) (i u:List UInt8) :
  PsAt B T ((W.setCell ⟨B,1,none⟩ (.string ⟨u.toArray⟩)).setCell ⟨B,0,none⟩ (.string ⟨i.toArray⟩)) { p with inp:=i,und:=u } fv cv:=by
 refine ⟨?_,?_,?_,?_,?_,?_,?_,?_,?_,?_,?_,?_,?_,fun o=>by simp [go_sem,h.fz],(h.f.putB h.fo h.tb 1 _).putB h.fo h.tb 0 _,h.fo,(h.ch.put 1 _).put 0 _,h.tb,fun k hk=>⟨(h.tl k hk).1,by simpa using (h.tl k hk).2⟩,h.gb,fun a n c e=>by simpa using h.fb a n c e⟩
 all_goals simp [go_sem,h.c0,h.c1,h.c2,h.c3,h.c4,h.c5,h.c6,h.c7,h.c8,h.c9,h.c10,h.c11,h.c12]
theorem PsAt.inp {B:Nat} {T:Nat→Prop} {W:World} {p:Ps} {fv cv:Value} (h:PsAt B T W p fv cv) (i:List UInt8) :
  PsAt B T (W.setCell ⟨B,0,none⟩ (.string ⟨i.toArray⟩)) { p with inp:=i } fv cv:=by
 refine ⟨?_,?_,?_,?_,?_,?_,?_,?_,?_,?_,?_,?_,?_,fun o=>by simp [go_sem,h.fz],h.f.putB h.fo h.tb 0 _,h.fo,h.ch.put 0 _,h.tb,fun k hk=>⟨(h.tl k hk).1,by simpa using (h.tl k hk).2⟩,h.gb,fun a n c e=>by simpa using h.fb a n c e⟩
 all_goals simp [go_sem,h.c0,h.c1,h.c2,h.c3,h.c4,h.c5,h.c6,h.c7,h.c8,h.c9,h.c10,h.c11,h.c12]
theorem PsAt.sbad {B:Nat} {T:Nat→Prop} {W:World} {p:Ps} {fv cv:Value} (h:PsAt B T W p fv cv) (n:Nat) :
  PsAt B T (W.setCell ⟨B,12,none⟩ (.int .i64 n)) { p with bad:=n } fv cv:=by
 refine ⟨?_,?_,?_,?_,?_,?_,?_,?_,?_,?_,?_,?_,?_,fun o=>by simp [go_sem,h.fz],h.f.putB h.fo h.tb 12 _,h.fo,h.ch.put 12 _,h.tb,fun k hk=>⟨(h.tl k hk).1,by simpa using (h.tl k hk).2⟩,h.gb,fun a n c e=>by simpa using h.fb a n c e⟩
 all_goals simp [go_sem,h.c0,h.c1,h.c2,h.c3,h.c4,h.c5,h.c6,h.c7,h.c8,h.c9,h.c10,h.c11,h.c12]
theorem PsAt.shead {B:Nat} {T:Nat→Prop} {W:World} {p:Ps} {fv cv:Value} (h:PsAt B T W p fv cv) (b:Bool) :
  PsAt B T (W.setCell ⟨B,2,none⟩ (.bool b)) { p with head:=b } fv cv:=by
 refine ⟨?_,?_,?_,?_,?_,?_,?_,?_,?_,?_,?_,?_,?_,fun o=>by simp [go_sem,h.fz],h.f.putB h.fo h.tb 2 _,h.fo,h.ch.put 2 _,h.tb,fun k hk=>⟨(h.tl k hk).1,by simpa using (h.tl k hk).2⟩,h.gb,fun a n c e=>by simpa using h.fb a n c e⟩
 all_goals simp [go_sem,h.c0,h.c1,h.c2,h.c3,h.c4,h.c5,h.c6,h.c7,h.c8,h.c9,h.c10,h.c11,h.c12]
theorem PsAt.chT {B o:Nat} {T:Nat→Prop} {W:World} {p:Ps} {fv cv:Value} (h:PsAt B T W p fv cv) (v:Value):Ch T W (W.setCell ⟨B,o,none⟩ v):=Ch.setCell W (a:=⟨B,o,none⟩) h.tb v
theorem PsPost.put1 {B o:Nat} {T:Nat→Prop} {W:World} {p p':Ps} {fv cv:Value} (h:PsAt B T W p fv cv) (v:Value) (h':PsAt B T (W.setCell ⟨B,o,none⟩ v) p' fv cv):PsPost B T W p' (W.setCell ⟨B,o,none⟩ v) :=
 ⟨T,fv,cv,h',h.chT v,fun _ hk=>.inl hk,fun _a n c e=>.inl ⟨n,c,e▸h.c7⟩⟩
theorem pfeed_any (B:Nat) (T:Nat→Prop) (p:Ps) (fv cv:Value) (s:List UInt8) (W:World) (h:PsAt B T W p fv cv) (hl:p.inp.length+s.length≤4611686018427387904) :
  Calls Tryz.prog 39 #[.pointer (some ⟨B,0,none⟩),.string ⟨s.toArray⟩] W fun e W'=>e=.returned (.tuple #[])∧PsPost B T W (feedQ p s) W':=by
 have h':=hid h
 have c0:=h.c0
 have c12:=h.c12
 have fz:=h.fz
 by_cases hb:p.bad=0
 ·have hq:=hid (show feedQ p s={ p with inp:=p.inp++s } by unfold feedQ;rw [if_pos hb])
  rw [hb] at c12
  have hcat:(⟨p.inp.toArray⟩:ByteArray)++⟨s.toArray⟩=⟨(p.inp++s).toArray⟩:=cat_mk p.inp s
  have hcl:¬9223372036854775807<p.inp.length+s.length:=by omega
  clear hb h
  go_enter Tryz.func39,Tryz.ntmps39
  go_wp2
  go_end0
  exact ⟨rfl,by rw [hq.out];exact PsPost.put1 h'.out _ (h'.out.inp _)⟩
 ·have hq:=hid (show feedQ p s=p by unfold feedQ;rw [if_neg hb])
  have hbI:((p.bad:Int)==0)=false:=beq_eq_false_iff_ne.2 (by omega)
  clear hb h
  go_enter Tryz.func39,Tryz.ntmps39
  go_wp2
  go_end0
  exact ⟨rfl,by rw [hq.out];exact PsPost.of_gr h'.out (Gr.refl _)⟩
theorem takes_any (B:Nat) (T:Nat→Prop) (p:Ps) (fv cv:Value) (n:Nat) (W:World) (h:PsAt B T W p fv cv) (hn:n≤p.inp.length) (hl:p.inp.length+p.und.length≤4611686018427387904) :
  Calls Tryz.prog 107 #[.pointer (some ⟨B,0,none⟩),.int .i64 n] W fun e W'=>e=.returned (.tuple #[])∧PsPost B T W (takesQ p n) W':=by
 have h':=hid h
 have hnI:(n:Int)≤p.inp.length:=by omega
 have hex1:(⟨p.inp.toArray⟩:ByteArray).extract 0 n=⟨(p.inp.take n).toArray⟩:=by rw [extract_mk];simp
 have hex2:(⟨p.inp.toArray⟩:ByteArray).extract n p.inp.length=⟨(p.inp.drop n).toArray⟩:=by rw [extract_mk,List.take_of_length_le (Nat.le_refl _)]
 have htl:(p.inp.take n).length≤p.inp.length:=by rw [List.length_take];omega
 obtain ⟨x1,hx1⟩:∃ x,p.inp.take n=x:=⟨_,rfl⟩
 obtain ⟨x2,hx2⟩:∃ x,p.inp.drop n=x:=⟨_,rfl⟩
 have hq:=hid (show takesQ p n={ p with inp:=x2,und:=p.und++x1 } by unfold takesQ;rw [hx1,hx2])
 rw [hx1] at hex1 htl
 rw [hx2] at hex2
 have hcat:(⟨p.und.toArray⟩:ByteArray)++⟨x1.toArray⟩=⟨(p.und++x1).toArray⟩:=cat_mk p.und x1
 have hcl:¬9223372036854775807<p.und.length+x1.length:=by omega
 haveI:Nonempty (Later (Gr W)):=⟨⟨W,Gr.refl W⟩⟩
 have t0:∀ x:Later (Gr W),x.w.cell? ⟨B,0,none⟩=some (.string ⟨p.inp.toArray⟩):=fun x=>x.ok.cell h.c0
 have t1:∀ x:Later (Gr W),x.w.cell? ⟨B,1,none⟩=some (.string ⟨p.und.toArray⟩):=fun x=>x.ok.cell h.c1
 clear h hx1 hx2 htl hn
 go_enter Tryz.func107,Tryz.ntmps107
 go_upto_region 0 with (fail)
 refine wp_region_later_tail (C:=Gr W) 13 (by kernel_rfl) (by kernel_rfl) (Gr.drew' _) ?_
 simp only [List.take_succ_cons,List.take_zero,List.drop_succ_cons,List.drop_zero]
 repeat (go_big_quiet_step (fail))
 refine wpQuiet_nil ?_
 intro w9 hg9
 have h9:=h'.out.gr hg9
 have h9':=hid h9
 have c0:=h9.c0
 have c1:=h9.c1
 have fz:=h9.fz
 have hg:=hid hg9
 clear t0 t1 h9 hg9
 go_wp2
 go_end0
 exact ⟨rfl,by
  rw [hq.out]
  exact PsPost.ahead h'.out.lt hg.out ⟨T,fv,cv,h9'.out.two x2 (p.und++x1),(h9'.out.chT _).trans (Ch.setCell _ (a:=⟨B,0,none⟩) h9'.out.tb _),fun _ hk=>.inl hk,fun a n c e=>.inl ⟨n,c,e▸h9'.out.c7⟩⟩⟩
theorem pbad_any (B:Nat) (T:Nat→Prop) (p:Ps) (fv cv:Value) (W:World) (h:PsAt B T W p fv cv) :
  Calls Tryz.prog 69 #[.pointer (some ⟨B,0,none⟩)] W fun e W'=>e=.returned (.int .i64 p.bad)∧W=W':=by
 have c12:=h.c12
 clear h
 go_enter Tryz.func69,Tryz.ntmps69
 go_wp2
 go_ret
 exact ⟨rfl,rfl⟩
end Go.Proofs.YtadobobfjnmdlaaGreatDoor
