/-
  Walks over package hand: has one of the fields of a name a part; the only field of a name.
-/
import Derived.Test.YtadobobfjnmdlaaGreatDoorHa
set_option linter.unnecessarySimpa false
set_option linter.unusedVariables false
set_option linter.unusedSimpArgs false
set_option maxHeartbeats 16000000
set_option maxRecDepth 100000
open Go.Lib (hid)
open Go.Proofs.Tryz
namespace Go.Proofs.YtadobobfjnmdlaaGreatDoor
open Go.RowKit
attribute [local go_sem] Oper.semAt_some
def Short (fs:List Fl):Prop:=fs.length≤1000000∧∀ f∈fs,f.1.length≤800000∧f.2.length≤800000
theorem getB_short {fs:List Fl} (h:Short fs) (name:List UInt8):(getB fs name).1.length≤800000∧(getB fs name).2≤1000000:=by
 refine⟨?_,Nat.le_trans (getB_le fs name) h.1⟩
 unfold getB
 cases hq:(fs.filter λf=>alikeB f.1 name) with
 | nil=>simp
 | cons f t =>
  have hm:f∈fs.filter λf=>alikeB f.1 name:=by rw[hq];exact List.mem_cons_self ..
  simpa using (h.2 f (List.mem_filter.1 hm).1).2
theorem one_any (v:Value) (fs:List Fl) (name:List UInt8) (w:World) (hG:G w) (hf:FieldsAt w v fs) (hs:Short fs) (hln:name.length≤1000) :
  Calls prog 138 #[v,.string ⟨name.toArray⟩] w λe w'=>e=.returned (.tuple #[.string ⟨(oneB fs name).1.toArray⟩,.bool (oneB fs name).2])∧Gr w w':=by
 obtain⟨⟨x,n⟩,hx⟩:∃ x,getB fs name=x:=⟨_,rfl⟩
 have hn:=(getB_short hs name).2
 rw[hx] at hn
 dsimp only at hn
 have hget:=hid (get_any v fs name w hG hf (by have:=hs.1;omega) (λf hf=>by have:=(hs.2 f hf).1;omega) (by omega))
 rw[hx] at hget
 have hb:((n:Int)==1)=(n==1):=by rw[Bool.eq_iff_iff];simp;omega
 have hH:=hid (show oneB fs name=(x,n==1) by unfold oneB;rw[hx])
 rw[hH.out]
 obtain⟨f,hfd⟩:∃ f,(n==1)=f:=⟨_,rfl⟩
 rw[hfd] at hb ⊢
 clear hx hfd
 obtain⟨p,cap,rfl,_⟩:=hf
 go_enter func138,ntmps138
 go_wp2_with fail
 refine hget.out.mono ?_
 rintro e w1⟨rfl,hg⟩
 go_wp2
 go_ret2
 exact⟨rfl,hg⟩
theorem asks_any (v:Value) (fs:List Fl) (name word:List UInt8) (w:World) (hG:G w) (hf:FieldsAt w v fs) (hs:Short fs) (hln:name.length≤1000) (hlw:word.length≤1000) :
  Calls prog 140 #[v,.string ⟨name.toArray⟩,.string ⟨word.toArray⟩] w λe w'=>e=.returned (.bool (asksB fs name word))∧Gr w w':=by
 have hs':=hid hs
 have hG':=hid hG
 have hfl:(fs.length:Int)≤1000000:=by have:=hs.1;omega
 obtain⟨p,cap,rfl,hc⟩:=hf
 have hc':=hid hc
 obtain⟨R,hR⟩:∃ R,asksB fs name word=R:=⟨_,rfl⟩
 rw[hR]
 have hR':=hid hR
 clear hc hs hG hR
 go_enter func140,ntmps140
 go_wp2
 go_loopw [11] (λi wr=>(∃ k:Nat,k≤fs.length∧i=.int .i64 k∧asksB (fs.take k) name word=false)∧Gr w wr) (λi _=>fs.length - (intOf i).toNat)
 case atStart=>exact⟨⟨0,Nat.zero_le _,rfl,rfl⟩,Gr.refl _⟩
 case round =>
  obtain⟨⟨k,hk,rfl,ha0⟩,hg⟩:=hrel
  have ha0':=hid ha0
  clear ha0
  by_cases hlt:k<fs.length
  ·obtain⟨b,off,rfl,h1,h2⟩:=hc'.out k hlt
   have c1:=hg.cell h1
   have c2:=hg.cell h2
   have hg':=hid (hg.trans (Gr.alloc wr (.cells #[.string ⟨fs[k].1.toArray⟩,.string ⟨fs[k].2.toArray⟩] 80)))
   have hts:=hid (List.take_succ_eq_append_getElem hlt)
   obtain⟨f,hfd⟩:∃ f,fs[k]=f:=⟨_,rfl⟩
   have hmem:f∈fs:=hfd▸List.getElem_mem hlt
   obtain⟨hf1,hf2⟩:=hs'.out.2 f hmem
   rw[hfd] at c1 c2 hts hg'
   have hany:=hid (show (alikeB f.1 name&&hasB f.2 word)=true→R=true from λh=>by
    rw[←hR'.out];unfold asksB;exact List.any_eq_true.2 ⟨f,hmem,h⟩)
   have hkI:(k:Int)<fs.length:=by omega
   clear hfd h1 h2 hg hmem
   have hal:=hid (λW h=>alike_any f.1 name W h (by omega) (by omega))
   have hha:=hid (λW h=>has_any f.2 word W h (by omega) (by omega))
   cases ha:alikeB f.1 name
   ·rw[ha] at hal
    have hn:=hid (show asksB (fs.take (k+1)) name word=false by rw[hts.out];unfold asksB;rw[List.any_append];have:=ha0'.out;unfold asksB at this;rw[this];simp[ha])
    clear ha
    go_wp2_with fail
    refine (hal.out _ (hG'.out.gr hg'.out)).mono ?_
    rintro e w2⟨rfl,hb⟩
    have hg2:=hid (hg'.out.trans hb)
    clear hb
    go_wp2
    go_roundw
    case rel=>exact⟨⟨k+1,by omega,by go_num,hn.out⟩,hg2.out⟩
    case measure=>simp[intOf];omega
   ·rw[ha] at hal
    cases hh:hasB f.2 word
    ·rw[hh] at hha
     have hn:=hid (show asksB (fs.take (k+1)) name word=false by rw[hts.out];unfold asksB;rw[List.any_append];have:=ha0'.out;unfold asksB at this;rw[this];simp[ha,hh])
     clear ha hh
     have q1:(wr.alloc (.cells #[.string ⟨f.1.toArray⟩,.string ⟨f.2.toArray⟩] 80)).cell? ⟨wr.heap.size,1,none⟩=some (.string ⟨f.2.toArray⟩):=by simp[go_sem]
     go_wp2_with fail
     refine (hal.out _ (hG'.out.gr hg'.out)).mono ?_
     rintro e w2⟨rfl,hb⟩
     have hg2:=hid (hg'.out.trans hb)
     replace q1:=hb.cell q1
     clear hb
     go_wp2_with fail
     refine (hha.out _ (hG'.out.gr hg2.out)).mono ?_
     rintro e w3⟨rfl,hb⟩
     have hg3:=hid (hg2.out.trans hb)
     clear hb q1
     go_wp2
     go_roundw
     case rel=>exact⟨⟨k+1,by omega,by go_num,hn.out⟩,hg3.out⟩
     case measure=>simp[intOf];omega
    ·rw[hh] at hha
     have hfin:=hid (hany.out (by rw[ha,hh];rfl))
     clear ha hh
     have q1:(wr.alloc (.cells #[.string ⟨f.1.toArray⟩,.string ⟨f.2.toArray⟩] 80)).cell? ⟨wr.heap.size,1,none⟩=some (.string ⟨f.2.toArray⟩):=by simp[go_sem]
     go_wp2_with fail
     refine (hal.out _ (hG'.out.gr hg'.out)).mono ?_
     rintro e w2⟨rfl,hb⟩
     have hg2:=hid (hg'.out.trans hb)
     replace q1:=hb.cell q1
     clear hb
     go_wp2_with fail
     refine (hha.out _ (hG'.out.gr hg2.out)).mono ?_
     rintro e w3⟨rfl,hb⟩
     have hg3:=hid (hg2.out.trans hb)
     clear hb q1
     go_wp2
     go_ret
     exact⟨by rw[hfin.out];rfl,hg3.out⟩
  ·have hkI:¬(k:Int)<fs.length:=by omega
   have hfin:=hid (show R=false by rw[←hR'.out,←ha0'.out,List.take_of_length_le (by omega)])
   go_wp2
   go_ret
   exact⟨by rw[hfin.out];rfl,hg⟩
theorem decode_is {s:List UInt8} {x:Option (List UInt8)} (h:decL s=x) (hs:s.length≤1000000) (w:World):Calls prog 139 #[.string ⟨s.toArray⟩] w λe w'=>e=.returned (dcV x)∧Gr w w':=h▸decode_any s hs w
def ckV (x:List UInt8×Nat):Value:=.tuple #[.string ⟨x.1.toArray⟩,.int .i64 x.2]
theorem check_any (r:Rq) (t:Value) (w:World) (hG:G w) (hf:FieldsAt w t r.fs) (hs:Short r.fs) :
  Calls prog 112 #[r.V t] w λe w'=>e=.returned (ckV (checkB r))∧Gr w w':=by
 obtain⟨R,hR⟩:∃ R,checkB r=R:=⟨_,rfl⟩
 rw[hR]
 obtain⟨⟨hv,h1⟩,hx1⟩:∃ x,oneB r.fs kHost=x:=⟨_,rfl⟩
 obtain⟨⟨kv,k1⟩,hx2⟩:∃ x,oneB r.fs kKey=x:=⟨_,rfl⟩
 obtain⟨⟨vv,v1⟩,hx3⟩:∃ x,oneB r.fs kVer=x:=⟨_,rfl⟩
 obtain⟨d,hd⟩:∃ d,decL kv=d:=⟨_,rfl⟩
 have hkl:kv.length≤800000:=by have:=(getB_short hs kKey).1;have e:(oneB r.fs kKey).1=(getB r.fs kKey).1:=rfl;rw[hx2] at e;dsimp only at e;rw[e];exact this
 have hR':=hid (show R=if (r.m != kGET||(r.v != 11||(!h1||(!k1||!v1)))) then ([],400)
   else if (!asksB r.fs kUpg kWs||!asksB r.fs kConn kupg) then ([],400)
   else match d with
    | none=>([],400)
    | some t=>if t.length≠16 then ([],400) else if vv≠k13 then ([],426) else (acceptL kv,101) by
  rw[←hR];unfold checkB;rw[hx1,hx2,hx3];dsimp only;rw[hd];rfl)
 have o1:=hid (λW (hg:Gr w W)=>one_any t r.fs kHost W (hG.gr hg) (hf.gr hg) hs (by decide))
 have o2:=hid (λW (hg:Gr w W)=>one_any t r.fs kKey W (hG.gr hg) (hf.gr hg) hs (by decide))
 have o3:=hid (λW (hg:Gr w W)=>one_any t r.fs kVer W (hG.gr hg) (hf.gr hg) hs (by decide))
 rw[hx1] at o1
 rw[hx2] at o2
 rw[hx3] at o3
 have od:=hid (λW=>decode_is hd (by omega) W)
 have a1:=hid (λW (hg:Gr w W)=>asks_any t r.fs kUpg kWs W (hG.gr hg) (hf.gr hg) hs (by decide) (by decide))
 have a2:=hid (λW (hg:Gr w W)=>asks_any t r.fs kConn kupg W (hG.gr hg) (hf.gr hg) hs (by decide) (by decide))
 have oa:=hid (λW=>accept_any kv hkl W)
 obtain⟨y1,hy1⟩:∃ y,asksB r.fs kUpg kWs=y:=⟨_,rfl⟩
 obtain⟨y2,hy2⟩:∃ y,asksB r.fs kConn kupg=y:=⟨_,rfl⟩
 rw[hy1] at a1
 rw[hy2] at a2
 rw[hy1,hy2] at hR'
 obtain⟨p,cap,ht,_⟩:=hf
 subst ht
 clear hR hx1 hx2 hx3 hd hG hs hy1 hy2 hkl
 unfold Rq.V
 obtain⟨m,pp,q,ver,fs,bd,cl⟩:=r
 dsimp only at hR' o1 o2 o3 a1 a2 ⊢
 go_enter func112,ntmps112
 go_wp2_with fail
 have g0:=hid (Gr.alloc w (.cells #[.string ⟨m.toArray⟩,.string ⟨pp.toArray⟩,.string ⟨q.toArray⟩,.int .i64 ver,.slice p fs.length cap,.string ⟨bd.toArray⟩,.bool cl] 78))
 have q0:(w.alloc (.cells #[.string ⟨m.toArray⟩,.string ⟨pp.toArray⟩,.string ⟨q.toArray⟩,.int .i64 ver,.slice p fs.length cap,.string ⟨bd.toArray⟩,.bool cl] 78)).cell? ⟨w.heap.size,0,none⟩=some (.string ⟨m.toArray⟩):=by simp[go_sem]
 have q3:(w.alloc (.cells #[.string ⟨m.toArray⟩,.string ⟨pp.toArray⟩,.string ⟨q.toArray⟩,.int .i64 ver,.slice p fs.length cap,.string ⟨bd.toArray⟩,.bool cl] 78)).cell? ⟨w.heap.size,3,none⟩=some (.int .i64 ver):=by simp[go_sem]
 have q4:(w.alloc (.cells #[.string ⟨m.toArray⟩,.string ⟨pp.toArray⟩,.string ⟨q.toArray⟩,.int .i64 ver,.slice p fs.length cap,.string ⟨bd.toArray⟩,.bool cl] 78)).cell? ⟨w.heap.size,4,none⟩=some (.slice p fs.length cap):=by simp[go_sem]
 refine (o1.out _ g0.out).mono ?_
 rintro e w1⟨rfl,hb⟩
 have g1:=hid (g0.out.trans hb)
 replace q0:=hb.cell q0
 replace q3:=hb.cell q3
 replace q4:=hb.cell q4
 clear hb
 go_wp2_with fail
 refine (o2.out _ g1.out).mono ?_
 rintro e w2⟨rfl,hb⟩
 have g2:=hid (g1.out.trans hb)
 replace q0:=hb.cell q0
 replace q3:=hb.cell q3
 replace q4:=hb.cell q4
 clear hb
 go_wp2_with fail
 refine (o3.out _ g2.out).mono ?_
 rintro e w3⟨rfl,hb⟩
 have g3:=hid (g2.out.trans hb)
 replace q0:=hb.cell q0
 replace q3:=hb.cell q3
 replace q4:=hb.cell q4
 clear hb
 go_wp2_with fail
 refine (od.out _).mono ?_
 rintro e w4⟨rfl,hb⟩
 have g4:=hid (g3.out.trans hb)
 replace q0:=hb.cell q0
 replace q3:=hb.cell q3
 replace q4:=hb.cell q4
 clear hb
 obtain⟨dt,db,hdv,hds⟩:∃ (dt:List UInt8) (db:Bool),dcV d=.tuple #[.string ⟨dt.toArray⟩,.bool db]∧((db=false∧d=none)∨(db=true∧d=some dt)):=by
  cases d with
  | none=>exact⟨[],false,rfl,.inl ⟨rfl,rfl⟩⟩
  | some x=>exact⟨x,true,rfl,.inr ⟨rfl,rfl⟩⟩
 rw[hdv]
 have hds':=hid hds
 clear hdv hds
 cases hc1:(m != kGET)
 ·have e1:(m==[71,69,84])=true:=by have:=hc1;simpa[kGET] using this
  cases hc2:(ver != 11)
  ·cases h1 with
   | false =>
    have hfin:=hid (show R=([],400) by rw[hR'.out];simp[hc1,hc2])
    go_wp2
    go_ret2
    exact⟨by rw[hfin.out];rfl,g4.out⟩
   | true =>
    cases k1 with
    | false =>
     have hfin:=hid (show R=([],400) by rw[hR'.out];simp[hc1,hc2])
     go_wp2
     go_ret2
     exact⟨by rw[hfin.out];rfl,g4.out⟩
    | true =>
     cases v1 with
     | false =>
      have hfin:=hid (show R=([],400) by rw[hR'.out];simp[hc1,hc2])
      go_wp2
      go_ret2
      exact⟨by rw[hfin.out];rfl,g4.out⟩
     | true =>
      cases y1 with
      | false =>
       have hfin:=hid (show R=([],400) by rw[hR'.out];simp[hc1,hc2])
       go_wp2_with fail
       refine (a1.out _ g4.out).mono ?_
       rintro e w5⟨rfl,hb⟩
       have g5:=hid (g4.out.trans hb)
       replace q4:=hb.cell q4
       clear hb
       go_wp2
       go_ret2
       exact⟨by rw[hfin.out];rfl,g5.out⟩
      | true =>
       cases y2 with
       | false =>
        have hfin:=hid (show R=([],400) by rw[hR'.out];simp[hc1,hc2])
        go_wp2_with fail
        refine (a1.out _ g4.out).mono ?_
        rintro e w5⟨rfl,hb⟩
        have g5:=hid (g4.out.trans hb)
        replace q4:=hb.cell q4
        clear hb
        go_wp2_with fail
        refine (a2.out _ g5.out).mono ?_
        rintro e w6⟨rfl,hb⟩
        have g6:=hid (g5.out.trans hb)
        clear hb
        go_wp2
        go_ret2
        exact⟨by rw[hfin.out];rfl,g6.out⟩
       | true =>
        rcases hds'.out with⟨rfl,rfl⟩ | ⟨rfl,rfl⟩
        ·have hfin:=hid (show R=([],400) by rw[hR'.out];simp[hc1,hc2])
         go_wp2_with fail
         refine (a1.out _ g4.out).mono ?_
         rintro e w5⟨rfl,hb⟩
         have g5:=hid (g4.out.trans hb)
         replace q4:=hb.cell q4
         clear hb
         go_wp2_with fail
         refine (a2.out _ g5.out).mono ?_
         rintro e w6⟨rfl,hb⟩
         have g6:=hid (g5.out.trans hb)
         clear hb
         go_wp2
         go_ret2
         exact⟨by rw[hfin.out];rfl,g6.out⟩
        ·by_cases hl:dt.length=16
         ·have hlI:((dt.length:Int) != 16)=false:=by rw[bne_eq_false_iff_eq];omega
          cases hvv:(vv != k13)
          ·have e3:(vv==[49,51])=true:=by have:=hvv;simpa[k13] using this
           have hfin:=hid (show R=(acceptL kv,101) by rw[hR'.out];have:=hvv;simp at this;simp[hc1,hc2,hl,this])
           clear hl hvv
           go_wp2_with fail
           refine (a1.out _ g4.out).mono ?_
           rintro e w5⟨rfl,hb⟩
           have g5:=hid (g4.out.trans hb)
           replace q4:=hb.cell q4
           clear hb
           go_wp2_with fail
           refine (a2.out _ g5.out).mono ?_
           rintro e w6⟨rfl,hb⟩
           have g6:=hid (g5.out.trans hb)
           clear hb
           go_wp2_with fail
           refine (oa.out _).mono ?_
           rintro e w7⟨rfl,hb⟩
           have g7:=hid (g6.out.trans hb)
           clear hb
           go_wp2
           go_ret2
           exact⟨by rw[hfin.out];rfl,g7.out⟩
          ·have e3:(vv==[49,51])=false:=by have:=hvv;simpa[k13] using this
           have hfin:=hid (show R=([],426) by rw[hR'.out];have:=hvv;simp at this;simp[hc1,hc2,hl,this])
           clear hl hvv
           go_wp2_with fail
           refine (a1.out _ g4.out).mono ?_
           rintro e w5⟨rfl,hb⟩
           have g5:=hid (g4.out.trans hb)
           replace q4:=hb.cell q4
           clear hb
           go_wp2_with fail
           refine (a2.out _ g5.out).mono ?_
           rintro e w6⟨rfl,hb⟩
           have g6:=hid (g5.out.trans hb)
           clear hb
           go_wp2
           go_ret2
           exact⟨by rw[hfin.out];rfl,g6.out⟩
         ·have hlI:((dt.length:Int) != 16)=true:=by rw[bne_iff_ne];omega
          have hfin:=hid (show R=([],400) by rw[hR'.out];simp[hc1,hc2,hl])
          clear hl
          go_wp2_with fail
          refine (a1.out _ g4.out).mono ?_
          rintro e w5⟨rfl,hb⟩
          have g5:=hid (g4.out.trans hb)
          replace q4:=hb.cell q4
          clear hb
          go_wp2_with fail
          refine (a2.out _ g5.out).mono ?_
          rintro e w6⟨rfl,hb⟩
          have g6:=hid (g5.out.trans hb)
          clear hb
          go_wp2
          go_ret2
          exact⟨by rw[hfin.out];rfl,g6.out⟩
  ·have hfin:=hid (show R=([],400) by rw[hR'.out];simp[hc1,hc2])
   go_wp2
   go_ret2
   exact⟨by rw[hfin.out];rfl,g4.out⟩
 ·have e1:(m==[71,69,84])=false:=by have:=hc1;simpa[kGET] using this
  have hfin:=hid (show R=([],400) by rw[hR'.out];simp[hc1])
  go_wp2
  go_ret2
  exact⟨by rw[hfin.out];rfl,g4.out⟩
def AnsPost (w:World) (x:Rp×Bool) (e:Ending) (w':World):Prop:=∃ t,e=.returned (.tuple #[x.1.V t,.bool x.2])∧FieldsAt w' t x.1.fs∧Gr w w'
theorem put3 {W:World} {b:Nat} {u0 u1 u2:Value} (n0:W.cell? ⟨b,0,none⟩=some u0) (n1:W.cell? ⟨b,1,none⟩=some u1) (n2:W.cell? ⟨b,2,none⟩=some u2) (v0 v1 v2:Value) (o:Obj) :
  ((((W.setCell ⟨b,0,none⟩ v0).setCell ⟨b,1,none⟩ v1).setCell ⟨b,2,none⟩ v2).alloc o).cell? ⟨b,0,none⟩=some v0∧((((W.setCell ⟨b,0,none⟩ v0).setCell ⟨b,1,none⟩ v1).setCell ⟨b,2,none⟩ v2).alloc o).cell? ⟨b,1,none⟩=some v1∧((((W.setCell ⟨b,0,none⟩ v0).setCell ⟨b,1,none⟩ v1).setCell ⟨b,2,none⟩ v2).alloc o).cell? ⟨b,2,none⟩=some v2 :=
 ⟨(Gr.alloc _ _).cell (cell_off (cell_off (cell_set_same n0) (by decide)) (by decide)),(Gr.alloc _ _).cell (cell_off (cell_set_same (cell_off n1 (by decide))) (by decide)),(Gr.alloc _ _).cell (cell_set_same (cell_off (cell_off n2 (by decide)) (by decide)))⟩
theorem put3_size (W:World) (a b c:Addr) (u v x:Value):(((W.setCell a u).setCell b v).setCell c x).heap.size=W.heap.size:=by simp
theorem answer_any (r:Rq) (t:Value) (w:World) (hG:G w) (hf:FieldsAt w t r.fs) (hs:Short r.fs) :
  Calls prog 92 #[r.V t] w (AnsPost w (answerB (checkB r))):=by
 have hck:=hid (λW (hg:Gr w W)=>check_any r t W (hG.gr hg) (hf.gr hg) hs)
 have hcode:=check_code r
 obtain⟨⟨a,c⟩,hR⟩:∃ R,checkB r=R:=⟨_,rfl⟩
 rw[hR] at hck hcode ⊢
 dsimp only at hcode
 obtain⟨p,cap,ht,_⟩:=hf
 subst ht
 clear hR hG hs
 unfold Rq.V at hck ⊢
 obtain⟨m,pp,q,ver,fs,bd,cl⟩:=r
 dsimp only at hck ⊢
 go_enter func92,ntmps92
 go_wp2_with fail
 have g0:=hid (((Gr.alloc w (.cells #[.string ⟨m.toArray⟩,.string ⟨pp.toArray⟩,.string ⟨q.toArray⟩,.int .i64 ver,.slice p fs.length cap,.string ⟨bd.toArray⟩,.bool cl] 78)).alloc1 (.cells #[.int .i64 0,.slice none 0 0,.string ⟨#[]⟩] 51)))
 have n0:((w.alloc (.cells #[.string ⟨m.toArray⟩,.string ⟨pp.toArray⟩,.string ⟨q.toArray⟩,.int .i64 ver,.slice p fs.length cap,.string ⟨bd.toArray⟩,.bool cl] 78)).alloc (.cells #[.int .i64 0,.slice none 0 0,.string ⟨#[]⟩] 51)).cell? ⟨w.heap.size+1,0,none⟩=some (.int .i64 0):=by simp[go_sem]
 have n1:((w.alloc (.cells #[.string ⟨m.toArray⟩,.string ⟨pp.toArray⟩,.string ⟨q.toArray⟩,.int .i64 ver,.slice p fs.length cap,.string ⟨bd.toArray⟩,.bool cl] 78)).alloc (.cells #[.int .i64 0,.slice none 0 0,.string ⟨#[]⟩] 51)).cell? ⟨w.heap.size+1,1,none⟩=some (.slice none 0 0):=by simp[go_sem]
 have n2:((w.alloc (.cells #[.string ⟨m.toArray⟩,.string ⟨pp.toArray⟩,.string ⟨q.toArray⟩,.int .i64 ver,.slice p fs.length cap,.string ⟨bd.toArray⟩,.bool cl] 78)).alloc (.cells #[.int .i64 0,.slice none 0 0,.string ⟨#[]⟩] 51)).cell? ⟨w.heap.size+1,2,none⟩=some (.string ⟨#[]⟩):=by simp[go_sem]
 have z:∀ o,((w.alloc (.cells #[.string ⟨m.toArray⟩,.string ⟨pp.toArray⟩,.string ⟨q.toArray⟩,.int .i64 ver,.slice p fs.length cap,.string ⟨bd.toArray⟩,.bool cl] 78)).alloc (.cells #[.int .i64 0,.slice none 0 0,.string ⟨#[]⟩] 51)).frozen? ⟨w.heap.size+1,o,none⟩=false:=λo=>World.frozen?_alloc_at _ _ _ _ (by simp)
 refine (hck.out _ g0.out).mono ?_
 rintro e w1⟨rfl,hb⟩
 have g1:=hid (g0.out.trans hb)
 replace n0:=hb.cell n0
 replace n1:=hb.cell n1
 replace n2:=hb.cell n2
 have z0:w1.frozen? ⟨w.heap.size+1,0,none⟩=false:=(Below.frozen hb (p:=⟨w.heap.size+1,0,none⟩) (by simp)).trans (z 0)
 have z1:w1.frozen? ⟨w.heap.size+1,1,none⟩=false:=(Below.frozen hb (p:=⟨w.heap.size+1,1,none⟩) (by simp)).trans (z 1)
 have z2:w1.frozen? ⟨w.heap.size+1,2,none⟩=false:=(Below.frozen hb (p:=⟨w.heap.size+1,2,none⟩) (by simp)).trans (z 2)
 have hbl:w.heap.size+1<w1.heap.size:=cell_lt n0
 clear hb z
 unfold ckV
 have hbb:=hid (show w.heap.size≤w.heap.size+1 by omega)
 rcases hcode with rfl | rfl | rfl
 ·go_wp2
  refine bodyPost_ret (v:=.tuple #[(answerB (a,400)).1.V (.slice none 0 0),.bool (answerB (a,400)).2]) (by simp[results,results92,go_sem,n0,n1,n2,Rp.V,answerB,kBadH,kBadV]) rfl ⟨_,rfl,fieldsAt_none _ _,((g1.out.setCell hbb.out _).setCell hbb.out _).setCell hbb.out _⟩
 ·go_wp2
  rw[show answerB (a,426)=(⟨426,[(kVer,k13)],kBadV⟩,false) from rfl]
  have kk:=put3 n0 n1 n2
  refine bodyPost_ret (v:=.tuple #[((⟨426,[(kVer,k13)],kBadV⟩,false):Rp×Bool).1.V (.slice (some ⟨w1.heap.size,0,none⟩) 1 1),.bool ((⟨426,[(kVer,k13)],kBadV⟩,false):Rp×Bool).2]) ?_ rfl ⟨_,rfl,?_,(((g1.out.setCell hbb.out _).setCell hbb.out _).setCell hbb.out _).alloc1 _⟩
  ·simp[results,results92,go_sem,kk,Rp.V,kBadV]
  ·have:=fieldsAt_new (((w1.setCell ⟨w.heap.size+1,0,none⟩ (.int .i64 426)).setCell ⟨w.heap.size+1,1,none⟩ (.slice (some ⟨w1.heap.size,0,none⟩) 1 1)).setCell ⟨w.heap.size+1,2,none⟩ (.string ⟨kBadV.toArray⟩)) [(kVer,k13)] 80 1
   rw[put3_size] at this
   exact this
 ·go_wp2
  rw[show answerB (a,101)=(⟨101,[(kUpg,kWs),(kConn,kUpg),(kAcc,a)],[]⟩,true) from rfl]
  have kk:=put3 n0 n1 n2
  refine bodyPost_ret (v:=.tuple #[((⟨101,[(kUpg,kWs),(kConn,kUpg),(kAcc,a)],[]⟩,true):Rp×Bool).1.V (.slice (some ⟨w1.heap.size,0,none⟩) 3 3),.bool ((⟨101,[(kUpg,kWs),(kConn,kUpg),(kAcc,a)],[]⟩,true):Rp×Bool).2]) ?_ rfl ⟨_,rfl,?_,(((g1.out.setCell hbb.out _).setCell hbb.out _).setCell hbb.out _).alloc1 _⟩
  ·simp[results,results92,go_sem,kk,Rp.V,kBadV]
  ·have:=fieldsAt_new (((w1.setCell ⟨w.heap.size+1,0,none⟩ (.int .i64 101)).setCell ⟨w.heap.size+1,1,none⟩ (.slice (some ⟨w1.heap.size,0,none⟩) 3 3)).setCell ⟨w.heap.size+1,2,none⟩ (.string ⟨#[]⟩)) [(kUpg,kWs),(kConn,kUpg),(kAcc,a)] 80 3
   rw[put3_size] at this
   exact this
open Go.Shelf
def sevV:Sev→Value
 | .upgraded=>.agg #[.int .i64 1,.int .i64 0,.string ⟨#[]⟩]
 | .said op t=>.agg #[.int .i64 2,.int .i64 op,.string ⟨t.toArray⟩]
 | .done=>.agg #[.int .i64 3,.int .i64 0,.string ⟨#[]⟩]
def sevO:Option Sev→Value
 | some e=>sevV e
 | none=>.agg #[.int .i64 0,.int .i64 0,.string ⟨#[]⟩]
theorem add_lt' {T:Nat→Prop} {W W':World} (hs:W.heap.size≤W'.heap.size) (hl:∀ k,T k→k<W.heap.size):∀ k,Add T W W' k→k<W'.heap.size:=addw_lt hs hl
theorem RqSm.short {r:Rq} (h:RqSm r):Short r.fs:=⟨Nat.le_trans h.1 (by decide),λf hf=>⟨Nat.le_trans (h.2.1 f hf).1 (by decide),Nat.le_trans (h.2.1 f hf).2 (by decide)⟩⟩
structure RpC (X:Nat) (W:World) (a:Int) (q:Option Addr) (n cap:Nat) (s:ByteArray):Prop where
 c0:W.cell? ⟨X,0,none⟩=some (.int .i64 a)
 c1:W.cell? ⟨X,1,none⟩=some (.slice q n cap)
 c2:W.cell? ⟨X,2,none⟩=some (.string s)
 c3:∀ o,3≤o→W.cell? ⟨X,o,none⟩=none
 fz:∀ o,W.frozen? ⟨X,o,none⟩=false
theorem RpC.ch {X:Nat} {S:Nat→Prop} {W W':World} {a:Int} {q:Option Addr} {n cap:Nat} {s:ByteArray} (h:RpC X W a q n cap s) (hc:Ch S W W') (hS:¬S X):RpC X W' a q n cap s :=
 have hl:X<W.heap.size:=cell_lt h.c0
 have cc:∀ o,W'.cell? ⟨X,o,none⟩=W.cell? ⟨X,o,none⟩:=λo=>hc.cell (p:=⟨X,o,none⟩) hl hS
 ⟨(cc 0).trans h.c0,(cc 1).trans h.c1,(cc 2).trans h.c2,λo ho=>(cc o).trans (h.c3 o ho),λo=>(hc.frozen (p:=⟨X,o,none⟩) hl hS).trans (h.fz o)⟩
theorem rpC_new (W:World) (a:Int) (q:Option Addr) (n cap:Nat) (s:ByteArray) (t:TypeId):RpC W.heap.size (W.alloc (.cells #[.int .i64 a,.slice q n cap,.string s] t)) a q n cap s :=
 ⟨cell_new7 _ _ _ 0 _ rfl,cell_new7 _ _ _ 1 _ rfl,cell_new7 _ _ _ 2 _ rfl,λo ho=>by
  rw[World.cell?_alloc_new]
  match o,ho with
  | o+3,_=>rfl,λ_=>World.frozen?_alloc_at _ _ _ _ rfl⟩
theorem RpC.set {X:Nat} {W:World} {a:Int} {q:Option Addr} {n cap:Nat} {s:ByteArray} (h:RpC X W a q n cap s) (a':Int) (q':Option Addr) (n' cap':Nat) (s':ByteArray) :
  RpC X (((W.setCell ⟨X,0,none⟩ (.int .i64 a')).setCell ⟨X,1,none⟩ (.slice q' n' cap')).setCell ⟨X,2,none⟩ (.string s')) a' q' n' cap' s' :=
 ⟨by simp[go_sem,h.c0],by simp[go_sem,h.c1],by simp[go_sem,h.c2],λo ho=>by
  have h0:o≠0:=by omega
  have h1:o≠1:=by omega
  have h2:o≠2:=by omega
  simp[go_sem,h.c3 o ho,h0,h1,h2],λo=>by rw[frozen_set,frozen_set,frozen_set];exact h.fz o⟩
theorem ch3 (w:World) (X:Nat) (u0 u1 u2:Value):Ch (λi=>i=X) w (((w.setCell ⟨X,0,none⟩ u0).setCell ⟨X,1,none⟩ u1).setCell ⟨X,2,none⟩ u2) :=
 ((Ch.setCell (T:=λi=>i=X) w (a:=⟨X,0,none⟩) rfl _).trans (Ch.setCell (T:=λi=>i=X) _ (a:=⟨X,1,none⟩) rfl _)).trans (Ch.setCell (T:=λi=>i=X) _ (a:=⟨X,2,none⟩) rfl _)
theorem RpC.apart {X:Nat} {W W':World} {a:Int} {q:Option Addr} {n cap:Nat} {s:ByteArray} (h:RpC X W a q n cap s) {t:Value} {fs:List Fl} (hf:FieldsAt W t fs) (hc:Ch (λi=>i=X) W W'):FieldsAt W' t fs:=by
 obtain⟨p,c,e,hcs⟩:=hf
 refine⟨p,c,e,λi hi=>?_⟩
 obtain⟨b,off,hp,h1,h2⟩:=hcs i hi
 have hb:¬b=X:=by
  intro e
  subst e
  rcases Nat.lt_or_ge (off+i*2) 3 with hlt | hge
  ·have:off+i*2=0∨off+i*2=1∨off+i*2=2:=by omega
   rcases this with e | e | e
   ·rw[e,h.c0] at h1;cases h1
   ·rw[e,h.c1] at h1;cases h1
   ·rw[e,h.c3 _ (Nat.le_refl _)] at h2;cases h2
  ·rw[h.c3 _ hge] at h1;cases h1
 exact⟨b,off,hp,(hc.cell (p:=⟨b,off+i*2,none⟩) (cell_lt h1) hb).trans h1,(hc.cell (p:=⟨b,off+i*2+1,none⟩) (cell_lt h2) hb).trans h2⟩
theorem kin_told {α:Type} {At:(Nat→Prop)→World→α→Prop} (K:Kin At) {T S:Nat→Prop} {W W6 w8 w9:World} {x:α} (hl:∀ k,T k→k<W.heap.size) (g:Gr W W6) (p:Pst At T W6 x w8) (hc:Ch S w8 w9) (hS:∀ k,S k→W.heap.size≤k∧k<W6.heap.size):Pst At T W x w9:=by
 have s1:=Below.size g
 have s2:=p.2.size
 have s3:=hc.size
 refine⟨K.mono (K.frame p.1 hc (λk e e2=>?_)) (λk e=>e.imp_right λe=>⟨by have:=e.1;omega,by have:=e.2;omega⟩) (add_lt' (by omega) hl),((g.to_ch _).trans p.2).drop_new hc (λj e=>.inr (hS j e).1)⟩
 have:=hS k e2
 rcases e with e | e
 ·have:=hl k e;omega
 ·have:=e.1;omega
theorem rp_first {W1 w2:World} (g2:Gr (W1.alloc (.cells #[.int .i64 0,.slice none 0 0,.string ⟨#[]⟩] 51)).drew w2) :
  RpC W1.heap.size w2 0 none 0 0 ⟨#[]⟩ ∧
  (∀ o:Obj,Gr W1 (w2.alloc o))∧Gr W1 w2∧∀ u0 u1 u2:Value,Gr W1 (((w2.setCell ⟨W1.heap.size,0,none⟩ u0).setCell ⟨W1.heap.size,1,none⟩ u1).setCell ⟨W1.heap.size,2,none⟩ u2):=by
 have g0:Gr W1 (W1.alloc (.cells #[.int .i64 0,.slice none 0 0,.string ⟨#[]⟩] 51)).drew:=Gr.drew (Gr.alloc W1 _)
 have hG2:=g0.trans g2
 refine⟨(rpC_new W1 0 none 0 0 ⟨#[]⟩ _).ch (((Gr.drew' _).trans g2).to_ch (λ_=>False)) id,λo=>Gr.alloc1 hG2 o,hG2,λu0 u1 u2=>?_⟩
 exact Gr.setCell (Gr.setCell (Gr.setCell hG2 (Nat.le_refl _) u0) (Nat.le_refl _) u1) (Nat.le_refl _) u2
theorem check_len (r:Rq):(checkB r).1.length≤1000000:=by
 unfold checkB
 repeat' split
 all_goals first | exact Nat.zero_le _ | (dsimp only;rw[accept_len];decide)
theorem answer_sm (r:Rq):RpSm (answerB (checkB r)).1:=by
 have hk:=check_len r
 have hc:=check_code r
 unfold answerB RpSm
 split
 ·refine⟨by (show 3≤1000000;decide),λf hf=>?_,Nat.zero_le _,by (show -9223372036854775808≤(101:Int);decide),by (show (101:Int)≤9223372036854775807;decide)⟩
  rcases List.mem_cons.1 hf with rfl | hf
  ·exact⟨by decide,by decide⟩
  ·rcases List.mem_cons.1 hf with rfl | hf
   ·exact⟨by decide,by decide⟩
   ·rcases List.mem_cons.1 hf with rfl | hf
    ·exact⟨by (show kAcc.length≤_;decide),hk⟩
    ·cases hf
 ·split
  ·refine⟨by (show 1≤1000000;decide),λf hf=>?_,by (show kBadV.length≤_;decide),by (show -9223372036854775808≤(426:Int);decide),by (show (426:Int)≤9223372036854775807;decide)⟩
   rcases List.mem_cons.1 hf with rfl | hf
   ·exact⟨by decide,by decide⟩
   ·cases hf
  ·refine⟨Nat.zero_le _,(λf hf=>by cases hf),by (show kBadH.length≤_;decide),?_,?_⟩ <;> (dsimp only;omega)
theorem rp_last {W1 w2:World} (hG2:Gr W1 w2):(∀ o:Obj,Gr W1 (w2.alloc o))∧∀ (o:Obj) (u0 u1 u2:Value),Gr W1 ((((w2.alloc o).setCell ⟨w2.heap.size,0,none⟩ u0).setCell ⟨w2.heap.size,1,none⟩ u1).setCell ⟨w2.heap.size,2,none⟩ u2) :=
 ⟨λo=>Gr.alloc1 hG2 o,λo u0 u1 u2=>Gr.setCell (Gr.setCell (Gr.setCell (Gr.alloc1 hG2 o) (Below.size hG2) u0) (Below.size hG2) u1) (Below.size hG2) u2⟩
section
variable {b:Nat} {g:Nat} {lb:Array Value} {F T:Nat→Prop} {H:Rq→Rp} {W:World} {s:Ss}
theorem sn_answers (h:SnAt b (.func (.func g) #[] lb) T W s) (hG:G W) (hH:Hnd g lb F H W) (r:Rq) (rv:Value) (hf:FieldsAt W rv r.fs) (hr:RqSm r) (hlim:s.limit≤1099511627776) (hlen:s.p.inp.length+s.p.und.length≤90000):Calls prog 68 #[.pointer (some ⟨b,0,none⟩),r.V rv] W λe w'=>e=.returned (sevV (ssAnswers H s r).2)∧Pst (SnAt b (.func (.func g) #[] lb)) T W (ssAnswers H s r).1 w':=by
 have hcall:=hid (λW1 (g1:Gr W W1)=>(hH.gr g1).does W1 r rv (Stays.refl _ _) (hG.gr g1) (hf.gr g1) hr)
 have eg:=hH.enters
 have hf':=hid hf
 obtain⟨p,cap,rfl,_⟩:=hf
 have h0:=hid h
 have hlim':=hid hlim
 have hlen':=hid hlen
 clear hlim hlen
 have hl':=hid h.2
 obtain⟨⟨c,pb,bb,cv,h,hT⟩,hl⟩:=h
 have c0:=h.c0
 unfold Rq.V at hcall ⊢
 clear h hT hl
 go_enter func68,ntmps68
 go_upto_region 1 with (fail)
 obtain⟨W1,hW1⟩:∃ W1,(W.alloc (.cells #[.string ⟨r.m.toArray⟩,.string ⟨r.p.toArray⟩,.string ⟨r.q.toArray⟩,.int .i64 r.v,.slice p r.fs.length cap,.string ⟨r.b.toArray⟩,.bool r.c] 78)).alloc (.cells #[.int .i64 0,.int .i64 0,.string ⟨#[]⟩] 28)=W1:=⟨_,rfl⟩
 rw[hW1]
 have g1:Gr W W1:=by rw[←hW1];exact (Gr.alloc _ _).alloc1 _
 have q0:W1.cell? ⟨W.heap.size,0,none⟩=some (.string ⟨r.m.toArray⟩):=by rw[←hW1];simp[go_sem]
 have q1:W1.cell? ⟨W.heap.size,1,none⟩=some (.string ⟨r.p.toArray⟩):=by rw[←hW1];simp[go_sem]
 have q2:W1.cell? ⟨W.heap.size,2,none⟩=some (.string ⟨r.q.toArray⟩):=by rw[←hW1];simp[go_sem]
 have q3:W1.cell? ⟨W.heap.size,3,none⟩=some (.int .i64 r.v):=by rw[←hW1];simp[go_sem]
 have q4:W1.cell? ⟨W.heap.size,4,none⟩=some (.slice p r.fs.length cap):=by rw[←hW1];simp[go_sem]
 have q5:W1.cell? ⟨W.heap.size,5,none⟩=some (.string ⟨r.b.toArray⟩):=by rw[←hW1];simp[go_sem]
 have q6:W1.cell? ⟨W.heap.size,6,none⟩=some (.bool r.c):=by rw[←hW1];simp[go_sem]
 have n0:W1.cell? ⟨W.heap.size+1,0,none⟩=some (.int .i64 0):=by rw[←hW1];simp[go_sem]
 have n1:W1.cell? ⟨W.heap.size+1,1,none⟩=some (.int .i64 0):=by rw[←hW1];simp[go_sem]
 have n2:W1.cell? ⟨W.heap.size+1,2,none⟩=some (.string ⟨#[]⟩):=by rw[←hW1];simp[go_sem]
 have nz:∀ o,W1.frozen? ⟨W.heap.size+1,o,none⟩=false:=λo=>by rw[←hW1];simp[go_sem]
 have hs1':=hid (show W1.heap.size=W.heap.size+2 by rw[←hW1];simp)
 have g1':=hid g1
 replace c0:=g1.cell c0
 clear g1 hW1
 have hS:=hid (λ(w':World) (gg:Gr W1 w')=>(show w'.cell? ⟨b,0,none⟩=some (.func (.func g) #[] lb)∧w'.cell? ⟨W.heap.size,0,none⟩=some (.string ⟨r.m.toArray⟩)∧w'.cell? ⟨W.heap.size,1,none⟩=some (.string ⟨r.p.toArray⟩)∧w'.cell? ⟨W.heap.size,2,none⟩=some (.string ⟨r.q.toArray⟩)∧w'.cell? ⟨W.heap.size,3,none⟩=some (.int .i64 r.v)∧w'.cell? ⟨W.heap.size,4,none⟩=some (.slice p r.fs.length cap)∧w'.cell? ⟨W.heap.size,5,none⟩=some (.string ⟨r.b.toArray⟩)∧w'.cell? ⟨W.heap.size,6,none⟩=some (.bool r.c)∧Gr W1 w' from⟨gg.cell c0,gg.cell q0,gg.cell q1,gg.cell q2,gg.cell q3,gg.cell q4,gg.cell q5,gg.cell q6,gg⟩))
 have hGd:=hid (Gr.drew (Gr.refl W1))
 have hGe:=hid (λ(o:Obj)=>(Gr.alloc1 (Gr.drew (Gr.refl W1)) o))
 have hGf:=hid (λ(o:Obj)=>(Gr.drew (Gr.alloc1 (Gr.refl W1) o)))
 go_region_held3 (λw'=>w'.cell? ⟨b,0,none⟩=some (.func (.func g) #[] lb)∧w'.cell? ⟨W.heap.size,0,none⟩=some (.string ⟨r.m.toArray⟩)∧w'.cell? ⟨W.heap.size,1,none⟩=some (.string ⟨r.p.toArray⟩)∧w'.cell? ⟨W.heap.size,2,none⟩=some (.string ⟨r.q.toArray⟩)∧w'.cell? ⟨W.heap.size,3,none⟩=some (.int .i64 r.v)∧w'.cell? ⟨W.heap.size,4,none⟩=some (.slice p r.fs.length cap)∧w'.cell? ⟨W.heap.size,5,none⟩=some (.string ⟨r.b.toArray⟩)∧w'.cell? ⟨W.heap.size,6,none⟩=some (.bool r.c)∧Gr W1 w')
  (first
   | exact hS.out _ hG2
   | exact hS.out _ (hGA.out _)
   | exact hS.out _ (hGB.out _ _ _ _)
   | exact hS.out _ (hGC.out _ _ _)
   | exact hS.out _ hGd.out
   | exact hS.out _ (hGe.out _)
   | exact hS.out _ (hGf.out _))
  (first
   |(refine (hcall.out _ (Gr.drew (Gr.alloc1 g1'.out _))).mono ?_
     rintro e w2⟨t,rfl,hft,g2⟩
     have hG2:Gr W1 w2:=(Gr.drew (Gr.alloc1 (Gr.refl _) _)).trans g2
     have hft':=hid hft
     obtain⟨p2,cap2,rfl,_⟩:=hft
     obtain⟨hX0,gA,gB,gC⟩:=rp_first g2
     have x0:=hX0.c0
     have x1:=hX0.c1
     have x2:=hX0.c2
     have xz:=hX0.fz
     have hX0':=hid hX0
     have hGA:=hid gA
     have hGC:=hid gC
     have hG2':=hid hG2
     unfold Rp.V)
   |(refine (hcall.out _ (Gr.drew g1'.out)).mono ?_
     rintro e w2⟨t,rfl,hft,g2⟩
     have hG2:Gr W1 w2:=(Gr.drew (Gr.refl _)).trans g2
     have hft':=hid hft
     obtain⟨p2,cap2,rfl,_⟩:=hft
     obtain⟨gA,gB⟩:=rp_last hG2
     have hGA:=hid gA
     have hGB:=hid gB
     have hG2':=hid hG2
     unfold Rp.V))
 all_goals (first
  |(have hc3:=ch3 w2 W1.heap.size (.int .i64 (H r).code) (.slice p2 (H r).fs.length cap2) (.string ⟨(H r).b.toArray⟩)
    have hX4:=hX0'.out.set (H r).code p2 (H r).fs.length cap2 ⟨(H r).b.toArray⟩
    have hf4:=hX0'.out.apart hft'.out hc3
    have hg4:=hGC.out (.int .i64 (H r).code) (.slice p2 (H r).fs.length cap2) (.string ⟨(H r).b.toArray⟩)
    obtain⟨w4,hw4⟩:∃ w4,((w2.setCell ⟨W1.heap.size,0,none⟩ (.int .i64 (H r).code)).setCell ⟨W1.heap.size,1,none⟩ (.slice p2 (H r).fs.length cap2)).setCell ⟨W1.heap.size,2,none⟩ (.string ⟨(H r).b.toArray⟩)=w4:=⟨_,rfl⟩
    rw[hw4] at hX4 hf4 hg4
    obtain⟨X,hX⟩:∃ X,W1.heap.size=X:=⟨_,rfl⟩
    have hXs:W1.heap.size≤X:=Nat.le_of_eq hX
    rw[hX] at hX4 hw4
    clear hc3)
  |(have hX4:=rpC_new w2 (H r).code p2 (H r).fs.length cap2 ⟨(H r).b.toArray⟩ 51
    have hf4:=hft'.out.gr (Gr.alloc w2 (.cells #[.int .i64 (H r).code,.slice p2 (H r).fs.length cap2,.string ⟨(H r).b.toArray⟩] 51))
    have hg4:=hGA.out (.cells #[.int .i64 (H r).code,.slice p2 (H r).fs.length cap2,.string ⟨(H r).b.toArray⟩] 51)
    obtain⟨w4,hw4⟩:∃ w4,w2.alloc (.cells #[.int .i64 (H r).code,.slice p2 (H r).fs.length cap2,.string ⟨(H r).b.toArray⟩] 51)=w4:=⟨_,rfl⟩
    rw[hw4] at hX4 hf4 hg4
    have hXs:=Below.size hG2'.out
    obtain⟨X,hX⟩:∃ X,w2.heap.size=X:=⟨_,rfl⟩
    rw[hX] at hX4 hXs))
 all_goals
  have hX4':=hid hX4
  have hf4':=hid hf4
  have hg4':=hid hg4
  have hXs':=hid hXs
  have hW1s:=hid hs1'.out
  clear hX4 hf4 hg4 hXs
  have hh4:=(snKin b (.func (.func g) #[] lb)).gr h0.out (g1'.out.trans hg4'.out)
  have hG4:=hid (hG.gr (g1'.out.trans hg4'.out))
  have hh4':=hid hh4
  have g04:=hid (g1'.out.trans hg4'.out)
  have e0:=hg4'.out.cell n0
  have e1:=hg4'.out.cell n1
  have e2:=hg4'.out.cell n2
  have ez:∀ o,w4.frozen? ⟨W.heap.size+1,o,none⟩=false:=λo=>(Below.frozen hg4'.out (p:=⟨W.heap.size+1,o,none⟩) (by show W.heap.size+1<W1.heap.size;have:=hs1'.out;omega)).trans (nz o)
  have y0:=hX4'.out.c0
  have y1:=hX4'.out.c1
  have y2:=hX4'.out.c2
  have yz:=hX4'.out.fz
  have p0:=hg4'.out.cell q0
  have p1:=hg4'.out.cell q1
  have p2':=hg4'.out.cell q2
  have p3:=hg4'.out.cell q3
  have p4:=hg4'.out.cell q4
  have p5:=hg4'.out.cell q5
  have p6:=hg4'.out.cell q6
  have hq0:ssAnswers H s r=if (H r).code=101 then (if (answerB (checkB r)).2 then (ssUp (ssPuts s (answerB (checkB r)).1 false false),.upgraded) else (ssPuts s (answerB (checkB r)).1 (r.m==qHEAD) r.c,.done)) else (ssPuts s (H r) (r.m==qHEAD) r.c,.done):=rfl
  by_cases h101:(H r).code=101
  ·have hz:((H r).code==101)=true:=beq_iff_eq.2 h101
   rw[if_pos h101] at hq0
   have han:=answer_any r (.slice p r.fs.length cap) w4 hG4.out (hf'.out.gr g04.out) hr.short
   have hsm:=answer_sm r
   obtain⟨y,ok,hy⟩:∃ y ok,answerB (checkB r)=(y,ok):=⟨_,_,rfl⟩
   rw[hy] at han hq0 hsm
   unfold AnsPost at han
   dsimp only at han hq0 hsm
   unfold Rq.V at han
   have han':=hid han
   have hsm':=hid hsm
   have hq:=hid hq0
   clear han hsm hq0 h101 hy
   go_wp2_with fail
   try rw[hw4]
   refine han'.out.mono ?_
   rintro e w5⟨t2,rfl,hf5,g5⟩
   have hf5':=hid hf5
   obtain⟨pz,capz,rfl,_⟩:=hf5
   unfold Rp.V
   have g5':=hid g5
   have hY:=rpC_new w5 y.code pz y.fs.length capz ⟨y.b.toArray⟩ 51
   obtain⟨w6,hw6⟩:∃ w6,w5.alloc (.cells #[.int .i64 y.code,.slice pz y.fs.length capz,.string ⟨y.b.toArray⟩] 51)=w6:=⟨_,rfl⟩
   have g56:Gr w5 w6:=hw6▸Gr.alloc w5 _
   rw[hw6] at hY
   have g46:=g5.trans g56
   have hf6:=hid (hf5'.out.gr g56)
   have z0:=hY.c0
   have z1:=hY.c1
   have z2:=hY.c2
   have g06:=hid (g04.out.trans g46)
   have hG6:=hid (hG4.out.gr g46)
   have hE4:W.heap.size+1<w4.heap.size:=cell_lt e0
   have hX4l:X<w4.heap.size:=cell_lt hX4'.out.c0
   replace e0:=g46.cell e0
   replace e1:=g46.cell e1
   replace e2:=g46.cell e2
   replace ez:∀ o,w6.frozen? ⟨W.heap.size+1,o,none⟩=false:=λo=>(Below.frozen g46 (p:=⟨W.heap.size+1,o,none⟩) hE4).trans (ez o)
   replace p0:=g46.cell p0
   replace p6:=g46.cell p6
   replace y0:=g46.cell y0
   replace y1:=g46.cell y1
   replace y2:=g46.cell y2
   replace yz:∀ o,w6.frozen? ⟨X,o,none⟩=false:=λo=>(Below.frozen g46 (p:=⟨X,o,none⟩) hX4l).trans (yz o)
   have hh6:=hid ((snKin b (.func (.func g) #[] lb)).gr hh4'.out g46)
   have g46:=hid g46
   clear hY g5 g56 p1 p2' p3 p4 p5
   cases ok with
   | true =>
    have hq2:=hid (hq.out.trans (if_pos rfl))
    have hpu:=hid (sn_puts hh6.out hG6.out y _ hf6.out hsm'.out false false)
    unfold Rp.V at hpu
    clear y0 y1 y2 yz
    go_wp2_with fail
    try rw[hw6]
    refine hpu.out.mono ?_
    rintro e w7⟨rfl,hp7⟩
    have hup:=hid (sn_up hp7.1 hlim'.out hlen'.out)
    have hp7':=hid hp7
    clear hp7
    go_wp2_with fail
    refine hup.out.mono ?_
    rintro e w8⟨rfl,hp8⟩
    have hp78:=(snKin b (.func (.func g) #[] lb)).trans hp7'.out hp8
    have hEX:W.heap.size+1<w6.heap.size:=cell_lt e0
    have hET:¬T (W.heap.size+1):=λe=>by have:=hl'.out _ e;omega
    replace e0:=(hp78.2.cell (p:=⟨W.heap.size+1,0,none⟩) hEX hET).trans e0
    replace e1:=(hp78.2.cell (p:=⟨W.heap.size+1,1,none⟩) hEX hET).trans e1
    replace e2:=(hp78.2.cell (p:=⟨W.heap.size+1,2,none⟩) hEX hET).trans e2
    replace ez:∀ o,w8.frozen? ⟨W.heap.size+1,o,none⟩=false:=λo=>(hp78.2.frozen (p:=⟨W.heap.size+1,o,none⟩) hEX hET).trans (ez o)
    have hEX':=hid hEX
    have hp78':=hid hp78
    clear hp78 hp8 hw6 z0 z1 z2 p0 p6 hEX hw4
    go_wp2
    refine bodyPost_ret (v:=sevV .upgraded) (by simp[results,results68,go_sem,sevV,e0,e1,e2]) rfl ?_
    rw[hq2.out]
    exact⟨rfl,kin_told (snKin b (.func (.func g) #[] lb)) hl'.out g06.out hp78'.out (ch3 w8 (W.heap.size+1) _ _ _) (λk e=>⟨by rw[show k=W.heap.size+1 from e];omega,by rw[show k=W.heap.size+1 from e];exact hEX'.out⟩)⟩
   | false =>
    have hq2:=hid (hq.out.trans (if_neg (by decide)))
    go_upto_region 9 with (fail)
    try rw[hw6]
    have hX6:=hX4'.out.ch (g46.out.to_ch (λ_=>False)) id
    have hc7:=ch3 w6 X (.int .i64 y.code) (.slice pz y.fs.length capz) (.string ⟨y.b.toArray⟩)
    have hX7:=hX6.set y.code pz y.fs.length capz ⟨y.b.toArray⟩
    have hf7:=hX6.apart hf6.out hc7
    have hXW:W.heap.size≤X:=by have:=hXs'.out;have:=hs1'.out;omega
    have hXT:∀ k,T k→¬k=X:=λk e e2=>by have:=hl'.out k e;omega
    have hh7:=(snKin b (.func (.func g) #[] lb)).frame hh6.out hc7 hXT
    have g07:=g06.out.ch hc7 (λk e=>by rw[show k=X from e];exact hXW)
    have hEn:¬(W.heap.size+1=X):=by have:=hXs'.out;have:=hs1'.out;omega
    have hWn:¬(W.heap.size=X):=by have:=hXs'.out;have:=hs1'.out;omega
    have hEs6:W.heap.size+1<w6.heap.size:=cell_lt e0
    have hRs6:W.heap.size<w6.heap.size:=by omega
    obtain⟨w7,hw7⟩:∃ w7,((w6.setCell ⟨X,0,none⟩ (.int .i64 y.code)).setCell ⟨X,1,none⟩ (.slice pz y.fs.length capz)).setCell ⟨X,2,none⟩ (.string ⟨y.b.toArray⟩)=w7:=⟨_,rfl⟩
    rw[hw7] at hc7 hX7 hf7 hh7 g07
    try rw[hw7]
    replace e0:=(hc7.cell (p:=⟨W.heap.size+1,0,none⟩) hEs6 hEn).trans e0
    replace e1:=(hc7.cell (p:=⟨W.heap.size+1,1,none⟩) hEs6 hEn).trans e1
    replace e2:=(hc7.cell (p:=⟨W.heap.size+1,2,none⟩) hEs6 hEn).trans e2
    replace ez:∀ o,w7.frozen? ⟨W.heap.size+1,o,none⟩=false:=λo=>(hc7.frozen (p:=⟨W.heap.size+1,o,none⟩) hEs6 hEn).trans (ez o)
    replace p0:=(hc7.cell (p:=⟨W.heap.size,0,none⟩) hRs6 hWn).trans p0
    replace p6:=(hc7.cell (p:=⟨W.heap.size,6,none⟩) hRs6 hWn).trans p6
    have y0:=hX7.c0
    have y1:=hX7.c1
    have y2:=hX7.c2
    have hpu:=hid (sn_puts hh7 (hG.gr g07) y _ hf7 hsm'.out (r.m==[72,69,65,68]) r.c)
    unfold Rp.V at hpu
    have g07':=hid g07
    clear hX6 hc7 hX7 hf7 hh7 g07 yz z0 z1 z2
    go_wp2_with fail
    try rw[hw7]
    refine hpu.out.mono ?_
    rintro e w8⟨rfl,hp8⟩
    have hEX:W.heap.size+1<w7.heap.size:=cell_lt e0
    have hET:¬T (W.heap.size+1):=λe=>by have:=hl'.out _ e;omega
    replace e0:=(hp8.2.cell (p:=⟨W.heap.size+1,0,none⟩) hEX hET).trans e0
    replace e1:=(hp8.2.cell (p:=⟨W.heap.size+1,1,none⟩) hEX hET).trans e1
    replace e2:=(hp8.2.cell (p:=⟨W.heap.size+1,2,none⟩) hEX hET).trans e2
    replace ez:∀ o,w8.frozen? ⟨W.heap.size+1,o,none⟩=false:=λo=>(hp8.2.frozen (p:=⟨W.heap.size+1,o,none⟩) hEX hET).trans (ez o)
    have hEX':=hid hEX
    have hp8':=hid hp8
    clear hp8 hw7 y0 y1 y2 p0 p6 hEX hw6 hw4
    go_wp2
    refine bodyPost_ret (v:=sevV .done) (by simp[results,results68,go_sem,sevV,e0,e1,e2]) rfl ?_
    rw[hq2.out]
    exact⟨rfl,kin_told (snKin b (.func (.func g) #[] lb)) hl'.out g07'.out hp8'.out (ch3 w8 (W.heap.size+1) _ _ _) (λk e=>⟨by rw[show k=W.heap.size+1 from e];omega,by rw[show k=W.heap.size+1 from e];exact hEX'.out⟩)⟩
  ·have hz:((H r).code==101)=false:=beq_false_of_ne h101
   rw[if_neg h101] at hq0
   have hq:=hid hq0
   have hpu:=hid (sn_puts hh4'.out hG4.out (H r) _ hf4'.out (hH.small r hr) (r.m==[72,69,65,68]) r.c)
   unfold Rp.V at hpu
   clear hq0 h101
   go_wp2_with fail
   try rw[hw4]
   refine hpu.out.mono ?_
   rintro e w5⟨rfl,hp5⟩
   have hEX:W.heap.size+1<w4.heap.size:=cell_lt e0
   have hET:¬T (W.heap.size+1):=λe=>by have:=hl'.out _ e;omega
   replace e0:=(hp5.2.cell (p:=⟨W.heap.size+1,0,none⟩) hEX hET).trans e0
   replace e1:=(hp5.2.cell (p:=⟨W.heap.size+1,1,none⟩) hEX hET).trans e1
   replace e2:=(hp5.2.cell (p:=⟨W.heap.size+1,2,none⟩) hEX hET).trans e2
   replace ez:∀ o,w5.frozen? ⟨W.heap.size+1,o,none⟩=false:=λo=>(hp5.2.frozen (p:=⟨W.heap.size+1,o,none⟩) hEX hET).trans (ez o)
   have hp5':=hid hp5
   have hEX':=hid hEX
   clear hp5 hw4 y0 y1 y2 yz p0 p1 p2' p3 p4 p5 p6 hEX
   go_wp2
   refine bodyPost_ret (v:=sevV .done) (by simp[results,results68,go_sem,sevV,e0,e1,e2]) rfl ?_
   rw[hq.out]
   exact⟨rfl,kin_told (snKin b (.func (.func g) #[] lb)) hl'.out g04.out hp5'.out (ch3 w5 (W.heap.size+1) _ _ _) (λk e=>⟨by rw[show k=W.heap.size+1 from e];omega,by rw[show k=W.heap.size+1 from e];exact hEX'.out⟩)⟩
end
