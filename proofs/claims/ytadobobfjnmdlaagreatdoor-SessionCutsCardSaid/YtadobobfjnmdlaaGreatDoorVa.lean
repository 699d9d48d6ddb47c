/-
  Replies: a code's reason, whether it has a body, a number in decimal digits.
-/
import Derived.IntWalk
import Derived.Lib.ItoaLen
import Derived.Test.YtadobobfjnmdlaaGreatDoorL
import Derived.Test.YtadobobfjnmdlaaGreatDoorChecked
set_option linter.unnecessarySimpa false
set_option linter.unusedVariables false
set_option linter.unusedSimpArgs false
set_option maxHeartbeats 16000000
set_option maxRecDepth 100000
open Go.Lib (hid)
open Go.Proofs.Tryz
namespace Go.Proofs.YtadobobfjnmdlaaGreatDoor
open Go.RowKit
attribute [local go_sem] Oper.semAt_some
theorem reason_ways (c:Int):c=101∨c=200∨c=400∨c=403∨c=404∨c=405∨c=413∨c=426∨c=431∨(((c==101)=false)∧((c==200)=false)∧((c==400)=false)∧((c==403)=false)∧((c==404)=false)∧((c==405)=false)∧((c==413)=false)∧((c==426)=false)∧((c==431)=false)):=by
 by_cases h:c=101∨c=200∨c=400∨c=403∨c=404∨c=405∨c=413∨c=426∨c=431
 ·omega
 ·right;right;right;right;right;right;right;right;right
  simp only[beq_eq_false_iff_ne,ne_eq]
  omega
theorem reason_any (c:Int) (w:World):Calls prog 71 #[.int .i64 c] w λe w'=>e=.returned (.string ⟨(reasonL c).toArray⟩)∧w=w':=by
 rcases reason_ways c with rfl | rfl | rfl | rfl | rfl | rfl | rfl | rfl | rfl | ⟨h0,h1,h2,h3,h4,h5,h6,h7,h8⟩
 ·go_enter func71,ntmps71
  go_wp2
  go_ret
  exact⟨rfl,rfl⟩
 ·go_enter func71,ntmps71
  go_wp2
  go_ret
  exact⟨rfl,rfl⟩
 ·go_enter func71,ntmps71
  go_wp2
  go_ret
  exact⟨rfl,rfl⟩
 ·go_enter func71,ntmps71
  go_wp2
  go_ret
  exact⟨rfl,rfl⟩
 ·go_enter func71,ntmps71
  go_wp2
  go_ret
  exact⟨rfl,rfl⟩
 ·go_enter func71,ntmps71
  go_wp2
  go_ret
  exact⟨rfl,rfl⟩
 ·go_enter func71,ntmps71
  go_wp2
  go_ret
  exact⟨rfl,rfl⟩
 ·go_enter func71,ntmps71
  go_wp2
  go_ret
  exact⟨rfl,rfl⟩
 ·go_enter func71,ntmps71
  go_wp2
  go_ret
  exact⟨rfl,rfl⟩
 ·have hr:=hid (show reasonL c=[83,116,97,116,117,115] by
   simp only[beq_eq_false_iff_ne,ne_eq] at h0 h1 h2 h3 h4 h5 h6 h7 h8
   unfold reasonL
   rw[if_neg h0,if_neg h1,if_neg h2,if_neg h3,if_neg h4,if_neg h5,if_neg h6,if_neg h7,if_neg h8])
  go_enter func71,ntmps71
  go_wp2
  go_ret
  exact⟨by rw[hr.out];rfl,rfl⟩
theorem bare_ways (c:Int):(c<200∧bareB c=true)∨(¬c<200∧c=204∧bareB c=true)∨(¬c<200∧(c==204)=false∧c=304∧bareB c=true)∨(¬c<200∧(c==204)=false∧(c==304)=false∧bareB c=false):=by
 unfold bareB
 by_cases h1:c<200
 ·left;simp[h1]
 ·by_cases h2:c=204
  ·right;left;simp[h2]
  ·by_cases h3:c=304
   ·right;right;left;simp[h3]
   ·right;right;right;simp[h1,h2,h3]
theorem barec_any (c:Int) (w:World):Calls prog 117 #[.int .i64 c] w λe w'=>e=.returned (.bool (bareB c))∧w=w':=by
 rcases bare_ways c with⟨h1,hb⟩ | ⟨h1,rfl,hb⟩ | ⟨h1,h2,rfl,hb⟩ | ⟨h1,h2,h3,hb⟩
 all_goals
  rw[hb]
  clear hb
  go_enter func117,ntmps117
  go_wp2
  go_ret
  exact⟨rfl,rfl⟩
theorem allx_false {α:Type} {l:List α} {p:α→Bool} {k:Nat} (hk:k<l.length) (h:p l[k]=false):l.all p=false:=by
 rw[List.all_eq_false]
 exact⟨l[k],List.getElem_mem hk,by rw[h];decide⟩
theorem allx_succ {α:Type} {l:List α} {p:α→Bool} {k:Nat} (h:(l.take k).all p=true) (hk:k<l.length) (hp:p l[k]=true):(l.take (k+1)).all p=true:=by
 rw[List.take_succ_eq_append_getElem hk,List.all_append,h,List.all_cons,hp];rfl
theorem right_ways (r:Rp):(r.code<100∧rightR r=false)∨(¬r.code<100∧599<r.code∧rightR r=false) ∨
  (¬r.code<100∧¬599<r.code∧bareB r.code=true∧r.b.isEmpty=false∧rightR r=false) ∨
  (¬r.code<100∧¬599<r.code∧bareB r.code=true∧r.b=[]∧rightR r=r.fs.all (fieldOk r.code)) ∨
  (¬r.code<100∧¬599<r.code∧bareB r.code=false∧65536<(r.b.length:Int)∧rightR r=false) ∨
  (¬r.code<100∧¬599<r.code∧bareB r.code=false∧¬65536<(r.b.length:Int)∧rightR r=r.fs.all (fieldOk r.code)):=by
 unfold rightR
 by_cases h1:r.code<100
 ·left;refine⟨h1,?_⟩;rw[decide_eq_false (by omega)];rfl
 ·right
  by_cases h2:599<r.code
  ·left;refine⟨h1,h2,?_⟩;rw[decide_eq_false (show ¬r.code≤599 by omega)];simp
  ·right
   have e1:decide (100≤r.code)=true:=decide_eq_true (by omega)
   have e2:decide (r.code≤599)=true:=decide_eq_true (by omega)
   cases hb:bareB r.code
   ·right;right
    by_cases h3:65536<(r.b.length:Int)
    ·left;refine⟨h1,h2,rfl,h3,?_⟩;rw[decide_eq_false (show ¬r.b.length≤65536 by omega)];simp
    ·right;refine⟨h1,h2,rfl,h3,?_⟩;rw[e1,e2,decide_eq_true (show r.b.length≤65536 by omega)];simp
   ·cases he:r.b.isEmpty
    ·left;exact⟨h1,h2,rfl,rfl,by simp⟩
    ·right;left
     have hbe:r.b=[]:=by simpa using he
     refine⟨h1,h2,rfl,hbe,?_⟩
     rw[e1,e2,hbe];simp
theorem own_ways (c:Int) (a1 a2 a3:Bool):(a1=true∧(a1||(a2||(c != 101&&a3)))=true)∨(a1=false∧a2=true∧(a1||(a2||(c != 101&&a3)))=true) ∨
  (a1=false∧a2=false∧(c != 101)=false∧(a1||(a2||(c != 101&&a3)))=false) ∨
  (a1=false∧a2=false∧(c != 101)=true∧a3=true∧(a1||(a2||(c != 101&&a3)))=true) ∨
  (a1=false∧a2=false∧(c != 101)=true∧a3=false∧(a1||(a2||(c != 101&&a3)))=false):=by
 cases a1 <;> cases a2 <;> cases a3 <;> cases (c != 101) <;> simp
theorem right_any (r:Rp) (t:Value) (w:World) (hG:G w) (hf:FieldsAt w t r.fs) (hlf:r.fs.length≤1000000) (hs:∀ f∈r.fs,f.1.length≤1000000∧f.2.length≤1000000) (hlb:r.b.length≤9223372036854775807) :
  Calls prog 114 #[r.V t] w λe w'=>e=.returned (.bool (rightR r))∧Gr w w':=by
 have hG':=hid hG
 have hs':=hid hs
 obtain⟨p,cap,rfl,hc⟩:=hf
 have hc':=hid hc
 have hways:=right_ways r
 obtain⟨R,hR⟩:∃ R,rightR r=R:=⟨_,rfl⟩
 rw[hR] at hways ⊢
 have hR':=hid hR
 clear hc hs hG hR
 obtain⟨c,fs,b⟩:=r
 unfold Rp.V
 dsimp only at hc' hs' hways hlf hlb ⊢
 have g0:=hid (Gr.alloc w (.cells #[.int .i64 c,.slice p fs.length cap,.string ⟨b.toArray⟩] 51))
 have n0:(w.alloc (.cells #[.int .i64 c,.slice p fs.length cap,.string ⟨b.toArray⟩] 51)).cell? ⟨w.heap.size,0,none⟩=some (.int .i64 c):=by simp[go_sem]
 have n1:(w.alloc (.cells #[.int .i64 c,.slice p fs.length cap,.string ⟨b.toArray⟩] 51)).cell? ⟨w.heap.size,1,none⟩=some (.slice p fs.length cap):=by simp[go_sem]
 have n2:(w.alloc (.cells #[.int .i64 c,.slice p fs.length cap,.string ⟨b.toArray⟩] 51)).cell? ⟨w.heap.size,2,none⟩=some (.string ⟨b.toArray⟩):=by simp[go_sem]
 rcases hways with⟨h1,hr⟩ | ⟨h1,h2,hr⟩ | ⟨h1,h2,hb,h3,hr⟩ | ⟨h1,h2,hb,h3,hr⟩ | ⟨h1,h2,hb,h3,hr⟩ | ⟨h1,h2,hb,h3,hr⟩
 ·go_enter func114,ntmps114
  go_wp2
  go_ret
  exact⟨by first | rfl | (rw[hr];rfl),g0.out⟩
 ·go_enter func114,ntmps114
  go_wp2
  go_ret
  exact⟨by first | rfl | (rw[hr];rfl),g0.out⟩
 ·go_enter func114,ntmps114
  go_wp2_with (go_at_call 117;refine (barec_any c _).mono ?_;rintro e w' ⟨rfl,rfl⟩;rw[hb])
  go_ret
  exact⟨by first | rfl | (rw[hr];rfl),g0.out⟩
 case' inr.inr.inr.inl =>
  subst h3
  go_enter func114,ntmps114
  go_wp2_with (go_at_call 117;refine (barec_any c _).mono ?_;rintro e w' ⟨rfl,rfl⟩;rw[hb])
 case inr.inr.inr.inr.inl =>
  go_enter func114,ntmps114
  go_wp2_with (go_at_call 117;refine (barec_any c _).mono ?_;rintro e w' ⟨rfl,rfl⟩;rw[hb])
  go_ret
  exact⟨by first | rfl | (rw[hr];rfl),g0.out⟩
 case' inr.inr.inr.inr.inr =>
  go_enter func114,ntmps114
  go_wp2_with (go_at_call 117;refine (barec_any c _).mono ?_;rintro e w' ⟨rfl,rfl⟩;rw[hb])
 all_goals
  have hr':=hid hr
  (try clear h3)
  clear h1 h2 hb hr n2
  generalize (w.alloc (.cells #[.int .i64 c,.slice p fs.length cap,.string _] 51))=w1 at g0 n0 n1 ⊢
  go_wp2
  go_loopw [35] (λi W=>∃ k:Nat,k≤fs.length∧i=.int .i64 k∧(fs.take k).all (fieldOk c)=true∧Gr w1 W) (λi _=>fs.length - (intOf i).toNat)
  case atStart=>exact⟨0,Nat.zero_le _,rfl,rfl,Gr.refl _⟩
  case round =>
   obtain⟨k,hk,rfl,hall,hg⟩:=hrel
   have hall':=hid hall
   have hg':=hid hg
   replace n0:=hg.cell n0
   clear hall n1
   by_cases hlt:k<fs.length
   ·obtain⟨bf,off,rfl,d1,d2⟩:=hc'.out k hlt
    replace d1:=(g0.out.trans hg).cell d1
    replace d2:=(g0.out.trans hg).cell d2
    have hxs:=hs'.out _ (List.getElem_mem hlt)
    obtain⟨⟨xn,xv⟩,hx⟩:∃ x,fs[k]=x:=⟨_,rfl⟩
    rw[hx] at d1 d2 hxs
    dsimp only at d1 d2 hxs
    have hkI:(k:Int)<fs.length:=by omega
    have hcat1:(⟨xn.toArray⟩:ByteArray)++⟨#[58]⟩=⟨(xn++[58]).toArray⟩:=cat_mk xn [58]
    have hcat2:(⟨(xn++[58]).toArray⟩:ByteArray)++⟨xv.toArray⟩=⟨(xn++[58]++xv).toArray⟩:=cat_mk _ xv
    have hz1:¬9223372036854775807<xn.length+1:=by omega
    have hz2:¬9223372036854775807<(xn++[58]).length+xv.length:=by rw[List.length_append];show ¬_<_+1+_;omega
    have hbad:=hid (show fieldOk c (xn,xv)=false→R=false from λh=>by
     have h9:fieldOk c fs[k]=false:=by rw[hx];exact h
     rw[hr'.out];exact allx_false (p:=fieldOk c) hlt h9)
    have hgood:=hid (show fieldOk c (xn,xv)=true→(fs.take (k+1)).all (fieldOk c)=true from λh=>by
     have h9:fieldOk c fs[k]=true:=by rw[hx];exact h
     exact allx_succ (p:=fieldOk c) hall'.out hlt h9)
    have hpl:(xn++[58]++xv).length<4294967281:=by rw[List.length_append,List.length_append];show _+1+_<_;omega
    have hfo:fieldOk c (xn,xv)=(decide (parseB (xn++[58]++xv)=(xn,xv,true))&&!(alikeB xn kLen||(alikeB xn kCod||(c != 101&&alikeB xn kHold)))):=rfl
    have hpc:=hid (λW hGW=>parse_any (xn++[58]++xv) W hGW hpl)
    obtain⟨⟨g1,g2,ok⟩,hP⟩:∃ x,parseB (xn++[58]++xv)=x:=⟨_,rfl⟩
    rw[hP] at hpc hfo
    obtain⟨cat,hcat⟩:∃ x,xn++[58]=x:=⟨_,rfl⟩
    rw[hcat] at hcat1 hcat2 hz2 hpc
    obtain⟨cat2,hcc⟩:∃ x,cat++xv=x:=⟨_,rfl⟩
    rw[hcc] at hcat2 hpc
    have q1:=hid (λW hGW=>alike_any xn kLen W hGW (by omega) (by decide))
    have q2:=hid (λW hGW=>alike_any xn kCod W hGW (by omega) (by decide))
    have q3:=hid (λW hGW=>alike_any xn kHold W hGW (by omega) (by decide))
    have how:=own_ways c (alikeB xn kLen) (alikeB xn kCod) (alikeB xn kHold)
    obtain⟨a1,ha1⟩:∃ a,alikeB xn kLen=a:=⟨_,rfl⟩
    obtain⟨a2,ha2⟩:∃ a,alikeB xn kCod=a:=⟨_,rfl⟩
    obtain⟨a3,ha3⟩:∃ a,alikeB xn kHold=a:=⟨_,rfl⟩
    rw[ha1] at q1 how hfo
    rw[ha2] at q2 how hfo
    rw[ha3] at q3 how hfo
    obtain⟨own,hown⟩:∃ o,(a1||(a2||(c != 101&&a3)))=o:=⟨_,rfl⟩
    rw[hown] at how hfo
    have hfo':=hid hfo
    clear hfo hown ha1 ha2 ha3 hP hcat hcc hx hxs hpl hg
    go_upto_region 6 with (fail)
    have x0:(wr.alloc (.cells #[.string ⟨xn.toArray⟩,.string ⟨xv.toArray⟩] 80)).cell? ⟨wr.heap.size,0,none⟩=some (.string ⟨xn.toArray⟩):=cell_new7 wr [.string ⟨xn.toArray⟩,.string ⟨xv.toArray⟩] _ 0 _ rfl
    have x1:(wr.alloc (.cells #[.string ⟨xn.toArray⟩,.string ⟨xv.toArray⟩] 80)).cell? ⟨wr.heap.size,1,none⟩=some (.string ⟨xv.toArray⟩):=cell_new7 wr [.string ⟨xn.toArray⟩,.string ⟨xv.toArray⟩] _ 1 _ rfl
    have gx:Gr wr (wr.alloc (.cells #[.string ⟨xn.toArray⟩,.string ⟨xv.toArray⟩] 80)):=Gr.alloc _ _
    generalize wr.alloc (.cells #[.string ⟨xn.toArray⟩,.string ⟨xv.toArray⟩] 80)=w2 at x0 x1 gx ⊢
    replace n0:=gx.cell n0
    have g2':=hid (hg'.out.trans gx)
    clear gx d1 d2
    go_wp2_with fail
    refine (hpc.out _ (hG'.out.gr (g0.out.trans g2'.out))).mono ?_
    rintro e w3⟨rfl,hb3⟩
    replace n0:=hb3.cell n0
    replace x0:=hb3.cell x0
    replace x1:=hb3.cell x1
    have g3':=hid (g2'.out.trans hb3)
    clear hb3 hcat1 hcat2 hz1 hz2
    unfold pVal
    go_upto_region 7 with (fail)
    have y0:(w3.alloc (.cells #[.string ⟨g1.toArray⟩,.string ⟨g2.toArray⟩] 80)).cell? ⟨w3.heap.size,0,none⟩=some (.string ⟨g1.toArray⟩):=cell_new7 w3 [.string ⟨g1.toArray⟩,.string ⟨g2.toArray⟩] _ 0 _ rfl
    have y1:(w3.alloc (.cells #[.string ⟨g1.toArray⟩,.string ⟨g2.toArray⟩] 80)).cell? ⟨w3.heap.size,1,none⟩=some (.string ⟨g2.toArray⟩):=cell_new7 w3 [.string ⟨g1.toArray⟩,.string ⟨g2.toArray⟩] _ 1 _ rfl
    have gy:Gr w3 (w3.alloc (.cells #[.string ⟨g1.toArray⟩,.string ⟨g2.toArray⟩] 80)):=Gr.alloc _ _
    generalize w3.alloc (.cells #[.string ⟨g1.toArray⟩,.string ⟨g2.toArray⟩] 80)=w4 at y0 y1 gy ⊢
    replace n0:=gy.cell n0
    replace x0:=gy.cell x0
    replace x1:=gy.cell x1
    have g4':=hid (g3'.out.trans gy)
    clear gy
    go_wp2_with fail
    refine (q1.out _ (hG'.out.gr (g0.out.trans g4'.out))).mono ?_
    rintro e w5⟨rfl,hb5⟩
    replace n0:=hb5.cell n0
    replace x0:=hb5.cell x0
    replace x1:=hb5.cell x1
    replace y0:=hb5.cell y0
    replace y1:=hb5.cell y1
    have g5':=hid (g4'.out.trans hb5)
    clear hb5
    rcases how with⟨rfl,rfl⟩ | ⟨rfl,rfl,rfl⟩ | ⟨rfl,rfl,hc1,rfl⟩ | ⟨rfl,rfl,hc1,rfl,rfl⟩ | ⟨rfl,rfl,hc1,rfl,rfl⟩
    ·cases ok with
     | false =>
      have hfin:=hid (hbad.out (by rw[hfo'.out];simp))
      go_wp2
      go_ret
      exact⟨by rw[hfin.out];rfl,g0.out.trans g5'.out⟩
     | true =>
      by_cases hn:g1=xn
      ·subst hn
       by_cases hv:g2=xv
       ·subst hv
        have hfin:=hid (hbad.out (by rw[hfo'.out];simp))
        go_wp2
        go_ret
        exact⟨by rw[hfin.out];rfl,g0.out.trans g5'.out⟩
       ·have hfin:=hid (hbad.out (by rw[hfo'.out];simp[hv]))
        go_wp2
        go_ret
        exact⟨by rw[hfin.out];rfl,g0.out.trans g5'.out⟩
      ·have hfin:=hid (hbad.out (by rw[hfo'.out];simp[hn]))
       go_wp2
       go_ret
       exact⟨by rw[hfin.out];rfl,g0.out.trans g5'.out⟩
    ·go_wp2_with fail
     refine (q2.out _ (hG'.out.gr (g0.out.trans g5'.out))).mono ?_
     rintro e w6⟨rfl,hb⟩
     replace n0:=hb.cell n0
     replace x0:=hb.cell x0
     replace x1:=hb.cell x1
     replace y0:=hb.cell y0
     replace y1:=hb.cell y1
     have g6':=hid (g5'.out.trans hb)
     clear hb
     cases ok with
     | false =>
      have hfin:=hid (hbad.out (by rw[hfo'.out];simp))
      go_wp2
      go_ret
      exact⟨by rw[hfin.out];rfl,g0.out.trans g6'.out⟩
     | true =>
      by_cases hn:g1=xn
      ·subst hn
       by_cases hv:g2=xv
       ·subst hv
        have hfin:=hid (hbad.out (by rw[hfo'.out];simp))
        go_wp2
        go_ret
        exact⟨by rw[hfin.out];rfl,g0.out.trans g6'.out⟩
       ·have hfin:=hid (hbad.out (by rw[hfo'.out];simp[hv]))
        go_wp2
        go_ret
        exact⟨by rw[hfin.out];rfl,g0.out.trans g6'.out⟩
      ·have hfin:=hid (hbad.out (by rw[hfo'.out];simp[hn]))
       go_wp2
       go_ret
       exact⟨by rw[hfin.out];rfl,g0.out.trans g6'.out⟩
    ·go_wp2_with fail
     refine (q2.out _ (hG'.out.gr (g0.out.trans g5'.out))).mono ?_
     rintro e w6⟨rfl,hb⟩
     replace n0:=hb.cell n0
     replace x0:=hb.cell x0
     replace x1:=hb.cell x1
     replace y0:=hb.cell y0
     replace y1:=hb.cell y1
     have g6':=hid (g5'.out.trans hb)
     clear hb
     cases ok with
     | false =>
      have hfin:=hid (hbad.out (by rw[hfo'.out];simp))
      go_wp2
      go_ret
      exact⟨by rw[hfin.out];rfl,g0.out.trans g6'.out⟩
     | true =>
      by_cases hn:g1=xn
      ·subst hn
       by_cases hv:g2=xv
       ·subst hv
        have hnx:=hid (hgood.out (by rw[hfo'.out];simp))
        go_wp2
        go_roundw
        case rel=>exact⟨k+1,by omega,by go_num,hnx.out,g6'.out⟩
        case measure=>simp[intOf];omega
       ·have hfin:=hid (hbad.out (by rw[hfo'.out];simp[hv]))
        go_wp2
        go_ret
        exact⟨by rw[hfin.out];rfl,g0.out.trans g6'.out⟩
      ·have hfin:=hid (hbad.out (by rw[hfo'.out];simp[hn]))
       go_wp2
       go_ret
       exact⟨by rw[hfin.out];rfl,g0.out.trans g6'.out⟩
    ·go_wp2_with fail
     refine (q2.out _ (hG'.out.gr (g0.out.trans g5'.out))).mono ?_
     rintro e w6⟨rfl,hb⟩
     replace n0:=hb.cell n0
     replace x0:=hb.cell x0
     replace x1:=hb.cell x1
     replace y0:=hb.cell y0
     replace y1:=hb.cell y1
     have g6':=hid (g5'.out.trans hb)
     clear hb
     go_wp2_with fail
     refine (q3.out _ (hG'.out.gr (g0.out.trans g6'.out))).mono ?_
     rintro e w7⟨rfl,hb⟩
     replace n0:=hb.cell n0
     replace x0:=hb.cell x0
     replace x1:=hb.cell x1
     replace y0:=hb.cell y0
     replace y1:=hb.cell y1
     have g7':=hid (g6'.out.trans hb)
     clear hb
     cases ok with
     | false =>
      have hfin:=hid (hbad.out (by rw[hfo'.out];simp))
      go_wp2
      go_ret
      exact⟨by rw[hfin.out];rfl,g0.out.trans g7'.out⟩
     | true =>
      by_cases hn:g1=xn
      ·subst hn
       by_cases hv:g2=xv
       ·subst hv
        have hfin:=hid (hbad.out (by rw[hfo'.out];simp))
        go_wp2
        go_ret
        exact⟨by rw[hfin.out];rfl,g0.out.trans g7'.out⟩
       ·have hfin:=hid (hbad.out (by rw[hfo'.out];simp[hv]))
        go_wp2
        go_ret
        exact⟨by rw[hfin.out];rfl,g0.out.trans g7'.out⟩
      ·have hfin:=hid (hbad.out (by rw[hfo'.out];simp[hn]))
       go_wp2
       go_ret
       exact⟨by rw[hfin.out];rfl,g0.out.trans g7'.out⟩
    ·go_wp2_with fail
     refine (q2.out _ (hG'.out.gr (g0.out.trans g5'.out))).mono ?_
     rintro e w6⟨rfl,hb⟩
     replace n0:=hb.cell n0
     replace x0:=hb.cell x0
     replace x1:=hb.cell x1
     replace y0:=hb.cell y0
     replace y1:=hb.cell y1
     have g6':=hid (g5'.out.trans hb)
     clear hb
     go_wp2_with fail
     refine (q3.out _ (hG'.out.gr (g0.out.trans g6'.out))).mono ?_
     rintro e w7⟨rfl,hb⟩
     replace n0:=hb.cell n0
     replace x0:=hb.cell x0
     replace x1:=hb.cell x1
     replace y0:=hb.cell y0
     replace y1:=hb.cell y1
     have g7':=hid (g6'.out.trans hb)
     clear hb
     cases ok with
     | false =>
      have hfin:=hid (hbad.out (by rw[hfo'.out];simp))
      go_wp2
      go_ret
      exact⟨by rw[hfin.out];rfl,g0.out.trans g7'.out⟩
     | true =>
      by_cases hn:g1=xn
      ·subst hn
       by_cases hv:g2=xv
       ·subst hv
        have hnx:=hid (hgood.out (by rw[hfo'.out];simp))
        go_wp2
        go_roundw
        case rel=>exact⟨k+1,by omega,by go_num,hnx.out,g7'.out⟩
        case measure=>simp[intOf];omega
       ·have hfin:=hid (hbad.out (by rw[hfo'.out];simp[hv]))
        go_wp2
        go_ret
        exact⟨by rw[hfin.out];rfl,g0.out.trans g7'.out⟩
      ·have hfin:=hid (hbad.out (by rw[hfo'.out];simp[hn]))
       go_wp2
       go_ret
       exact⟨by rw[hfin.out];rfl,g0.out.trans g7'.out⟩
   ·obtain rfl:k=fs.length:=by omega
    have hfin:=hid (show R=true by rw[hr'.out,←hall'.out,List.take_length])
    go_wp2
    go_ret
    exact⟨by rw[hfin.out];rfl,g0.out.trans hg'.out⟩
end Go.Proofs.YtadobobfjnmdlaaGreatDoor
namespace Go.Proofs.YtadobobfjnmdlaaGreatDoor
open Go.RowKit Go.Shelf
theorem infoByte:(prog.info? 5).map (λi=>(i.zero,i.size,i.bytes))=some (some (.int .u8 0),1,1):=by kernel_rfl
theorem sizeBuilder:(prog.info? 147).map (·.size)=some 2:=by kernel_rfl
theorem liesBuilder:liesAt prog prog.depth 147 (2 / prog.cellsOf 147) 0 147 1=true:=by kernel_rfl
abbrev Bld (B b:Nat) (bs:List Value) (w:World):Prop:=Lib.IsBuilder 147 5 B b bs w
theorem copyCheck_used (b:Nat) (w:World) (h0:w.cell? ⟨b,0,none⟩=some (.pointer (some ⟨b,0,none⟩))) :
  Calls prog 143 #[.pointer (some ⟨b,0,none⟩)] w λe w'=>e=.returned (.tuple #[])∧w'=w:=by
 obtain⟨j,hj,_⟩:=Option.map_eq_some_iff.1 sizeBuilder
 go_enter func143,ntmps143
 go_wp2
 rw[Lib.run_neq_ptr_same w _ underlying145 hj]
 go_wp2
 go_end0
 exact⟨rfl,rfl⟩
theorem copyCheck_fresh (b:Nat) (w:World) (h0:w.cell? ⟨b,0,none⟩=some (.pointer none)) (hsh:w.shape? b=some (147,2)) (hfz:w.frozen? ⟨b,0,none⟩=false) :
  Calls prog 143 #[.pointer (some ⟨b,0,none⟩)] w λe w'=>e=.returned (.tuple #[])∧w'=w.setCell ⟨b,0,none⟩ (.pointer (some ⟨b,0,none⟩)):=by
 obtain⟨j,hj,hjs⟩:=Option.map_eq_some_iff.1 sizeBuilder
 go_enter func143,ntmps143
 go_wp2
 rw[Lib.run_to_unsafe w ⟨b,0,none⟩ underlying145 underlying225 hj (by rw[hjs];decide) hsh (Nat.zero_lt_succ 1)]
 simp only[Result.andThen]
 rw[Oper.upon_value]
 go_wp2
 rw[run_callFunc_extern func178 (by kernel_rfl) (by kernel_rfl) (by kernel_rfl) (e:=Extern.AbiNoEscape.same) (by kernel_rfl)]
 rw[Lib.run_noEscape]
 simp only[Result.andThen]
 rw[Oper.upon_value]
 go_wp2
 rw[Lib.run_from_unsafe w ⟨b,0,none⟩ underlying225 underlying145 hj hsh liesBuilder]
 simp only[Result.andThen]
 rw[Oper.upon_value]
 go_wp2
 go_end0
 exact⟨rfl,rfl⟩
theorem copyCheck_any (B b:Nat) (bs:List Value) (w:World) (h:Bld B b bs w) :
  Calls prog 143 #[.pointer (some ⟨b,0,none⟩)] w λe w'=>e=.returned (.tuple #[])∧(Lib.BuilderAt 147 5 B b (.pointer (some ⟨b,0,none⟩)) bs w'∧Below B w w'):=by
 rcases h with h | h
 ·refine (copyCheck_fresh b w h.cell0 h.shape h.frozen0).mono ?_
  rintro e w'⟨rfl,rfl⟩
  exact⟨rfl,h.used _,(Below.refl B w).setCell (p:=⟨b,0,none⟩) h.1 _⟩
 ·refine (copyCheck_used b w h.cell0).mono ?_
  rintro e w'⟨rfl,rfl⟩
  exact⟨rfl,h,Below.refl B _⟩
theorem writeByte_any (B b:Nat) (bs:List Value) (c:Int) (w:World) (h:Bld B b bs w) (hlen:bs.length+1≤140737488355328) (hBw:B≤w.heap.size) :
  Calls prog 215 #[.pointer (some ⟨b,0,none⟩),.int .u8 c] w λe w'=>e=.returned .nilIface∧(Bld B b (bs++[.int .u8 c]) w'∧Below B w w'):=by
 obtain⟨i0,hi,hz0,hz1,hz2⟩:=info_parts infoByte
 go_enter func215,ntmps215
 go_wp2_with fail
 refine (copyCheck_any B b bs _ h).mono ?_
 rintro e w1⟨rfl,h1,hb1⟩
 obtain⟨hB,v,hbk,hown,hne⟩:=h1
 have c0:w1.cell? ⟨b,0,none⟩=some (.pointer (some ⟨b,0,none⟩)):=by rw[Lib.cell_of_heap hbk];rfl
 have c1:w1.cell? ⟨b,1,none⟩=some v:=by rw[Lib.cell_of_heap hbk];rfl
 go_wp2_with (at_builtin;refine wpList_append_own _ rfl _ _ 100 rfl B 5 i0 (.int .u8 0) 1 1 underlying100 hi hz0 hz1 hz2 rfl (by decide) _ _ _ rfl (hown.alloc _) ⟨w1.heap.size,0,none⟩ 1 1 [.int .u8 c] rfl rfl ?c1 ?c2 ?c3 ?c4 ?c5 ?_)
 case c1 =>
  intro j u hj
  match j,hj with
  | 0,hj=>simp at hj;subst hj;simp[Addr.add]
 case c2=>intro u hu;simp at hu;subst hu;rfl
 case c3=>unfold maxLen;omega
 case c4=>omega
 case c5=>have:=hb1.size;simp;omega
 intro v' w2 hown' hgrow _
 have hlt:b<w1.heap.size:=by
  rcases Nat.lt_or_ge b w1.heap.size with h' | h'
  ·exact h'
  ·simp[Array.getElem?_eq_none h'] at hbk
 have hb2:w2.heap[b]?=some (.cells #[.pointer (some ⟨b,0,none⟩),v] 147 (0,0)):=by
  rw[hgrow.block b (by simp;omega) (λe=>hne e.symm),Lib.alloc_old w1 _ b hlt]
  exact hbk
 have d0:w2.cell? ⟨b,0,none⟩=some (.pointer (some ⟨b,0,none⟩)):=by rw[Lib.cell_of_heap hb2];rfl
 have d1:w2.cell? ⟨b,1,none⟩=some v:=by rw[Lib.cell_of_heap hb2];rfl
 have f1:w2.frozen? ⟨b,1,none⟩=false:=Lib.frozen_of_heap hb2 1
 obtain⟨g,cap,rfl⟩:∃ g cap,v'=.slice (some ⟨g,0,none⟩) (bs.length+1) cap:=by
  rcases hown'.2 with⟨_,h0⟩ | ⟨g,cap,cur,hv,_⟩
  ·omega
  ·exact⟨g,cap,hv⟩
 go_wp2
 go_ret
 refine⟨rfl,.inr ?_,?_⟩
 ·exact Lib.BuilderAt.put (T:=147) (e:=5) hB hb2 (bs':=bs++[.int .u8 c]) (by simpa using hown') (by decide)
 ·exact ((hb1.alloc (by have:=hb1.size;omega) _).grown hgrow (by have:=hb1.size;simp;omega) (λk hk=>(hown.lt k hk).1)).setCell (p:=⟨b,1,none⟩) hB _
theorem writeString_any (B b:Nat) (bs:List Value) (s:ByteArray) (w:World) (h:Bld B b bs w) (hlen:bs.length+s.size≤140737488355328) (hBw:B≤w.heap.size) :
  Calls prog 115 #[.pointer (some ⟨b,0,none⟩),.string s] w λe w'=>e=.returned (.tuple #[.int .i64 s.size,.nilIface])∧(Bld B b (bs++Lib.strCells s) w'∧Below B w w'):=by
 obtain⟨i0,hi,hz0,hz1,hz2⟩:=info_parts infoByte
 go_enter func115,ntmps115
 go_wp2_with fail
 refine (copyCheck_any B b bs _ h).mono ?_
 rintro e w1⟨rfl,h1,hb1⟩
 obtain⟨hB,v,hbk,hown,hne⟩:=h1
 have c0:w1.cell? ⟨b,0,none⟩=some (.pointer (some ⟨b,0,none⟩)):=by rw[Lib.cell_of_heap hbk];rfl
 have c1:w1.cell? ⟨b,1,none⟩=some v:=by rw[Lib.cell_of_heap hbk];rfl
 go_wp2_with (at_builtin;refine Lib.wpList_append_own_string _ rfl _ _ 100 9 rfl B 5 i0 underlying100 underlying9 hi hz0 hz1 hz2 _ _ _ rfl hown s rfl ?c3 ?c4 ?c5 ?_)
 case c3=>unfold maxLen;omega
 case c4=>omega
 case c5=>have:=hb1.size;omega
 intro v' w2 hown' hgrow _
 have hlt:b<w1.heap.size:=by
  rcases Nat.lt_or_ge b w1.heap.size with h' | h'
  ·exact h'
  ·simp[Array.getElem?_eq_none h'] at hbk
 have hb2:w2.heap[b]?=some (.cells #[.pointer (some ⟨b,0,none⟩),v] 147 (0,0)):=by
  rw[hgrow.block b hlt (λe=>hne e.symm)]
  exact hbk
 have d0:w2.cell? ⟨b,0,none⟩=some (.pointer (some ⟨b,0,none⟩)):=by rw[Lib.cell_of_heap hb2];rfl
 have d1:w2.cell? ⟨b,1,none⟩=some v:=by rw[Lib.cell_of_heap hb2];rfl
 have f1:w2.frozen? ⟨b,1,none⟩=false:=Lib.frozen_of_heap hb2 1
 obtain⟨ao,n',cap,rfl⟩:∃ ao n' cap,v'=.slice ao n' cap:=by
  rcases hown'.2 with⟨hv,_⟩ | ⟨g,cap,cur,hv,_⟩
  ·exact⟨_,_,_,hv⟩
  ·exact⟨_,_,_,hv⟩
 go_wp2
 go_ret2
 refine⟨rfl,.inr ?_,?_⟩
 ·exact Lib.BuilderAt.put (T:=147) (e:=5) hB hb2 (bs':=bs++Lib.strCells s) (by simpa[Lib.strCells_length] using hown') (by decide)
 ·exact (hb1.grown hgrow (by have:=hb1.size;omega) (λk hk=>(hown.lt k hk).1)).setCell (p:=⟨b,1,none⟩) hB _
