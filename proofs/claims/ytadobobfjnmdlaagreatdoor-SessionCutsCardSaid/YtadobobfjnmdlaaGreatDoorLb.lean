/-
  Walks over package line: a request's line.
-/
import Derived.Test.YtadobobfjnmdlaaGreatDoorOw
import Derived.Sort.Grow
import Derived.Lib.SmallJoins
import Derived.RangeFuncBound
import Derived.RangeFuncCalls
import Derived.Shelf.Abstract
import Derived.Shelf.RegionOpen
import Derived.OwnWalkIn
import Derived.TacticsInMore
import Derived.LoopNIn
import Derived.LoopIn
set_option linter.unnecessarySimpa false
set_option linter.unusedVariables false
set_option linter.unusedSimpArgs false
set_option maxHeartbeats 16000000
set_option maxRecDepth 100000
open Go.Lib (hid)
open Go.Proofs.Tryz
namespace Go.Proofs.YtadobobfjnmdlaaGreatDoor
open Go.RowKit Go.Maps Go.ChangeMaps
theorem lawS:Keyed prog 9:=string_keyed underlying9
theorem zeroI (w:World):(zeroValue 3).run prog w=.ok (.int .i64 0) w:=by kernel_rfl
theorem proto_map (W:World) (p:List UInt8) (hp:p.length≤1000000) :
  ∃ w1 w2,(Instr.mapUpdate 238 (.map (some W.heap.size)) (.string ⟨#[72,84,84,80,47,49,46,48]⟩) (.int .i64 10)).run prog (W.alloc (.map #[] 0))=.ok () w1 ∧
   (Instr.mapUpdate 238 (.map (some W.heap.size)) (.string ⟨#[72,84,84,80,47,49,46,49]⟩) (.int .i64 11)).run prog w1=.ok () w2 ∧
   (Instr.lookup 238 (.map (some W.heap.size)) (.string ⟨p.toArray⟩) false).run prog w2=.ok (.int .i64 (protoN p)) w2∧Gr W w2:=by
 have h0:=World.ownsMap_made W prog 9 (plainElem (H:=Unit) prog 3)
 have hk:∀ l:List UInt8,l.length≤1000000→keyOf prog 9 (.string ⟨l.toArray⟩)=some (.string l):=λl hl =>
  WideMaps.keyOf_string_mk underlying9 (s:=⟨l.toArray⟩) (by rw[size_mk];unfold maxLen;omega)
 obtain⟨w1,r1,o1,g1⟩:=h0.update lawS underlying238 (by decide) (hk pH10 (by decide)) (plainElem_int underlying3 (a:=10) (by decide))
 obtain⟨w2,r2,o2,g2⟩:=o1.update lawS underlying238 (by decide) (hk pH11 (by decide)) (plainElem_int underlying3 (a:=11) (by decide))
 obtain⟨c,r3,hat,_⟩:=o2.lookup_int lawS underlying238 underlying3 (zeroI w2) (hk p hp)
 have hB0:Gr W (W.alloc (.map #[] 0)):=Gr.alloc _ _
 have hB1:Gr W w1:=Below.grown hB0 g1 (Below.size hB0) (λj hj=>by cases hj;exact Nat.le_refl _)
 have hB2:Gr W w2:=Below.grown hB1 g2 (Below.size hB1) (λj hj=>by cases hj;exact Nat.le_refl _)
 refine⟨w1,w2,r1,r2,?_,hB2⟩
 have hc:c=protoN p:=by
  have i0:IsMap (.map []:DataW Unit):=isMap_empty
  unfold protoN
  by_cases e1:p=pH10
  ·subst e1
   rw[if_pos rfl]
   rw[atKey_put_other (by simp[pH10,pH11]),atKey_put_same i0 (lawS.key (hk _ (by decide)))] at hat
   exact (Lit.int.inj (DataW.lit.inj hat)).2.symm
  ·rw[if_neg e1]
   by_cases e2:p=pH11
   ·subst e2
    rw[if_pos rfl]
    rw[atKey_put_same (i0.put _ _) (lawS.key (hk _ (by decide)))] at hat
    exact (Lit.int.inj (DataW.lit.inj hat)).2.symm
   ·rw[if_neg e2]
    rw[atKey_put_other (by simpa using e2),atKey_put_other (by simpa using e1)] at hat
    have:(DataW.map []:DataW Unit).atKey (.string p) (.lit (.int .i64 0))=.lit (.int .i64 0):=rfl
    rw[this] at hat
    exact (Lit.int.inj (DataW.lit.inj hat)).2.symm
 rw[←hc];exact r3
theorem results_tmp4 {fn:Func} {t u v x:Tmp} (h:fn.results=#[.tmp t,.tmp u,.tmp v,.tmp x]) (tmps:Array Value) (P:Program) (w:World) :
  (results fn tmps).run P w=.ok (.tuple #[tmps.getD t undef,tmps.getD u undef,tmps.getD v undef,tmps.getD x undef]) w:=by
 simp[results,h]
def lnV (r:List UInt8×List UInt8×Nat×Bool):Value:=.tuple #[.string ⟨r.1.toArray⟩,.string ⟨r.2.1.toArray⟩,.int .i64 r.2.2.1,.bool r.2.2.2]
theorem line_any (l:List UInt8) (w:World) (hG:G w) (hl:l.length≤1000000) :
  Calls prog 160 #[.string ⟨l.toArray⟩] w λe w'=>e=.returned (lnV (lineB l))∧Gr w w':=by
 have a1:(Lib.cut l [32]).1.length≤l.length:=cut_le1 l [32]
 have a2:(Lib.cut l [32]).2.1.length≤l.length:=cut_le2 l [32]
 have hcut1:=cut_any l [32] w hG (by omega)
 obtain⟨⟨m,r,d⟩,hc⟩:∃ c,Lib.cut l [32]=c:=⟨_,rfl⟩
 rw[hc] at a1 a2 hcut1
 dsimp only at a1 a2 hcut1
 have b1:(Lib.cut r [32]).1.length≤r.length:=cut_le1 r [32]
 have b2:(Lib.cut r [32]).2.1.length≤r.length:=cut_le2 r [32]
 have hcut2:=λW (h:Gr w W)=>cut_any r [32] W (hG.gr h) (by omega)
 obtain⟨⟨t,p,d2⟩,hc2⟩:∃ c,Lib.cut r [32]=c:=⟨_,rfl⟩
 rw[hc2] at b1 b2
 rw[hc2] at hcut2
 dsimp only at b1 b2 hcut2
 have hT:=hid (lineB_eq hc hc2)
 have hcut1':=hid hcut1
 have hcut2':=hid hcut2
 clear hc hc2 hcut1 hcut2
 go_enter func160,ntmps160
 go_wp2_with fail
 refine hcut1'.out.mono ?_
 rintro e w1⟨rfl,hg1⟩
 have hg1':=hid hg1
 clear hg1
 go_wp2_with fail
 refine (hcut2'.out _ hg1'.out).mono ?_
 rintro e w2⟨rfl,hg2⟩
 have hg2':=hid (hg1'.out.trans hg2)
 clear hg2
 go_wp2
 go_loop [2,3,10,25] (λs2 s3 _ i=>∃ k:Nat,k≤t.length∧s2=.string ⟨m.toArray⟩∧s3=.string ⟨t.toArray⟩∧i=.int .i64 k∧(t.take k).all isVis=true) (λ_ _ _ i=>t.length - (intOf i).toNat)
 case atStart=>exact⟨0,Nat.zero_le _,rfl,rfl,rfl,rfl⟩
 case round =>
  obtain⟨k,hk,rfl,rfl,rfl,hall⟩:=hrel
  have hall':=hid hall
  clear hall
  by_cases hlt:k<t.length
  ·obtain⟨c,hcd⟩:∃ c,(⟨t.toArray⟩:ByteArray)[k]'(by rw[size_mk];exact hlt)=c:=⟨_,rfl⟩
   have hc2:=hid (show t[k]=c from hcd)
   cases hv:isVis c
   ·have hT':=hid (show lineB l=([],[],0,false) by rw[hT.out,all_false hlt (by rw[hc2.out];exact hv)];rfl)
    rw[vis_eq,decide_eq_false_iff_not] at hv
    have hr:(c.toNat:Int)<33∨(33≤(c.toNat:Int)∧126<(c.toNat:Int)):=by omega
    clear hv
    rcases hr with h1 | ⟨h1,h2⟩
    all_goals
     go_wp2
     (try simp only[Exit.inBlock,Exit.then])
     refine bodyPost_ret (results_tmp4 rfl _ _ _) rfl ⟨by rw[hT'.out];rfl,hg2'.out⟩
   ·have hv':=hid hv
    rw[vis_eq,decide_eq_true_eq] at hv
    obtain⟨h1,h2⟩:=hv
    have hnext:=hid (all_take_succ hall'.out hlt (by rw[hc2.out];exact hv'.out))
    go_wp2
    go_round
    case rel=>exact⟨k+1,by omega,rfl,rfl,by go_num,hnext.out⟩
    case measure=>simp[intOf];omega
  ·have hvis:=hid (show t.all isVis=true by have:=hall'.out;rwa [List.take_of_length_le (by omega)] at this)
   clear hall'
   obtain⟨w3,w4,r1,r2,r3,hg4⟩:=proto_map w2 p (by omega)
   have hg4':=hid (hg2'.out.trans hg4)
   obtain⟨n,hn⟩:∃ n,protoN p=n:=⟨_,rfl⟩
   rw[hn] at r3
   have hn':=hid hn
   have hT2:=hid (show lineB l=if tokB m&&(!t.isEmpty&&n != 0) then (m,t,n,true) else ([],[],0,false) by rw[hT.out,hvis.out,hn];rfl)
   have hmm:=@run_makeMap prog
   clear hg4 hn
   cases hm:tokB m
   ·have hT3:=hid (show lineB l=([],[],0,false) by rw[hT2.out,hm];rfl)
    have htok:=hid (λw=>token_is m _ hm w (by omega))
    clear hm
    go_wp2_with fail
    refine (htok.out _).mono ?_
    rintro e w5⟨rfl,rfl⟩
    go_wp2
    (try simp only[Exit.inBlock,Exit.then])
    refine bodyPost_ret (results_tmp4 rfl _ _ _) rfl ⟨by rw[hT3.out];rfl,hg4'.out⟩
   ·have htok:=hid (λw=>token_is m _ hm w (by omega))
    have hm':=hid hm
    clear hm
    cases ht:t.isEmpty
    ·cases hnz:(n != 0)
     ·have hT3:=hid (show lineB l=([],[],0,false) by rw[hT2.out,hm'.out,ht,hnz];rfl)
      obtain rfl:n=0:=by simpa using hnz
      clear hnz
      have ht':(!t.isEmpty)=true:=by rw[ht];rfl
      go_wp2_with fail
      refine (htok.out _).mono ?_
      rintro e w5⟨rfl,rfl⟩
      go_wp2
      (try simp only[Exit.inBlock,Exit.then])
      refine bodyPost_ret (results_tmp4 rfl _ _ _) rfl ⟨by rw[hT3.out];rfl,hg4'.out⟩
     ·have hT3:=hid (show lineB l=(m,t,n,true) by rw[hT2.out,hm'.out,ht,hnz];rfl)
      have hnz2:((n:Int)==0)=false:=by
       have:n≠0:=by simpa using hnz
       exact beq_eq_false_iff_ne.2 (by omega)
      clear hnz
      have ht':(!t.isEmpty)=true:=by rw[ht];rfl
      go_wp2_with fail
      refine (htok.out _).mono ?_
      rintro e w5⟨rfl,rfl⟩
      go_wp2
      (try simp only[Exit.inBlock,Exit.then])
      refine bodyPost_ret (results_tmp4 rfl _ _ _) rfl ⟨by rw[hT3.out];rfl,hg4'.out⟩
    ·have hT3:=hid (show lineB l=([],[],0,false) by rw[hT2.out,hm'.out,ht];rfl)
     have ht':(!t.isEmpty)=false:=by rw[ht];rfl
     go_wp2_with fail
     refine (htok.out _).mono ?_
     rintro e w5⟨rfl,rfl⟩
     go_wp2
     (try simp only[Exit.inBlock,Exit.then])
     refine bodyPost_ret (results_tmp4 rfl _ _ _) rfl ⟨by rw[hT3.out];rfl,hg4'.out⟩
end Go.Proofs.YtadobobfjnmdlaaGreatDoor
namespace Go.Proofs.YtadobobfjnmdlaaGreatDoor
open Go.RowKit
theorem gr_grow (w:World) (k:Nat) (os:Array Obj):Gr w (Sort.grow (w.drewN k) os):=by
 have h:=below_drewNm w k
 refine⟨h.os,h.tape,h.output,?_,λi hi=>?_⟩
 ·have:=h.size;(first | (simp[Sort.grow];done) | (simp[Sort.grow];omega))
 ·have h2:=h.block i hi
  rw[←h2]
  exact Array.getElem?_append_left (Nat.lt_of_lt_of_le hi h.size)
theorem itoa_any (n:Int) (h0:-9223372036854775808≤n) (h1:n≤9223372036854775807) (w:World) (hG:G w) :
  Calls prog 116 #[.int .i64 n] w λe w'=>e=.returned (.string ⟨(Lib.itoa n).toArray⟩)∧Gr w w' :=
 (Tryz.strconv_Itoa n h0 h1 w hG.pow).mono λ_ _ ⟨he,k,os,hw⟩=>⟨he,hw▸gr_grow w k os⟩
theorem itoa_later {w:World} (n:Int) (h0:-9223372036854775808≤n) (h1:n≤9223372036854775807) (s:List UInt8) (hs:Lib.itoa n=s) (hG:G w) (x:Later (Gr w)) :
  Calls prog 116 #[.int .i64 n] x.w λe w''=>e=.returned (.string ⟨s.toArray⟩)∧∃ y:Later (Gr w),w''=y.w :=
 Calls.later ((itoa_any n h0 h1 x.w (hG.gr x.ok)).mono λ_ _ ⟨he,hw⟩=>⟨hs▸he,x.ok.trans hw⟩)
theorem line_is (l m t:List UInt8) (v:Nat) (b:Bool) (h:lineB l=(m,t,v,b)) (w:World) (hG:G w) (hl:l.length≤1000000) :
  Calls prog 160 #[.string ⟨l.toArray⟩] w λe w'=>e=.returned (.tuple #[.string ⟨m.toArray⟩,.string ⟨t.toArray⟩,.int .i64 v,.bool b])∧Gr w w':=by
 have:=line_any l w hG hl;rw[h] at this;exact this
theorem target_is (l p q:List UInt8) (b:Bool) (h:targetB l=(p,q,b)) (w:World) (hG:G w) (hl:l.length≤1000000) :
  Calls prog 161 #[.string ⟨l.toArray⟩] w λe w'=>e=.returned (.tuple #[.string ⟨p.toArray⟩,.string ⟨q.toArray⟩,.bool b])∧Gr w w':=by
 have:=target_any l w hG hl;rw[h] at this;exact this
attribute [local go_sem] Oper.semAt_some
theorem fieldsL_none {ls:List (List UInt8)} {k:Nat} (hk:k<ls.length) (h:(parseB ls[k]).2.2=false):fieldsL ls=none:=by
 induction ls generalizing k with
 | nil=>simp at hk
 | cons l t ih =>
  unfold fieldsL
  cases k with
  | zero =>
   rw[show (l :: t)[0]=l from rfl] at h
   rw[h];rfl
  | succ k =>
   rw[ih (k:=k) (by simpa using hk) h]
   split <;> rfl
theorem fieldsL_snoc {ls:List (List UInt8)} {fs:List Fl} {l n v:List UInt8} (h:fieldsL ls=some fs) (hp:parseB l=(n,v,true)):fieldsL (ls++[l])=some (fs++[(n,v)]):=by
 induction ls generalizing fs with
 | nil =>
  cases h
  simp[fieldsL,hp]
 | cons x t ih =>
  unfold fieldsL at h
  rw[List.cons_append]
  unfold fieldsL
  split at h
  ·rename_i hx
   cases e:fieldsL t with
   | none=>rw[e] at h;cases h
   | some gs =>
    rw[e] at h
    cases h
    rw[if_pos hx,ih e]
    rfl
  ·cases h
def FldPost (ls:List (List UInt8)) (w:World) (e:Ending) (w':World):Prop :=
 ∃ v b,e=.returned (.tuple #[v,.bool b])∧Gr w w'∧((fieldsL ls=none∧v=.slice none 0 0∧b=false)∨∃ fs,fieldsL ls=some fs∧fs.length=ls.length∧b=true∧OwnF w.heap.size w' v fs)
def FldRel (w:World) (ls:List (List UInt8)) (v i:Value) (W:World):Prop :=
 ∃ (k:Nat) (fs:List Fl) (p:Option Addr) (cap:Nat),k≤ls.length∧i=.int .i64 k∧v=.slice p fs.length cap∧fs.length=k∧fieldsL (ls.take k)=some fs∧OwnF w.heap.size W (.slice p fs.length cap) fs∧Gr w W
theorem qfields_any (ls:List (List UInt8)) (t:Value) (w:World) (hG:G w) (hf:TextsAt w t ls) (hn:ls.length≤100000) (hs:∀ l∈ls,l.length≤900000) :
  Calls prog 130 #[t] w (FldPost ls w):=by
 have hG':=hid hG
 obtain⟨p,cap,rfl,_,hc⟩:=hf
 have hc':=hid hc
 have hs':=hid hs
 clear hc hs hG
 go_enter func130,ntmps130
 go_wp2
 go_loopw [4,11] (λv i W=>FldRel w ls v i W) (λ_ i _=>ls.length - (intOf i).toNat)
 case atStart=>exact⟨0,[],none,0,Nat.zero_le _,rfl,rfl,rfl,rfl,World.ownsRow_nil _ _ _ _,Gr.refl _⟩
 case round =>
  obtain⟨k,fs,pv,cv,hk,rfl,rfl,hfl,hfs,ho,hg⟩:=hrel
  have hfs':=hid hfs
  have ho':=hid ho
  have hflb:fs.length≤100000:=by omega
  have hfl':=hid hfl
  clear hfl
  have hg':=hid hg
  by_cases hlt:k<ls.length
  ·obtain⟨b,off,rfl,h1⟩:=hc'.out k hlt
   have d1:=hg.cell h1
   have hsl9:=hs'.out _ (List.getElem_mem hlt)
   have hnone:=hid (λh=>@fieldsL_none ls k hlt h)
   have htk:ls.take (k+1)=ls.take k++[ls[k]]:=List.take_succ_eq_append_getElem hlt
   obtain⟨l,hl⟩:∃ x,ls[k]=x:=⟨_,rfl⟩
   rw[hl] at d1 hsl9 hnone htk
   have hkI:(k:Int)<ls.length:=by omega
   have hpl:l.length<4294967281:=by omega
   have hpc:=hid (λW hGW=>parse_any l W hGW hpl)
   obtain⟨⟨n1,v1,okp⟩,hP⟩:∃ x,parseB l=x:=⟨_,rfl⟩
   rw[hP] at hpc hnone
   have hP':=hid hP
   have htk':=hid htk
   clear hP htk hl h1 hfs hpl ho hg
   go_wp2_with fail
   refine (hpc.out _ (hG'.out.gr hg'.out)).mono ?_
   rintro e w3⟨rfl,hb3⟩
   unfold pVal
   dsimp only
   have y0:(w3.alloc (.cells #[.string ⟨n1.toArray⟩,.string ⟨v1.toArray⟩] 80)).cell? ⟨w3.heap.size,0,none⟩=some (.string ⟨n1.toArray⟩):=cell_new7 w3 [.string ⟨n1.toArray⟩,.string ⟨v1.toArray⟩] _ 0 _ rfl
   have y1:(w3.alloc (.cells #[.string ⟨n1.toArray⟩,.string ⟨v1.toArray⟩] 80)).cell? ⟨w3.heap.size,1,none⟩=some (.string ⟨v1.toArray⟩):=cell_new7 w3 [.string ⟨n1.toArray⟩,.string ⟨v1.toArray⟩] _ 1 _ rfl
   have gx:=hb3.trans (Gr.alloc w3 (.cells #[.string ⟨n1.toArray⟩,.string ⟨v1.toArray⟩] 80))
   clear d1
   cases okp with
   | false =>
    have hno:=hid (hnone.out rfl)
    have g9:=hid (hg'.out.trans gx)
    clear gx hb3
    go_wp2
    go_ret2
    exact⟨_,false,rfl,g9.out,.inl ⟨hno.out,rfl,rfl⟩⟩
   | true =>
    go_upto_region 8 with (fail)
    generalize w3.alloc (.cells #[.string ⟨n1.toArray⟩,.string ⟨v1.toArray⟩] 80)=w4 at y0 y1 gx ⊢
    have ho4:=(ho'.out.ch (gx.to_ch (λ_=>False)) (λ_ h=>h.elim))
    have g4:=hid (hg'.out.trans gx)
    have ho4':=hid ho4
    have hA:∀ O,(w4.alloc O).ownsRow w.heap.size 80 2 (.slice pv fs.length cv) fs.length (fcells fs):=λO=>World.ownsRow.alloc ho4 O
    obtain⟨i0,hi,hz0,hz1,hzb⟩:=info_parts infoField
    have hbz:=Below.size g4.out
    clear gx hb3 ho4
    go_wp2_with (at_builtin;refine wpList_append_own _ rfl _ _ 49 rfl w.heap.size 80 i0 (.agg #[.string ⟨#[]⟩,.string ⟨#[]⟩]) 2 32 underlying49 hi hz0 hz1 hzb rfl (by decide) _ _ _ rfl (hA _) ⟨w4.heap.size,0,none⟩ 1 1 [.string ⟨n1.toArray⟩,.string ⟨v1.toArray⟩] rfl rfl ?qc2 ?qc3 ?qc4 ?qc5 ?qc6 ?_)
    case qc2=>exact cells_two _ _ _ _
    case qc3=>simp[Value.oneCell']
    case qc4=>unfold maxLen;omega
    case qc5=>omega
    case qc6=>simp;omega
    intro v' w9 hown3 hgrow _
    have hown4:OwnF w.heap.size w9 v' (fs++[(n1,v1)]):=by
     unfold OwnF;rw[fcells_app,List.length_append];exact hown3
    obtain⟨p9,c9,rfl,_⟩:=hown4.at
    have hlen9:(fs++[(n1,v1)]).length=fs.length+1:=by simp
    have hrel9:=hid (show FldRel w ls (.slice p9 (fs++[(n1,v1)]).length c9) (.int .i64 ((k:Int)+1)) w9 from
     ⟨k+1,fs++[(n1,v1)],p9,c9,hlt,rfl,rfl,by rw[hlen9,hfl'.out],by rw[htk'.out];exact fieldsL_snoc hfs'.out hP'.out,hown4,(g4.out.alloc1 _).ch (Ch.of_grown hgrow) (λk e=>(World.ownsRow.lt ho4'.out k e).1)⟩)
    rw[hlen9] at hrel9 ⊢
    clear hown3 hgrow hA hi hz0 hz1 hzb hown4 hlen9
    go_wp2
    go_roundw
    case rel=>exact hrel9.out
    case measure=>simp[intOf];omega
  ·have hkl:k=ls.length:=by omega
   have hkI:¬(k:Int)<ls.length:=by omega
   have hfin:=hid (show fieldsL ls=some fs by have:=hfs'.out;rwa [hkl,List.take_length] at this)
   have hfl2:=hid (hfl'.out.trans hkl)
   clear hfs hg ho
   go_wp2
   go_ret2
   exact⟨_,true,rfl,hg'.out,.inr ⟨fs,hfin.out,hfl2.out,rfl,ho'.out⟩⟩
open Go.Shelf
def strAt (w:World) (a:Addr):Nat:=match w.cell? a with | some (.string s)=>s.size | _=>0
theorem split_iter (s:List UInt8) (W0:World) (b1 b2 b3:Nat) (h1:W0.cell? ⟨b1,0,none⟩=some (.string ⟨#[44]⟩)) (h2:W0.cell? ⟨b2,0,none⟩=some (.string ⟨s.toArray⟩)) (f2:W0.frozen? ⟨b2,0,none⟩=false)
  (h3:W0.cell? ⟨b3,0,none⟩=some (.int .i64 0)) (hs:s.length≤4611686018427387904) (h12:b1≠b2) (h32:b3≠b2) :
  IterC prog 265 #[.pointer (some ⟨b1,0,none⟩),.pointer (some ⟨b2,0,none⟩),.pointer (some ⟨b3,0,none⟩)] (λx:List UInt8=>#[.string ⟨x.toArray⟩]) (splitB 44 s)
   (λk=>k=b1∨k=b2∨k=b3) 0 (λ_=>True) W0:=by
 intro W l J Jx U hsz hT hU hJ hJx _ hY h0
 have g1:W.cell? ⟨b1,0,none⟩=some (.string ⟨#[44]⟩):=(World.cell?_of_block (hT b1 (.inl rfl))).trans h1
 have g2:W.cell? ⟨b2,0,none⟩=some (.string ⟨s.toArray⟩):=(World.cell?_of_block (hT b2 (.inr (.inl rfl)))).trans h2
 have k2:W.frozen? ⟨b2,0,none⟩=false:=(World.frozen?_of_block (hT b2 (.inr (.inl rfl)))).trans f2
 have g3:W.cell? ⟨b3,0,none⟩=some (.int .i64 0):=(World.cell?_of_block (hT b3 (.inr (.inr rfl)))).trans h3
 clear h1 h2 f2 h3 hT
 have hJ':=hid hJ
 have hJx':=hid hJx
 have hY':=hid hY
 have hU':=hid hU
 have h0':=hid h0
 clear hJ hJx hY hU h0
 have hfn:∀ f,Fence.wide.fn f:=λ_=>trivial
 have hdp:Fence.wide.depth=none:=rfl
 refine callsIn_of_wp func265 rfl trivial ?_ rfl
 simp only[ntmps265,List.size_toArray,List.length_cons,List.length_nil,Nat.reduceAdd,Nat.reduceSub,Array.replicate_succ,Array.replicate_zero,List.push_toArray,List.append_toArray,List.nil_append,List.cons_append]
 gi_wp2
 gi_loopw [7,8] (λ_ _ wr=>∃ (pre:List (List UInt8)) (t:List UInt8),splitB 44 s=pre++splitB 44 t∧t.length≤s.length∧W.heap.size≤wr.heap.size∧J pre wr∧wr.cell? ⟨b1,0,none⟩=some (.string ⟨#[44]⟩)∧wr.cell? ⟨b2,0,none⟩=some (.string ⟨t.toArray⟩)∧wr.frozen? ⟨b2,0,none⟩=false∧wr.cell? ⟨b3,0,none⟩=some (.int .i64 0))
  (λ_ _ wr=>strAt wr ⟨b2,0,none⟩)
 case atStart=>exact⟨[],s,rfl,Nat.le_refl _,Nat.le_refl _,h0'.out,g1,g2,k2,g3⟩
 case round =>
  clear g1 g2 k2 g3
  obtain⟨pre,t,hpre,htl,hwz,hj,g1,g2,k2,g3⟩:=hrel
  have hwz':=hid hwz
  clear hwz
  have hpre':=hid hpre
  have hj':=hid hj
  have hm:strAt wr ⟨b2,0,none⟩=t.length:=by unfold strAt;rw[g2];exact size_mk t
  have hm':=hid hm
  clear hpre hj hm
  rcases indexByte_spec t 44 with⟨hi,hno⟩ | ⟨k,hi,hk,hat,hbe⟩
  ·-- the last piece
   have hsp:=splitB_none 44 t hno
   obtain⟨fn,tmps,assign,body,hy,hR⟩:=hY'.out pre t [] wr (by rw[hpre'.out,hsp]) hwz'.out hj'.out
   have hi':=hid hi
   have hsp':=hid hsp
   clear hi hsp hno
   gi_wp2_with (gi_at_call 105;refine (callsIn_wide.2 (Tryz.strings_Index_one ⟨t.toArray⟩ 44 _)).mono ?_;rintro e w' ⟨rfl,rfl⟩;rw[hi'.out])
   refine hR.mono ?_
   rintro e A (⟨rfl,hj2,hc2⟩ | ⟨rfl,hj2,hc2⟩)
   ·gi_wp2
    go_end0
    exact⟨rfl,.inl (by rw[hpre'.out,hsp'.out];exact hj2)⟩
   ·gi_wp2
    go_end0
    exact⟨rfl,.inr ⟨pre++[t],⟨[],by rw[hpre'.out,hsp'.out,List.append_nil]⟩,hj2⟩⟩
  ·-- one more piece
   have hsp:=splitB_at 44 t k hk hat hbe
   obtain⟨x,hx⟩:∃ x,t.take k=x:=⟨_,rfl⟩
   obtain⟨y,hyd⟩:∃ y,t.drop (k+1)=y:=⟨_,rfl⟩
   rw[hx,hyd] at hsp
   have hyl:y.length<t.length:=by rw[←hyd];simp;omega
   have hx1:(⟨t.toArray⟩:ByteArray).extract 0 k=⟨x.toArray⟩:=by rw[extract_mk,←hx];simp
   have hx2:(⟨t.toArray⟩:ByteArray).extract (k+1) t.length=⟨y.toArray⟩:=by rw[extract_mk,←hyd];simp
   obtain⟨fn,tmps,assign,body,hy,hR⟩:=hY'.out pre x (splitB 44 y) wr (by rw[hpre'.out,hsp]) hwz'.out hj'.out
   have hi':=hid hi
   have hsp':=hid hsp
   clear hi hsp hbe hat hx hyd
   gi_wp2_with (gi_at_call 105;refine (callsIn_wide.2 (Tryz.strings_Index_one ⟨t.toArray⟩ 44 _)).mono ?_;rintro e w' ⟨rfl,rfl⟩;rw[hi'.out])
   refine hR.mono ?_
   rintro e A (⟨rfl,hj2,hc2⟩ | ⟨rfl,hj2,hc2⟩)
   ·have e1:A.cell? ⟨b1,0,none⟩=some (.string ⟨#[44]⟩):=(hc2.cell (cell_lt g1) (λe=>(hU'.out _ e).2 (.inl rfl))).trans g1
    have e2:A.cell? ⟨b2,0,none⟩=some (.string ⟨t.toArray⟩):=(hc2.cell (cell_lt g2) (λe=>(hU'.out _ e).2 (.inr (.inl rfl)))).trans g2
    have e3:A.cell? ⟨b3,0,none⟩=some (.int .i64 0):=(hc2.cell (cell_lt g3) (λe=>(hU'.out _ e).2 (.inr (.inr rfl)))).trans g3
    have j2:A.frozen? ⟨b2,0,none⟩=false:=(hc2.frozen (cell_lt g2) (λe=>(hU'.out _ e).2 (.inr (.inl rfl)))).trans k2
    clear g1 g2 g3 k2
    gi_wp2
    go_roundw
    case rel =>
     exact⟨pre++[x],y,by rw[hpre'.out,hsp'.out,List.append_assoc];rfl,by omega,by simpa using Nat.le_trans hwz'.out hc2.size,hJ'.out _ _ _ hj2 (Ch.setCell _ (.inl (.inr (.inl rfl))) _),cell_set_other e1 (λe=>h12 e.symm),cell_set_same e2,by rw[frozen_set];exact j2,cell_set_other e3 (λe=>h32 e.symm)⟩
    case measure =>
     rw[hm'.out]
     unfold strAt
     rw[cell_set_same e2]
     simpa only[size_mk] using hyl
   ·gi_wp2
    refine bodyPost_ret (results_none rfl _ _ _) rfl ?_
    exact⟨rfl,.inr ⟨pre++[x],⟨splitB 44 y,by rw[hpre'.out,hsp'.out,List.append_assoc];rfl⟩,hj2⟩⟩
theorem RoundIn.inRd {F:Fence} {n:Nat} {P:Program} {l:Nat} {f:FuncId} {tmps:Array Value} {assign body:Code} {w:World} {R:Ending→World→Prop} (l':Nat) (h:RoundIn F n P l f tmps assign body w R):RoundIn (F.inRound l') n P l f tmps assign body w R:=h
def splitW (w:World) (l:List UInt8):World:=((w.alloc (.cells #[.string ⟨l.toArray⟩] 9)).alloc (.cells #[.string ⟨#[44]⟩] 9)).alloc (.cells #[.int .i64 0] 3)
def splitV (w:World):Value:=.func (.func 265) #[] #[.pointer (some ⟨w.heap.size+1,0,none⟩),.pointer (some ⟨w.heap.size,0,none⟩),.pointer (some ⟨w.heap.size+2,0,none⟩)]
theorem splitseq1_any (l:List UInt8) (w:World) :
  Calls prog 242 #[.string ⟨l.toArray⟩,.string ⟨#[44]⟩,.int .i64 0] w λe w'=>e=.returned (splitV w)∧splitW w l=w':=by
 go_enter func242,ntmps242
 go_wp2
 go_ret
 exact⟨rfl,rfl⟩
theorem splitseq_any (l:List UInt8) (w:World) :
  Calls prog 208 #[.string ⟨l.toArray⟩,.string ⟨#[44]⟩] w λe w'=>e=.returned (splitV w)∧splitW w l=w':=by
 go_enter func208,ntmps208
 go_wp2_with (go_at_call 242;refine (splitseq1_any l _).mono ?_;rintro e w' ⟨rfl,rfl⟩)
 go_ret
 exact⟨rfl,rfl⟩
def eachV (b:Nat):Value:=.func (.func 207) #[] #[.pointer (some ⟨b,0,none⟩)]
theorem each_any (l:List UInt8) (w:World) :
  Calls prog 166 #[.string ⟨l.toArray⟩] w λe w'=>e=.returned (eachV w.heap.size)∧w.alloc (.cells #[.string ⟨l.toArray⟩] 9)=w':=by
 go_enter func166,ntmps166
 go_wp2
 go_ret
 exact⟨rfl,rfl⟩
theorem split_iter_w (s:List UInt8) (w:World) (hs:s.length≤4611686018427387904) :
  IterC prog 265 #[.pointer (some ⟨w.heap.size+1,0,none⟩),.pointer (some ⟨w.heap.size,0,none⟩),.pointer (some ⟨w.heap.size+2,0,none⟩)] (λx:List UInt8=>#[.string ⟨x.toArray⟩]) (splitB 44 s)
   (λk=>k=w.heap.size+1∨k=w.heap.size∨k=w.heap.size+2) 0 (λ_=>True) (splitW w s) :=
 split_iter s _ _ _ _ (by simp[splitW,go_sem]) (by simp[splitW,go_sem]) (by simp[splitW,go_sem]) (by simp[splitW,go_sem]) hs (by omega) (by omega)
theorem partsB_at {l:List UInt8} {pre rest:List (List UInt8)} {x:List UInt8} (h:splitB 44 l=pre++x :: rest) (hx:trimB x≠[]):partsB l=partsOf pre++trimB x :: partsOf rest:=by
 unfold partsB partsOf;rw[h];simp[hx]
theorem each_iter (s:List UInt8) (W0:World) (bv:Nat) (hv:W0.cell? ⟨bv,0,none⟩=some (.string ⟨s.toArray⟩)) (hs:s.length≤4611686018427387904) :
  IterC prog 207 #[.pointer (some ⟨bv,0,none⟩)] (λx:List UInt8=>#[.string ⟨x.toArray⟩]) (partsB s) (λk=>k=bv) 6 (λ_=>True) W0:=by
 intro W l J Jx U hsz hT hU hJ hJx _ hY h0
 have gv:W.cell? ⟨bv,0,none⟩=some (.string ⟨s.toArray⟩):=(World.cell?_of_block (hT bv rfl)).trans hv
 have hbv:bv<W.heap.size:=cell_lt gv
 have gva:∀ o,(W.alloc o).cell? ⟨bv,0,none⟩=some (.string ⟨s.toArray⟩):=λo=>(Gr.alloc W o).cell gv
 have hJ':=hid hJ
 have hJx':=hid hJx
 have hY':=hid hY
 have hU':=hid hU
 have h0':=hid h0
 clear hJ hJx hY hU h0 hv hT
 have hfn:∀ f,Fence.wide.fn f:=λ_=>trivial
 have hdp:Fence.wide.depth=none:=rfl
 refine callsIn_of_wp_marks func207 rfl trivial ?_ rfl
 simp only[ntmps207,List.size_toArray,List.length_cons,List.length_nil,Nat.reduceAdd,Nat.reduceSub,Array.replicate_succ,Array.replicate_zero,List.push_toArray,List.append_toArray,List.nil_append,List.cons_append]
 gi_wp2_with (gi_at_call 208;refine (callsIn_wide.2 (splitseq_any s _)).mono ?_;rintro e w' ⟨rfl,rfl⟩)
 obtain⟨Wb,hWb⟩:∃ Wb,W.alloc (.cells #[.func (.yield l) #[] #[]] 166)=Wb:=⟨_,rfl⟩
 rw[hWb]
 have hsb:Wb.heap.size=W.heap.size+1:=by rw[←hWb];simp
 have hsw:(splitW Wb s).heap.size=W.heap.size+4:=by simp[splitW,hsb]
 have hby:(splitW Wb s).cell? ⟨W.heap.size,0,none⟩=some (.func (.yield l) #[] #[]):=by
  rw[←hWb];simp[splitW,go_sem]
 have hch:∀ T,Ch T W (splitW Wb s):=λT=>by
  rw[←hWb];exact (((Ch.alloc _ _ _).trans (Ch.alloc _ _ _)).trans (Ch.alloc _ _ _)).trans (Ch.alloc _ _ _)
 have hsw':=hid hsw
 have hsb':=hid hsb
 clear hWb hsw hsb gva
 refine wpIn_range (gf:=265) rfl (enters_of func265 (by kernel_rfl) rfl) (split_iter_w s Wb hs) (Nat.le_refl _) (λk hk=>⟨by rw[hsw'.out];have:=hsb'.out;omega,rfl⟩) (λ_=>rfl)
  (λpre A=>J (partsOf pre) A∧A.cell? ⟨W.heap.size,0,none⟩=some (.func (.yield l) #[] #[])) (λc _ A=>c=.ret∧∃ q,q <+: partsB s∧Jx q A) U
  (λk hk=>⟨by rw[hsw'.out];have:=(hU'.out k hk).1;omega,by have:=(hU'.out k hk).1;have:=hsb'.out;omega⟩) ?hI ?hIx (λ_ _ _=>trivial) ⟨hJ'.out _ _ _ h0'.out (hch _),hby⟩ ?round ?done ?stop
 case hI =>
  rintro pre A B⟨hj,hc⟩ hch
  have hs1:=hsw'.out
  have hs2:=hsb'.out
  refine⟨hJ'.out _ _ _ hj (hch.mono (λk hk=>.inr (by omega))),(hch.cell (cell_lt hc) (λhk=>?_)).trans hc⟩
  dsimp only at hk
  omega
 case hIx =>
  rintro c pre A B⟨rfl,q,hq,hj⟩ hch
  have hs1:=hsw'.out
  have hs2:=hsb'.out
  exact⟨rfl,q,hq,hJx'.out _ _ _ hj (hch.mono (λk hk=>.inr (by omega)))⟩
 case round =>
  intro l' pre x rest A hl hlt hxs hI
  have hzA:=hid (show W.heap.size+6≤A.heap.size by have:=hsw'.out;omega)
  obtain⟨hj,hcy⟩:=hI
  have hj':=hid hj
  have hxs':=hid hxs
  have hxl:x.length≤9223372036854775807:=by
   have:=splitB_len 44 s x (by rw[hxs];simp)
   omega
  clear hj hxs
  have hlW:W.heap.size≠l':=by have:=hsw'.out;omega
  have hlW':=hid hlW
  have hWA:W.heap.size<A.heap.size:=cell_lt hcy
  gi_wp2
  refine⟨Ch.refl _ _,λA2 hA2=>?_⟩
  have hcy2:A2.cell? ⟨W.heap.size,0,none⟩=some (.func (.yield l) #[] #[]):=(hA2.cell hWA hlW'.out).trans hcy
  have hA2':=hid hA2
  clear hcy hA2 hlW
  obtain⟨y,hy⟩:∃ y,trimB x=y:=⟨_,rfl⟩
  have htr:=trim_any x
  rw[hy] at htr
  have htr':=hid htr
  have hy':=hid hy
  clear htr hy
  have hgr:∀ (T:Nat→Prop) B,Gr A2 B→Ch T A2 B:=λT B hB=>Ch.of_below (B:=A2.heap.size) hB (λk hk hk2=>absurd hk2 (Nat.not_lt.2 hk))
  have hll:W.heap.size≤l'∧l'<W.heap.size+6:=by have:=hsw'.out;omega
  have hJ2:∀ B,Gr A2 B→J (partsOf pre) B:=λB hB=>hJ'.out _ _ _ hj'.out ((hA2'.out.mono (λk hk=>.inr (by rw[hk];exact hll))).trans (hgr _ B hB))
  have hU2:∀ B,Gr A2 B→Ch U A2 B:=λB hB=>hgr U B hB
  clear hgr hll
  have hJ2':=hid hJ2
  have hU2':=hid hU2
  clear hJ2 hU2
  by_cases hye:y=[]
  ·have e1:y.isEmpty=true:=by simp[hye]
   have hye':=hid hye
   clear hye
   gi_wp2_with (gi_at_call 162;refine (CallsIn.inRound l' (callsIn_wide.2 (htr'.out _ hxl))).mono ?_;rintro e A3 ⟨rfl,hb⟩)
   exact⟨hU2'.out _ hb,by rw[partsOf_snoc_0 _ _ (hy'.out.trans hye'.out)];exact hJ2'.out _ hb,hb.cell hcy2⟩
  ·have e1:y.isEmpty=false:=by simp[hye]
   have hye':=hid hye
   clear hye
   gi_wp2_with (gi_at_call 162;refine (CallsIn.inRound l' (callsIn_wide.2 (htr'.out _ hxl))).mono ?_;rintro e A3 ⟨rfl,hb⟩;have hcy3:=hb.cell hcy2;obtain⟨fn,tmps,asg,bdy,hyl,hR⟩:=hY'.out (partsOf pre) y (partsOf rest) A3 (by rw[partsB_at hxs'.out (by rw[hy'.out];exact hye'.out),hy'.out]) (Nat.le_trans (Nat.le_trans hzA.out hA2'.out.size) (Below.size hb)) (hJ2'.out _ hb))
   refine (RoundIn.inRd l' hR).mono ?_
   rintro e B (⟨rfl,hj2,hc2⟩ | ⟨rfl,hj2,hc2⟩)
   ·gi_wp2
    exact⟨(hU2'.out _ hb).trans hc2,by rw[partsOf_snoc_s _ _ (by rw[hy'.out];exact hye'.out),hy'.out];exact hj2,(hc2.cell (cell_lt hcy3) (λe=>by have:=(hU'.out _ e).1;dsimp only at this;omega)).trans hcy3⟩
   ·gi_wp2
    exact⟨(hU2'.out _ hb).trans hc2,rfl,_,⟨partsOf rest,by rw[partsB_at hxs'.out (by rw[hy'.out];exact hye'.out),hy'.out];simp⟩,hj2⟩
 case done =>
  rintro D A hD⟨hj,hc⟩ hK
  gi_wp2
  refine⟨by simp,.inl ⟨_,_,rfl,run_takeDeferred hK,?_⟩⟩
  exact⟨_,results_none rfl _ _ _,rfl,.inl (hJ'.out _ _ _ hj (Ch.putObj _ (.inr (by have:=hsw'.out;omega)) _))⟩
 case stop =>
  rintro D c pre A hD hpre⟨rfl,q,hq,hj⟩ hK
  gi_wp2
  refine⟨by simp,.inl ⟨_,_,rfl,run_takeDeferred hK,?_⟩⟩
  exact⟨_,results_none rfl _ _ _,rfl,.inr ⟨q,hq,hJx'.out _ _ _ hj (Ch.putObj _ (.inr (by have:=hsw'.out;omega)) _)⟩⟩
theorem has_any (l word:List UInt8) (w:World) (hG:G w) (hl:l.length≤4611686018427387904) (hw:word.length≤9223372036854775807) :
  Calls prog 134 #[.string ⟨l.toArray⟩,.string ⟨word.toArray⟩] w λe w'=>e=.returned (.bool (hasB l word))∧Gr w w':=by
 refine (callsIn_wide (n:=0)).1 ?_
 have hfn:∀ f,Fence.wide.fn f:=λ_=>trivial
 have hdp:Fence.wide.depth=none:=rfl
 have hG':=hid hG
 clear hG
 refine callsIn_of_wp_marks func134 rfl trivial ?_ rfl
 simp only[ntmps134,List.size_toArray,List.length_cons,List.length_nil,Nat.reduceAdd,Nat.reduceSub,Array.replicate_succ,Array.replicate_zero,List.push_toArray,List.append_toArray,List.nil_append,List.cons_append]
 gi_wp2_with (gi_at_call 166;refine (callsIn_wide.2 (each_any l _)).mono ?_;rintro e w' ⟨rfl,rfl⟩)
 obtain⟨w3,hw3⟩:∃ w3,((w.alloc (.cells #[.string ⟨word.toArray⟩] 9)).alloc (.cells #[.bool false] 4)).alloc (.cells #[.string ⟨l.toArray⟩] 9)=w3:=⟨_,rfl⟩
 rw[hw3]
 have hs3:=hid (show w3.heap.size=w.heap.size+3 by rw[←hw3];simp)
 have c0:w3.cell? ⟨w.heap.size,0,none⟩=some (.string ⟨word.toArray⟩):=by rw[←hw3];simp[go_sem]
 have c1:w3.cell? ⟨w.heap.size+1,0,none⟩=some (.bool false):=by rw[←hw3];simp[go_sem]
 have k1:w3.frozen? ⟨w.heap.size+1,0,none⟩=false:=by rw[←hw3];simp[go_sem]
 have c2:w3.cell? ⟨w.heap.size+1+1,0,none⟩=some (.string ⟨l.toArray⟩):=by rw[←hw3];simp[go_sem]
 have hg3:Gr w w3:=by rw[←hw3];exact ((Gr.alloc w _).alloc1 _).alloc1 _
 clear hw3
 refine wpIn_range (gf:=207) rfl (enters_of func207 (by kernel_rfl) rfl) (each_iter l w3 _ c2 hl) (Nat.le_refl _) (λk hk=>⟨by rw[hs3.out];(try dsimp only at hk);omega,rfl⟩) (λ_=>rfl)
  (λpre A=>Gr w A∧w3.heap.size≤A.heap.size∧A.cell? ⟨w.heap.size,0,none⟩=some (.string ⟨word.toArray⟩)∧A.cell? ⟨w.heap.size+1,0,none⟩=some (.bool false)∧A.frozen? ⟨w.heap.size+1,0,none⟩=false∧pre.any (λp=>alikeB p word)=false)
  (λc pre A=>c=.ret∧Gr w A∧A.cell? ⟨w.heap.size+1,0,none⟩=some (.bool true)∧pre.any (λp=>alikeB p word)=true) (λk=>k=w.heap.size+1)
  (λk hk=>⟨by rw[hs3.out];(try dsimp only at hk);omega,by (try dsimp only at hk ⊢);omega⟩) ?hI ?hIx (λ_ _ _=>trivial) ⟨hg3,Nat.le_refl _,c0,c1,k1,rfl⟩ ?round ?done ?stop
 case hI =>
  rintro pre A B⟨h1,h2,h3,h4,h5,h6⟩ hch
  replace hch:=hch.mono (T':=λk=>k=w.heap.size+1+1∨w3.heap.size≤k) (λk hk=>hk.imp id And.left)
  have e:=hs3.out
  have hn:∀ k,k<w.heap.size+2→¬(k=w.heap.size+1+1∨w3.heap.size≤k):=λk hk h=>by omega
  exact⟨h1.ch hch (λk hk=>by omega),Nat.le_trans h2 hch.size,(hch.cell (cell_lt h3) (hn _ (by (try dsimp only);omega))).trans h3,(hch.cell (cell_lt h4) (hn _ (by (try dsimp only);omega))).trans h4,(hch.frozen (cell_lt h4) (hn _ (by (try dsimp only);omega))).trans h5,h6⟩
 case hIx =>
  rintro c pre A B⟨rfl,h1,h4,h6⟩ hch
  replace hch:=hch.mono (T':=λk=>k=w.heap.size+1+1∨w3.heap.size≤k) (λk hk=>hk.imp id And.left)
  have e:=hs3.out
  have hn:∀ k,k<w.heap.size+2→¬(k=w.heap.size+1+1∨w3.heap.size≤k):=λk hk h=>by omega
  exact⟨rfl,h1.ch hch (λk hk=>by omega),(hch.cell (cell_lt h4) (hn _ (by (try dsimp only);omega))).trans h4,h6⟩
 case round =>
  intro l' pre x rest A hl' hlt hxs hI
  obtain⟨h1,h2,h3,h4,h5,h6⟩:=hI
  have hxl:x.length≤9223372036854775807:=by
   have:=partsB_len l x (by rw[hxs];simp)
   omega
  have h6':=hid h6
  have e:=hs3.out
  have hne0:w.heap.size≠l':=by omega
  have hne1:w.heap.size+1≠l':=by omega
  have hne0':=hid hne0
  have hne1':=hid hne1
  have hll:w.heap.size≤l':=by omega
  have hz0:w.heap.size<A.heap.size:=by omega
  have hz1:w.heap.size+1<A.heap.size:=by omega
  clear h6 e hne0 hne1 hxs
  gi_wp2
  refine⟨Ch.refl _ _,λA2 hA2=>?_⟩
  have d0:A2.cell? ⟨w.heap.size,0,none⟩=some (.string ⟨word.toArray⟩):=(hA2.cell hz0 hne0'.out).trans h3
  have d1:A2.cell? ⟨w.heap.size+1,0,none⟩=some (.bool false):=(hA2.cell hz1 hne1'.out).trans h4
  have dk:A2.frozen? ⟨w.heap.size+1,0,none⟩=false:=(hA2.frozen hz1 hne1'.out).trans h5
  have hg2:Gr w A2:=h1.ch hA2 (λk hk=>by (try dsimp only at hk);omega)
  have hsz2:w3.heap.size≤A2.heap.size:=Nat.le_trans h2 hA2.size
  clear h3 h4 h5 h1 hA2
  cases ha:alikeB x word
  all_goals have ha':=hid ha
  all_goals clear ha
  all_goals gi_wp2_with (gi_at_call 133;refine (CallsIn.inRound l' (callsIn_wide.2 (alike_any x word _ (hG'.out.gr hg2) hxl hw))).mono ?_;rintro e A3 ⟨rfl,hb⟩;rw[ha'.out];have d0':=hb.cell d0;have d1':=hb.cell d1;have dk':=(Below.frozen hb (cell_lt d1)).trans dk)
  ·exact⟨hb.to_ch _,hg2.trans hb,Nat.le_trans hsz2 (Below.size hb),d0',d1',dk',by rw[List.any_append,h6'.out];simp[ha'.out]⟩
  ·exact⟨(hb.to_ch _).trans (Ch.setCell (T:=λk=>k=w.heap.size+1) _ rfl _),rfl,(hg2.trans hb).setCell (by (try dsimp only);omega) _,cell_set_same d1',by rw[List.any_append];simp[ha'.out]⟩
 case done =>
  rintro D A hD⟨h1,h2,h3,h4,h5,h6⟩ hK
  have hres:=hid (show hasB l word=false from h6)
  have hDn:D≠w.heap.size+1:=by have:=hs3.out;omega
  have hDn':=hid hDn
  clear h6 hDn
  gi_wp2
  have hK2:(A.setCell ⟨w.heap.size+1,0,none⟩ (.bool false)).heap[D]?=some (.deferred (some [])):=(Below.heap_setCell _ _ _ _ hDn'.out).trans hK
  have hc2:((A.setCell ⟨w.heap.size+1,0,none⟩ (.bool false)).putObj D (.deferred none)).cell? ⟨w.heap.size+1,0,none⟩=some (.bool false) :=
   (World.cell?_of_block (World.putObj_heap_other (Ne.symm hDn'.out))).trans (cell_set_same h4)
  refine⟨by simp,.inl ⟨_,_,rfl,run_takeDeferred hK2,?_⟩⟩
  refine⟨.bool false,by simp[results,results134,go_sem,hc2],by rw[hres.out],?_⟩
  exact (h1.setCell (by (try dsimp only);omega) _).ch (Ch.putObj (T:=λk=>k=D) _ rfl _) (λk hk=>by have:=hs3.out;omega)
 case stop =>
  rintro D c pre A hD hpre⟨rfl,h1,h4,h6⟩ hK
  have hres:=hid (show hasB l word=true from by
   obtain⟨r,hr⟩:=hpre
   unfold hasB;rw[←hr,List.any_append,h6];rfl)
  have hDn:D≠w.heap.size+1:=by have:=hs3.out;omega
  have hDn':=hid hDn
  clear h6 hDn
  gi_wp2
  have hc2:(A.putObj D (.deferred none)).cell? ⟨w.heap.size+1,0,none⟩=some (.bool true):=(World.cell?_of_block (World.putObj_heap_other (Ne.symm hDn'.out))).trans h4
  refine⟨by simp,.inl ⟨_,_,rfl,run_takeDeferred hK,?_⟩⟩
  refine⟨.bool true,by simp[results,results134,go_sem,hc2],by rw[hres.out],?_⟩
  exact h1.ch (Ch.putObj (T:=λk=>k=D) _ rfl _) (λk hk=>by have:=hs3.out;omega)
