/-
  Walks over package line: a target's text, a target, a request's line.
-/
import Derived.Test.YtadobobfjnmdlaaGreatDoorGd
import Derived.Test.YtadobobfjnmdlaaGreatDoorP7
import Derived.Maps.Own
import Derived.Maps.OwnOps
import Derived.Maps.Views
import Derived.Sort.Grow
import Derived.Lib.SmallJoins
import Derived.Test.YtadobobfjnmdlaaGreatDoorP0
import Derived.Test.YtadobobfjnmdlaaGreatDoorRw
set_option maxHeartbeats 16000000
set_option maxRecDepth 100000
open Go.Lib (hid)
namespace Go.Proofs.YtadobobfjnmdlaaGreatDoor
open Go.RowKit Go.Maps Go.ChangeMaps
def IdxYes (w:World) (e:Ending) (w':World):Prop:=∃ n:Int,0≤n∧e=.returned (.int .i64 n)∧w=w'
def IdxNo (w:World) (e:Ending) (w':World):Prop:=∃ n:Int,n<0∧e=.returned (.int .i64 n)∧w=w'
theorem idx_yes (M:List UInt8) (c:UInt8) (h:M.contains c=true) (w:World):Calls Tryz.prog 218 #[.string ⟨M.toArray⟩,.int .u8 c.toNat] w (IdxYes w) :=
 (Tryz.strings_IndexByte ⟨M.toArray⟩ c.toNat w).mono fun e w' ⟨he,hw⟩=>⟨_,by
  have:=indexByte_nonneg M c
  rw [h,decide_eq_true_eq] at this
  rw [toNat_u8];exact this,he,hw.symm⟩
theorem idx_no (M:List UInt8) (c:UInt8) (h:M.contains c=false) (w:World):Calls Tryz.prog 218 #[.string ⟨M.toArray⟩,.int .u8 c.toNat] w (IdxNo w) :=
 (Tryz.strings_IndexByte ⟨M.toArray⟩ c.toNat w).mono fun e w' ⟨he,hw⟩=>⟨_,by
  have:=indexByte_nonneg M c
  rw [h,decide_eq_false_iff_not] at this
  rw [toNat_u8]
  show Lib.indexByte M c<0
  omega,he,hw.symm⟩
def moreL (q:Bool):List UInt8:=if q then [63] else []
theorem path_more (q:Bool) (c:UInt8):(isPath c||(q&&c==63))=(isLetter c||(pmarks++moreL q).contains c):=by
 unfold isPath moreL
 cases q
 ·simp
 ·rw [if_pos rfl,List.contains_append,Bool.true_and,Bool.or_assoc]
  congr 2
  rw [Bool.eq_iff_iff];simp
theorem letter_ways {c:UInt8} (h:isLetter c=true):(97≤(c.toNat:Int)∧(c.toNat:Int)≤122)∨(65≤(c.toNat:Int)∧(c.toNat:Int)≤90)∨(48≤(c.toNat:Int)∧(c.toNat:Int)≤57):=by
 rw [letter_eq] at h;simpa using h
theorem letter_not {c:UInt8} (h:isLetter c=false):(c.toNat:Int)<48∨(57<(c.toNat:Int)∧(c.toNat:Int)<65)∨(90<(c.toNat:Int)∧(c.toNat:Int)<97)∨122<(c.toNat:Int):=by
 rw [letter_eq] at h
 simp only [decide_eq_false_iff_not] at h
 omega
theorem plain_next {q:Bool} {l:List UInt8} {k:Nat} (hk:k<l.length) (h:(isLetter l[k]||(pmarks++moreL q).contains l[k])=true):plainT q (l.drop k)=plainT q (l.drop (k+1)):=by
 rw [List.drop_eq_getElem_cons hk];exact plainT_path _ ((path_more q _).trans h)
theorem plain_bad {q:Bool} {l:List UInt8} {k:Nat} (hk:k<l.length) (h:(isLetter l[k]||(pmarks++moreL q).contains l[k])=false) (h2:l[k]≠37):plainT q (l.drop k)=false:=by
 rw [List.drop_eq_getElem_cons hk];exact plainT_bad _ ((path_more q _).trans h) h2
theorem plain_pct3 {q:Bool} {l:List UInt8} {k:Nat} (hk:k+2<l.length) (h:l[k]=37):plainT q (l.drop k)=(isHex l[k+1]&&isHex l[k+2]&&plainT q (l.drop (k+3))):=by
 rw [List.drop_eq_getElem_cons (by omega),h,plainT_pct,List.drop_eq_getElem_cons (show k+1<l.length by omega),List.drop_eq_getElem_cons (show k+1+1<l.length by omega)];rfl
theorem plain_short {q:Bool} {l:List UInt8} {k:Nat} (hk:k<l.length) (hs:l.length≤k+2) (h:l[k]=37):plainT q (l.drop k)=false:=by
 rw [List.drop_eq_getElem_cons hk,h,plainT_pct]
 have hl:(l.drop (k+1)).length≤1:=by rw [List.length_drop];omega
 match l.drop (k+1),hl with
 | [],_=>rfl
 | [a],_=>rfl
theorem plain_any (q:Bool) (l:List UInt8) (w:World) (hl:l.length≤1000000) :
  Calls Tryz.prog 195 #[.string ⟨l.toArray⟩,.string ⟨(moreL q).toArray⟩] w fun e w'=>e=.returned (.bool (plainT q l))∧w=w':=by
 obtain ⟨m,hm⟩:∃ m,moreL q=m:=⟨_,rfl⟩
 have hml:m.length≤1:=by rw [←hm];cases q <;> decide
 obtain ⟨M,hM⟩:∃ M,pmarks++m=M:=⟨_,rfl⟩
 have hcat:(⟨#[45,46,95,126,33,36,38,39,40,41,42,43,44,59,61,58,64,47]⟩:ByteArray)++⟨m.toArray⟩=⟨M.toArray⟩:=by rw [←hM];exact cat_mk pmarks m
 have hM':=hid (show pmarks++moreL q=M by rw [hm,hM])
 rw [hm]
 clear hm hM
 go_enter Tryz.func195,Tryz.ntmps195
 go_wp2
 go_loop [5] (fun i=>∃ k:Nat,k≤l.length∧i=.int .i64 k∧plainT q (l.drop k)=plainT q l) (fun i=>l.length - (intOf i).toNat)
 case atStart=>exact ⟨0,Nat.zero_le _,rfl,rfl⟩
 case round =>
  obtain ⟨k,hk,rfl,hT⟩:=hrel
  have hT':=hid hT
  clear hT
  have hlI:(l.length:Int)≤1000000:=by omega
  by_cases hlt:k<l.length
  ·obtain ⟨c,hc⟩:∃ c,(⟨l.toArray⟩:ByteArray)[k]'(by rw [size_mk];exact hlt)=c:=⟨_,rfl⟩
   have hc2:=hid (show l[k]=c from hc)
   cases hL:isLetter c
   ·have hr:=letter_not hL
    cases hC:M.contains c
    ·have hnp:=hid (show (isLetter l[k]||(pmarks++moreL q).contains l[k])=false by rw [hc2.out,hM'.out,hL,hC];rfl)
     have hidx:=hid (fun w=>idx_no M c hC w)
     clear hL hC
     by_cases h37:c=37
     ·have h37':=hid (show l[k]=37 by rw [hc2.out,h37])
      have hI1:37≤(c.toNat:Int):=by rw [h37];decide
      have hI2:(c.toNat:Int)≤37:=by rw [h37];decide
      have hI3:((c.toNat:Int)==37)=true:=by rw [h37];decide
      clear h37 hr
      by_cases hk2:k+2<l.length
      ·obtain ⟨a,ha⟩:∃ c,(⟨l.toArray⟩:ByteArray)[k+1]'(by rw [size_mk];omega)=c:=⟨_,rfl⟩
       obtain ⟨b,hb⟩:∃ c,(⟨l.toArray⟩:ByteArray)[k+2]'(by rw [size_mk];omega)=c:=⟨_,rfl⟩
       have ha2:=hid (show l[k+1]=a from ha)
       have hb2:=hid (show l[k+2]=b from hb)
       have hp:=hid (plain_pct3 (q:=q) hk2 h37'.out)
       cases hA:isHex a
       ·have hia:=hid (fun w=>idx_no hexesL a hA w)
        have hA':=hid hA
        clear hA
        go_wp2_with fail
        refine (hidx.out _).mono ?_
        rintro e w2 ⟨n,hn,rfl,rfl⟩
        go_wp2_with fail
        refine (hia.out _).mono ?_
        rintro e w2 ⟨n2,hn2,rfl,rfl⟩
        go_wp2
        go_ret
        exact ⟨ret_bool (by rw [←hT'.out,hp.out,ha2.out,hA'.out];rfl),rfl⟩
       ·have hia:=hid (fun w=>idx_yes hexesL a hA w)
        have hA':=hid hA
        clear hA
        cases hB:isHex b
        ·have hib:=hid (fun w=>idx_no hexesL b hB w)
         have hB':=hid hB
         clear hB
         go_wp2_with fail
         refine (hidx.out _).mono ?_
         rintro e w2 ⟨n,hn,rfl,rfl⟩
         go_wp2_with fail
         refine (hia.out _).mono ?_
         rintro e w2 ⟨n2,hn2,rfl,rfl⟩
         go_wp2_with fail
         refine (hib.out _).mono ?_
         rintro e w2 ⟨n3,hn3,rfl,rfl⟩
         go_wp2
         go_ret
         exact ⟨ret_bool (by rw [←hT'.out,hp.out,hb2.out,hB'.out,Bool.and_false];rfl),rfl⟩
        ·have hib:=hid (fun w=>idx_yes hexesL b hB w)
         have hB':=hid hB
         clear hB
         go_wp2_with fail
         refine (hidx.out _).mono ?_
         rintro e w2 ⟨n,hn,rfl,rfl⟩
         go_wp2_with fail
         refine (hia.out _).mono ?_
         rintro e w2 ⟨n2,hn2,rfl,rfl⟩
         go_wp2_with fail
         refine (hib.out _).mono ?_
         rintro e w2 ⟨n3,hn3,rfl,rfl⟩
         go_wp2
         go_round
         case rel=>exact ⟨k+3,by omega,by go_num,by rw [←hT'.out,hp.out,ha2.out,hb2.out,hA'.out,hB'.out];rfl⟩
         case measure=>simp [intOf];omega
      ·have hp:=hid (plain_short (q:=q) hlt (by omega) h37'.out)
       have hk3:¬((k:Int)+2<l.length):=by omega
       go_wp2_with fail
       refine (hidx.out _).mono ?_
       rintro e w2 ⟨n,hn,rfl,rfl⟩
       go_wp2
       go_ret
       exact ⟨ret_bool (by rw [←hT'.out,hp.out]),rfl⟩
     ·have hI3:((c.toNat:Int)==37)=false:=beq_eq_false_iff_ne.2 (fun e=>h37 (UInt8.toNat_inj.1 (show c.toNat=37 by omega)))
      have hp:=hid (plain_bad hlt hnp.out (by rw [hc2.out];exact h37))
      clear h37
      rcases hr with h1 | ⟨h1,h2⟩ | ⟨h1,h2⟩ | h1
      all_goals
       go_wp2_with fail
       refine (hidx.out _).mono ?_
       rintro e w2 ⟨n,hn,rfl,rfl⟩
       go_wp2
       go_ret
       exact ⟨ret_bool (by rw [←hT'.out,hp.out]),rfl⟩
    ·have hidx:=hid (fun w=>idx_yes M c hC w)
     have hn:=hid (plain_next hlt (show (isLetter l[k]||(pmarks++moreL q).contains l[k])=true by rw [hc2.out,hM'.out,hC,Bool.or_true]))
     clear hL hC
     rcases hr with h1 | ⟨h1,h2⟩ | ⟨h1,h2⟩ | h1
     all_goals
      go_wp2_with fail
      refine (hidx.out _).mono ?_
      rintro e w2 ⟨n,hn2,rfl,rfl⟩
      go_wp2
      go_round
      case rel=>exact ⟨k+1,by omega,by go_num,by rw [←hT'.out,hn.out]⟩
      case measure=>simp [intOf];omega
   ·have hr:=letter_ways hL
    have hn:=hid (plain_next (q:=q) hlt (by rw [hc2.out,hL];rfl))
    clear hL
    rcases hr with ⟨h1,h2⟩ | ⟨h1,h2⟩ | ⟨h1,h2⟩
    all_goals
     go_wp2
     go_round
     case rel=>exact ⟨k+1,by omega,by go_num,by rw [←hT'.out,hn.out]⟩
     case measure=>simp [intOf];omega
  ·go_wp2
   go_ret
   exact ⟨ret_bool (by rw [←hT'.out,List.drop_of_length_le (by omega)];rfl),rfl⟩
theorem plain_is (q:Bool) (l:List UInt8) (b:Bool) (h:plainT q l=b) (w:World) (hl:l.length≤1000000) :
  Calls Tryz.prog 195 #[.string ⟨l.toArray⟩,.string ⟨(moreL q).toArray⟩] w fun e w'=>e=.returned (.bool b)∧w=w':=h▸plain_any q l w hl
def tgV (r:List UInt8×List UInt8×Bool):Value:=.tuple #[.string ⟨r.1.toArray⟩,.string ⟨r.2.1.toArray⟩,.bool r.2.2]
theorem target_eq {l p q:List UInt8} {d:Bool} (h:Lib.cut l [63]=(p,q,d)):targetB l=if decide (l.length≤512)&&((Lib.hasPrefix p [47])&&(plainT false p&&plainT true q)) then (p,q,true) else ([],[],false):=by
 unfold targetB;rw [h]
theorem prefix_is (l p:List UInt8) (b:Bool) (h:Lib.hasPrefix l p=b) (w:World):Calls Tryz.prog 194 #[.string ⟨l.toArray⟩,.string ⟨p.toArray⟩] w fun e w'=>e=.returned (.bool b)∧w=w' :=
 (Tryz.strings_HasPrefix ⟨l.toArray⟩ ⟨p.toArray⟩ w).mono fun e w' ⟨he,hw⟩=>⟨by rw [he];exact congrArg (fun b=>Ending.returned (.bool b)) h,hw.symm⟩
theorem target_any (l:List UInt8) (w:World) (hG:G w) (hl:l.length≤1000000) :
  Calls Tryz.prog 161 #[.string ⟨l.toArray⟩] w fun e w'=>e=.returned (tgV (targetB l))∧Gr w w':=by
 have hc1:(Lib.cut l [63]).1.length≤l.length:=cut_le1 l [63]
 have hc2:(Lib.cut l [63]).2.1.length≤l.length:=cut_le2 l [63]
 have hcut:=cut_any l [63] w hG (by omega)
 obtain ⟨⟨p,q,d⟩,hc⟩:∃ c,Lib.cut l [63]=c:=⟨_,rfl⟩
 rw [hc] at hc1 hc2 hcut
 have hT:=target_eq hc
 dsimp only at hc1 hc2 hcut
 have hcut':=hid hcut
 clear hc hcut
 by_cases h5:l.length≤512
 ·have h5':¬(512<(l.length:Int)):=by omega
  cases h1:Lib.hasPrefix p [47]
  ·have hT':=hid (show targetB l=([],[],false) by rw [hT,h1];simp)
   have k1:=hid (fun w=>prefix_is p [47] _ h1 w)
   clear hT h1
   go_enter Tryz.func161,Tryz.ntmps161
   go_wp2_with fail
   refine hcut'.out.mono ?_
   rintro e w1 ⟨rfl,hg⟩
   go_wp2_with fail
   refine (k1.out _).mono ?_
   rintro e w2 ⟨rfl,rfl⟩
   go_wp2
   go_ret3
   exact ⟨by rw [hT'.out];rfl,hg⟩
  ·have k1:=hid (fun w=>prefix_is p [47] _ h1 w)
   cases h2:plainT false p
   ·have hT':=hid (show targetB l=([],[],false) by rw [hT,h1,h2];simp)
    have k2:=hid (fun w=>plain_is false p _ h2 w (by omega))
    clear hT h1 h2
    go_enter Tryz.func161,Tryz.ntmps161
    go_wp2_with fail
    refine hcut'.out.mono ?_
    rintro e w1 ⟨rfl,hg⟩
    go_wp2_with fail
    refine (k1.out _).mono ?_
    rintro e w2 ⟨rfl,rfl⟩
    go_wp2_with fail
    refine (k2.out _).mono ?_
    rintro e w2 ⟨rfl,rfl⟩
    go_wp2
    go_ret3
    exact ⟨by rw [hT'.out];rfl,hg⟩
   ·have k2:=hid (fun w=>plain_is false p _ h2 w (by omega))
    cases h3:plainT true q
    all_goals
     have k3:=hid (fun w=>plain_is true q _ h3 w (by omega))
     have hT':=hid hT
     have h1':=hid h1
     have h2':=hid h2
     have h3':=hid h3
     have h6:=hid h5
     clear hT h1 h2 h3
     go_enter Tryz.func161,Tryz.ntmps161
     go_wp2_with fail
     refine hcut'.out.mono ?_
     rintro e w1 ⟨rfl,hg⟩
     go_wp2_with fail
     refine (k1.out _).mono ?_
     rintro e w2 ⟨rfl,rfl⟩
     go_wp2_with fail
     refine (k2.out _).mono ?_
     rintro e w2 ⟨rfl,rfl⟩
     go_wp2_with fail
     refine (k3.out _).mono ?_
     rintro e w2 ⟨rfl,rfl⟩
     go_wp2
     go_ret3
     exact ⟨by rw [hT'.out,h1'.out,h2'.out,h3'.out,decide_eq_true h6.out];rfl,hg⟩
 ·have h5':512<(l.length:Int):=by omega
  have hT':=hid (show targetB l=([],[],false) by rw [hT,decide_eq_false h5];rfl)
  clear hT h5
  go_enter Tryz.func161,Tryz.ntmps161
  go_wp2_with fail
  refine hcut'.out.mono ?_
  rintro e w1 ⟨rfl,hg⟩
  go_wp2
  go_ret3
  exact ⟨by rw [hT'.out];rfl,hg⟩
theorem lawS:Keyed Tryz.prog 9:=string_keyed Tryz.underlying9
theorem zeroI (w:World):(zeroValue 3).run Tryz.prog w=.ok (.int .i64 0) w:=by kernel_rfl
theorem proto_map (W:World) (p:List UInt8) (hp:p.length≤1000000) :
  ∃ w1 w2,(Instr.mapUpdate 238 (.map (some W.heap.size)) (.string ⟨#[72,84,84,80,47,49,46,48]⟩) (.int .i64 10)).run Tryz.prog (W.alloc (.map #[] 0))=.ok () w1 ∧
   (Instr.mapUpdate 238 (.map (some W.heap.size)) (.string ⟨#[72,84,84,80,47,49,46,49]⟩) (.int .i64 11)).run Tryz.prog w1=.ok () w2 ∧
   (Instr.lookup 238 (.map (some W.heap.size)) (.string ⟨p.toArray⟩) false).run Tryz.prog w2=.ok (.int .i64 (protoN p)) w2∧Gr W w2:=by
 have h0:=World.ownsMap_made W Tryz.prog 9 (plainElem (H:=Unit) Tryz.prog 3)
 have hk:∀ l:List UInt8,l.length≤1000000→keyOf Tryz.prog 9 (.string ⟨l.toArray⟩)=some (.string l):=fun l hl =>
  WideMaps.keyOf_string_mk Tryz.underlying9 (s:=⟨l.toArray⟩) (by rw [size_mk];unfold maxLen;omega)
 obtain ⟨w1,r1,o1,g1⟩:=h0.update lawS Tryz.underlying238 (by decide) (hk pH10 (by decide)) (plainElem_int Tryz.underlying3 (a:=10) (by decide))
 obtain ⟨w2,r2,o2,g2⟩:=o1.update lawS Tryz.underlying238 (by decide) (hk pH11 (by decide)) (plainElem_int Tryz.underlying3 (a:=11) (by decide))
 obtain ⟨c,r3,hat,_⟩:=o2.lookup_int lawS Tryz.underlying238 Tryz.underlying3 (zeroI w2) (hk p hp)
 have hB0:Gr W (W.alloc (.map #[] 0)):=Gr.alloc _ _
 have hB1:Gr W w1:=Below.grown hB0 g1 (Below.size hB0) (fun j hj=>by cases hj;exact Nat.le_refl _)
 have hB2:Gr W w2:=Below.grown hB1 g2 (Below.size hB1) (fun j hj=>by cases hj;exact Nat.le_refl _)
 refine ⟨w1,w2,r1,r2,?_,hB2⟩
 have hc:c=protoN p:=by
  have i0:IsMap (.map []:DataW Unit):=isMap_empty
  unfold protoN
  by_cases e1:p=pH10
  ·subst e1
   rw [if_pos rfl]
   rw [atKey_put_other (by simp [pH10,pH11]),atKey_put_same i0 (lawS.key (hk _ (by decide)))] at hat
   exact (Lit.int.inj (DataW.lit.inj hat)).2.symm
  ·rw [if_neg e1]
   by_cases e2:p=pH11
   ·subst e2
    rw [if_pos rfl]
    rw [atKey_put_same (i0.put _ _) (lawS.key (hk _ (by decide)))] at hat
    exact (Lit.int.inj (DataW.lit.inj hat)).2.symm
   ·rw [if_neg e2]
    rw [atKey_put_other (by simpa using e2),atKey_put_other (by simpa using e1)] at hat
    have:(DataW.map []:DataW Unit).atKey (.string p) (.lit (.int .i64 0))=.lit (.int .i64 0):=rfl
    rw [this] at hat
    exact (Lit.int.inj (DataW.lit.inj hat)).2.symm
 rw [←hc];exact r3
theorem results_tmp4 {fn:Func} {t u v x:Tmp} (h:fn.results=#[.tmp t,.tmp u,.tmp v,.tmp x]) (tmps:Array Value) (P:Program) (w:World) :
  (results fn tmps).run P w=.ok (.tuple #[tmps.getD t undef,tmps.getD u undef,tmps.getD v undef,tmps.getD x undef]) w:=by
 simp [results,h]
def lnV (r:List UInt8×List UInt8×Nat×Bool):Value:=.tuple #[.string ⟨r.1.toArray⟩,.string ⟨r.2.1.toArray⟩,.int .i64 r.2.2.1,.bool r.2.2.2]
theorem line_any (l:List UInt8) (w:World) (hG:G w) (hl:l.length≤1000000) :
  Calls Tryz.prog 160 #[.string ⟨l.toArray⟩] w fun e w'=>e=.returned (lnV (lineB l))∧Gr w w':=by
 have a1:(Lib.cut l [32]).1.length≤l.length:=cut_le1 l [32]
 have a2:(Lib.cut l [32]).2.1.length≤l.length:=cut_le2 l [32]
 have hcut1:=cut_any l [32] w hG (by omega)
 obtain ⟨⟨m,r,d⟩,hc⟩:∃ c,Lib.cut l [32]=c:=⟨_,rfl⟩
 rw [hc] at a1 a2 hcut1
 dsimp only at a1 a2 hcut1
 have b1:(Lib.cut r [32]).1.length≤r.length:=cut_le1 r [32]
 have b2:(Lib.cut r [32]).2.1.length≤r.length:=cut_le2 r [32]
 have hcut2:=fun W (h:Gr w W)=>cut_any r [32] W (hG.gr h) (by omega)
 obtain ⟨⟨t,p,d2⟩,hc2⟩:∃ c,Lib.cut r [32]=c:=⟨_,rfl⟩
 rw [hc2] at b1 b2
 rw [hc2] at hcut2
 dsimp only at b1 b2 hcut2
 have hT:=hid (lineB_eq hc hc2)
 have hcut1':=hid hcut1
 have hcut2':=hid hcut2
 clear hc hc2 hcut1 hcut2
 go_enter Tryz.func160,Tryz.ntmps160
 go_wp2_with fail
 refine hcut1'.out.mono ?_
 rintro e w1 ⟨rfl,hg1⟩
 have hg1':=hid hg1
 clear hg1
 go_wp2_with fail
 refine (hcut2'.out _ hg1'.out).mono ?_
 rintro e w2 ⟨rfl,hg2⟩
 have hg2':=hid (hg1'.out.trans hg2)
 clear hg2
 go_wp2
 go_loop [2,3,10,25] (fun s2 s3 _ i=>∃ k:Nat,k≤t.length∧s2=.string ⟨m.toArray⟩∧s3=.string ⟨t.toArray⟩∧i=.int .i64 k∧(t.take k).all isVis=true) (fun _ _ _ i=>t.length - (intOf i).toNat)
 case atStart=>exact ⟨0,Nat.zero_le _,rfl,rfl,rfl,rfl⟩
 case round =>
  obtain ⟨k,hk,rfl,rfl,rfl,hall⟩:=hrel
  have hall':=hid hall
  clear hall
  by_cases hlt:k<t.length
  ·obtain ⟨c,hcd⟩:∃ c,(⟨t.toArray⟩:ByteArray)[k]'(by rw [size_mk];exact hlt)=c:=⟨_,rfl⟩
   have hc2:=hid (show t[k]=c from hcd)
   cases hv:isVis c
   ·have hT':=hid (show lineB l=([],[],0,false) by rw [hT.out,all_false hlt (by rw [hc2.out];exact hv)];rfl)
    rw [vis_eq,decide_eq_false_iff_not] at hv
    have hr:(c.toNat:Int)<33∨(33≤(c.toNat:Int)∧126<(c.toNat:Int)):=by omega
    clear hv
    rcases hr with h1 | ⟨h1,h2⟩
    all_goals
     go_wp2
     (try simp only [Exit.inBlock,Exit.then])
     refine bodyPost_ret (results_tmp4 rfl _ _ _) rfl ⟨by rw [hT'.out];rfl,hg2'.out⟩
   ·have hv':=hid hv
    rw [vis_eq,decide_eq_true_eq] at hv
    obtain ⟨h1,h2⟩:=hv
    have hnext:=hid (all_take_succ hall'.out hlt (by rw [hc2.out];exact hv'.out))
    go_wp2
    go_round
    case rel=>exact ⟨k+1,by omega,rfl,rfl,by go_num,hnext.out⟩
    case measure=>simp [intOf];omega
  ·have hvis:=hid (show t.all isVis=true by have:=hall'.out;rwa [List.take_of_length_le (by omega)] at this)
   clear hall'
   obtain ⟨w3,w4,r1,r2,r3,hg4⟩:=proto_map w2 p (by omega)
   have hg4':=hid (hg2'.out.trans hg4)
   obtain ⟨n,hn⟩:∃ n,protoN p=n:=⟨_,rfl⟩
   rw [hn] at r3
   have hn':=hid hn
   have hT2:=hid (show lineB l=if tokB m&&(!t.isEmpty&&n != 0) then (m,t,n,true) else ([],[],0,false) by rw [hT.out,hvis.out,hn];rfl)
   have hmm:=@run_makeMap Tryz.prog
   clear hg4 hn
   cases hm:tokB m
   ·have hT3:=hid (show lineB l=([],[],0,false) by rw [hT2.out,hm];rfl)
    have htok:=hid (fun w=>token_is m _ hm w (by omega))
    clear hm
    go_wp2_with fail
    refine (htok.out _).mono ?_
    rintro e w5 ⟨rfl,rfl⟩
    go_wp2
    (try simp only [Exit.inBlock,Exit.then])
    refine bodyPost_ret (results_tmp4 rfl _ _ _) rfl ⟨by rw [hT3.out];rfl,hg4'.out⟩
   ·have htok:=hid (fun w=>token_is m _ hm w (by omega))
    have hm':=hid hm
    clear hm
    cases ht:t.isEmpty
    ·cases hnz:(n != 0)
     ·have hT3:=hid (show lineB l=([],[],0,false) by rw [hT2.out,hm'.out,ht,hnz];rfl)
      obtain rfl:n=0:=by simpa using hnz
      clear hnz
      have ht':(!t.isEmpty)=true:=by rw [ht];rfl
      go_wp2_with fail
      refine (htok.out _).mono ?_
      rintro e w5 ⟨rfl,rfl⟩
      go_wp2
      (try simp only [Exit.inBlock,Exit.then])
      refine bodyPost_ret (results_tmp4 rfl _ _ _) rfl ⟨by rw [hT3.out];rfl,hg4'.out⟩
     ·have hT3:=hid (show lineB l=(m,t,n,true) by rw [hT2.out,hm'.out,ht,hnz];rfl)
      have hnz2:((n:Int)==0)=false:=by
       have:n≠0:=by simpa using hnz
       exact beq_eq_false_iff_ne.2 (by omega)
      clear hnz
      have ht':(!t.isEmpty)=true:=by rw [ht];rfl
      go_wp2_with fail
      refine (htok.out _).mono ?_
      rintro e w5 ⟨rfl,rfl⟩
      go_wp2
      (try simp only [Exit.inBlock,Exit.then])
      refine bodyPost_ret (results_tmp4 rfl _ _ _) rfl ⟨by rw [hT3.out];rfl,hg4'.out⟩
    ·have hT3:=hid (show lineB l=([],[],0,false) by rw [hT2.out,hm'.out,ht];rfl)
     have ht':(!t.isEmpty)=false:=by rw [ht];rfl
     go_wp2_with fail
     refine (htok.out _).mono ?_
     rintro e w5 ⟨rfl,rfl⟩
     go_wp2
     (try simp only [Exit.inBlock,Exit.then])
     refine bodyPost_ret (results_tmp4 rfl _ _ _) rfl ⟨by rw [hT3.out];rfl,hg4'.out⟩
end Go.Proofs.YtadobobfjnmdlaaGreatDoor
namespace Go.Proofs.YtadobobfjnmdlaaGreatDoor
open Go.RowKit
theorem gr_grow (w:World) (k:Nat) (os:Array Obj):Gr w (Sort.grow (w.drewN k) os):=by
 have h:=below_drewNm w k
 refine ⟨h.os,h.tape,h.output,?_,fun i hi=>?_⟩
 ·have:=h.size;(first | (simp [Sort.grow];done) | (simp [Sort.grow];omega))
 ·have h2:=h.block i hi
  rw [←h2]
  exact Array.getElem?_append_left (Nat.lt_of_lt_of_le hi h.size)
theorem itoa_any (n:Int) (h0:-9223372036854775808≤n) (h1:n≤9223372036854775807) (w:World) (hG:G w) :
  Calls Tryz.prog 116 #[.int .i64 n] w fun e w'=>e=.returned (.string ⟨(Lib.itoa n).toArray⟩)∧Gr w w' :=
 (Tryz.strconv_Itoa n h0 h1 w hG.pow).mono fun _ _ ⟨he,k,os,hw⟩=>⟨he,hw▸gr_grow w k os⟩
theorem itoa_later {w:World} (n:Int) (h0:-9223372036854775808≤n) (h1:n≤9223372036854775807) (s:List UInt8) (hs:Lib.itoa n=s) (hG:G w) (x:Later (Gr w)) :
  Calls Tryz.prog 116 #[.int .i64 n] x.w fun e w''=>e=.returned (.string ⟨s.toArray⟩)∧∃ y:Later (Gr w),w''=y.w :=
 Calls.later ((itoa_any n h0 h1 x.w (hG.gr x.ok)).mono fun _ _ ⟨he,hw⟩=>⟨hs▸he,x.ok.trans hw⟩)
theorem line_is (l m t:List UInt8) (v:Nat) (b:Bool) (h:lineB l=(m,t,v,b)) (w:World) (hG:G w) (hl:l.length≤1000000) :
  Calls Tryz.prog 160 #[.string ⟨l.toArray⟩] w fun e w'=>e=.returned (.tuple #[.string ⟨m.toArray⟩,.string ⟨t.toArray⟩,.int .i64 v,.bool b])∧Gr w w':=by
 have:=line_any l w hG hl;rw [h] at this;exact this
theorem target_is (l p q:List UInt8) (b:Bool) (h:targetB l=(p,q,b)) (w:World) (hG:G w) (hl:l.length≤1000000) :
  Calls Tryz.prog 161 #[.string ⟨l.toArray⟩] w fun e w'=>e=.returned (.tuple #[.string ⟨p.toArray⟩,.string ⟨q.toArray⟩,.bool b])∧Gr w w':=by
 have:=target_any l w hG hl;rw [h] at this;exact this
end Go.Proofs.YtadobobfjnmdlaaGreatDoor
namespace Go.Proofs.YtadobobfjnmdlaaGreatDoor
open Go.RowKit
attribute [local go_sem] Oper.semAt_some
theorem fieldsL_none {ls:List (List UInt8)} {k:Nat} (hk:k<ls.length) (h:(parseB ls[k]).2.2=false):fieldsL ls=none:=by
 induction ls generalizing k with
 | nil=>simp at hk
 | cons l t ih =>
  unfold fieldsL
  cases k with
  | zero =>
   rw [show (l :: t)[0]=l from rfl] at h
   rw [h];rfl
  | succ k =>
   rw [ih (k:=k) (by simpa using hk) h]
   split <;> rfl
theorem fieldsL_snoc {ls:List (List UInt8)} {fs:List Fl} {l n v:List UInt8} (h:fieldsL ls=some fs) (hp:parseB l=(n,v,true)):fieldsL (ls++[l])=some (fs++[(n,v)]):=by
 induction ls generalizing fs with
 | nil =>
  cases h
  simp [fieldsL,hp]
 | cons x t ih =>
  unfold fieldsL at h
  rw [List.cons_append]
  unfold fieldsL
  split at h
  ·rename_i hx
   cases e:fieldsL t with
   | none=>rw [e] at h;cases h
   | some gs =>
    rw [e] at h
    cases h
    rw [if_pos hx,ih e]
    rfl
  ·cases h
def FldPost (ls:List (List UInt8)) (w:World) (e:Ending) (w':World):Prop :=
 ∃ v b,e=.returned (.tuple #[v,.bool b])∧Gr w w'∧((fieldsL ls=none∧v=.slice none 0 0∧b=false)∨∃ fs,fieldsL ls=some fs∧fs.length=ls.length∧b=true∧OwnF w.heap.size w' v fs)
def FldRel (w:World) (ls:List (List UInt8)) (v i:Value) (W:World):Prop :=
 ∃ (k:Nat) (fs:List Fl) (p:Option Addr) (cap:Nat),k≤ls.length∧i=.int .i64 k∧v=.slice p fs.length cap∧fs.length=k∧fieldsL (ls.take k)=some fs∧OwnF w.heap.size W (.slice p fs.length cap) fs∧Gr w W
theorem qfields_any (ls:List (List UInt8)) (t:Value) (w:World) (hG:G w) (hf:TextsAt w t ls) (hn:ls.length≤100000) (hs:∀ l∈ls,l.length≤900000) :
  Calls Tryz.prog 130 #[t] w (FldPost ls w):=by
 have hG':=hid hG
 obtain ⟨p,cap,rfl,_,hc⟩:=hf
 have hc':=hid hc
 have hs':=hid hs
 clear hc hs hG
 go_enter Tryz.func130,Tryz.ntmps130
 go_wp2
 go_loopw [4,11] (fun v i W=>FldRel w ls v i W) (fun _ i _=>ls.length - (intOf i).toNat)
 case atStart=>exact ⟨0,[],none,0,Nat.zero_le _,rfl,rfl,rfl,rfl,World.ownsRow_nil _ _ _ _,Gr.refl _⟩
 case round =>
  obtain ⟨k,fs,pv,cv,hk,rfl,rfl,hfl,hfs,ho,hg⟩:=hrel
  have hfs':=hid hfs
  have ho':=hid ho
  have hflb:fs.length≤100000:=by omega
  have hfl':=hid hfl
  clear hfl
  have hg':=hid hg
  by_cases hlt:k<ls.length
  ·obtain ⟨b,off,rfl,h1⟩:=hc'.out k hlt
   have d1:=hg.cell h1
   have hsl9:=hs'.out _ (List.getElem_mem hlt)
   have hnone:=hid (fun h=>@fieldsL_none ls k hlt h)
   have htk:ls.take (k+1)=ls.take k++[ls[k]]:=List.take_succ_eq_append_getElem hlt
   obtain ⟨l,hl⟩:∃ x,ls[k]=x:=⟨_,rfl⟩
   rw [hl] at d1 hsl9 hnone htk
   have hkI:(k:Int)<ls.length:=by omega
   have hpl:l.length<4294967281:=by omega
   have hpc:=hid (fun W hGW=>parse_any l W hGW hpl)
   obtain ⟨⟨n1,v1,okp⟩,hP⟩:∃ x,parseB l=x:=⟨_,rfl⟩
   rw [hP] at hpc hnone
   have hP':=hid hP
   have htk':=hid htk
   clear hP htk hl h1 hfs hpl ho hg
   go_wp2_with fail
   refine (hpc.out _ (hG'.out.gr hg'.out)).mono ?_
   rintro e w3 ⟨rfl,hb3⟩
   unfold pVal
   dsimp only
   have y0:(w3.alloc (.cells #[.string ⟨n1.toArray⟩,.string ⟨v1.toArray⟩] 80)).cell? ⟨w3.heap.size,0,none⟩=some (.string ⟨n1.toArray⟩):=cell_new7 w3 [.string ⟨n1.toArray⟩,.string ⟨v1.toArray⟩] _ 0 _ rfl
   have y1:(w3.alloc (.cells #[.string ⟨n1.toArray⟩,.string ⟨v1.toArray⟩] 80)).cell? ⟨w3.heap.size,1,none⟩=some (.string ⟨v1.toArray⟩):=cell_new7 w3 [.string ⟨n1.toArray⟩,.string ⟨v1.toArray⟩] _ 1 _ rfl
   have gx:=hb3.trans (Gr.alloc w3 (.cells #[.string ⟨n1.toArray⟩,.string ⟨v1.toArray⟩] 80))
   clear d1
   cases okp with
   | false =>
    have hno:=hid (hnone.out rfl)
    have g9:=hid (hg'.out.trans gx)
    clear gx hb3
    go_wp2
    go_ret2
    exact ⟨_,false,rfl,g9.out,.inl ⟨hno.out,rfl,rfl⟩⟩
   | true =>
    go_upto_region 8 with (fail)
    generalize w3.alloc (.cells #[.string ⟨n1.toArray⟩,.string ⟨v1.toArray⟩] 80)=w4 at y0 y1 gx ⊢
    have ho4:=(ho'.out.ch (gx.to_ch (fun _=>False)) (fun _ h=>h.elim))
    have g4:=hid (hg'.out.trans gx)
    have ho4':=hid ho4
    have hA:∀ O,(w4.alloc O).ownsRow w.heap.size 80 2 (.slice pv fs.length cv) fs.length (fcells fs):=fun O=>World.ownsRow.alloc ho4 O
    obtain ⟨i0,hi,hz0,hz1,hzb⟩:=info_parts infoField
    have hbz:=Below.size g4.out
    clear gx hb3 ho4
    go_wp2_with (at_builtin;refine wpList_append_own _ rfl _ _ 49 rfl w.heap.size 80 i0 (.agg #[.string ⟨#[]⟩,.string ⟨#[]⟩]) 2 32 Tryz.underlying49 hi hz0 hz1 hzb rfl (by decide) _ _ _ rfl (hA _) ⟨w4.heap.size,0,none⟩ 1 1 [.string ⟨n1.toArray⟩,.string ⟨v1.toArray⟩] rfl rfl ?qc2 ?qc3 ?qc4 ?qc5 ?qc6 ?_)
    case qc2=>exact cells_two _ _ _ _
    case qc3=>simp [Value.oneCell']
    case qc4=>unfold maxLen;omega
    case qc5=>omega
    case qc6=>simp;omega
    intro v' w9 hown3 hgrow _
    have hown4:OwnF w.heap.size w9 v' (fs++[(n1,v1)]):=by
     unfold OwnF;rw [fcells_app,List.length_append];exact hown3
    obtain ⟨p9,c9,rfl,_⟩:=hown4.at
    have hlen9:(fs++[(n1,v1)]).length=fs.length+1:=by simp
    have hrel9:=hid (show FldRel w ls (.slice p9 (fs++[(n1,v1)]).length c9) (.int .i64 ((k:Int)+1)) w9 from
     ⟨k+1,fs++[(n1,v1)],p9,c9,hlt,rfl,rfl,by rw [hlen9,hfl'.out],by rw [htk'.out];exact fieldsL_snoc hfs'.out hP'.out,hown4,(g4.out.alloc1 _).ch (Ch.of_grown hgrow) (fun k e=>(World.ownsRow.lt ho4'.out k e).1)⟩)
    rw [hlen9] at hrel9 ⊢
    clear hown3 hgrow hA hi hz0 hz1 hzb hown4 hlen9
    go_wp2
    go_roundw
    case rel=>exact hrel9.out
    case measure=>simp [intOf];omega
  ·have hkl:k=ls.length:=by omega
   have hkI:¬(k:Int)<ls.length:=by omega
   have hfin:=hid (show fieldsL ls=some fs by have:=hfs'.out;rwa [hkl,List.take_length] at this)
   have hfl2:=hid (hfl'.out.trans hkl)
   clear hfs hg ho
   go_wp2
   go_ret2
   exact ⟨_,true,rfl,hg'.out,.inr ⟨fs,hfin.out,hfl2.out,rfl,ho'.out⟩⟩
end Go.Proofs.YtadobobfjnmdlaaGreatDoor
