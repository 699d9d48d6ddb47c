/-
  What the rows' lists give, and a world for the witness.
-/
import Derived.Test.YtadobobfjnmdlaaGreatDoorRows
import Derived.Test.YtadobobfjnmdlaaGreatDoorP0
import Derived.PinnedBridge
import Derived.Lib.LaidU8
import Derived.Lib.LaidIn
import Derived.Stop.LaidErr
import Derived.Deep.DeepHandedRow
import Derived.Deep.DeepWitnessRowRef
import Derived.ProofKit
import Derived.Carry
import Derived.ShutString
import Derived.OpenShut
import Derived.Deep.Slices
import Derived.Deep.Fields
import Derived.ChangeSame
import Derived.Shelf.Strings.SlTrimAscii
import Derived.Lib.Atoi
import Derived.Lib.Split
import Derived.Lib.SplitLaws
set_option linter.unnecessarySimpa false
set_option linter.unusedVariables false
set_option linter.unusedSimpArgs false
set_option maxHeartbeats 16000000
set_option maxRecDepth 100000
open Go.Lib (hid)
open Go.Proofs.Tryz
namespace Go.Proofs.YtadobobfjnmdlaaGreatDoor
open Go.RowKit Go.Lib
theorem own:ownKnob prog.godebug=none:=by kernel_rfl
def laidL:List (String×DataW Unit):=[("math/bits.deBruijn32tab",Rows.laid_math_bits_deBruijn32tab),("math/bits.deBruijn64tab",Rows.laid_math_bits_deBruijn64tab),("internal/strconv.uint64pow10",Rows.laid_internal_strconv_uint64pow10),("unicode/utf8.acceptRanges",Rows.laid_unicode_utf8_acceptRanges),("strconv.ErrRange",Rows.laid_strconv_ErrRange),("strconv.ErrSyntax",Rows.laid_strconv_ErrSyntax),("unicode/utf8.first",Rows.laid_unicode_utf8_first)]
theorem accept_eq:(Rows.laid_unicode_utf8_acceptRanges:DataW Unit)=acceptData:=by kernel_rfl
theorem first_eq:Rows.laid_unicode_utf8_first=firstData:=Pinned.utf8First_eq
theorem pow_eq:(Rows.laid_internal_strconv_uint64pow10:DataW Unit)=Lib.tabData .u64 Lib.pow10Tab:=by kernel_rfl
theorem gSyn:prog.globalNamed "strconv.ErrSyntax"=some 2:=by kernel_rfl
theorem gSynT:(prog.globals[2]?).map (·.type)=some 171:=by kernel_rfl
theorem gRng:prog.globalNamed "strconv.ErrRange"=some 3:=by kernel_rfl
theorem gRngT:(prog.globals[3]?).map (·.type)=some 171:=by kernel_rfl
theorem gPow:prog.globalNamed "internal/strconv.uint64pow10"=some 1:=by kernel_rfl
theorem gPowT:(prog.globals[1]?).map (·.type)=some 285:=by kernel_rfl
theorem eStar:"*"++"errors.errorString" = "*errors.errorString":=by decide
theorem errRow (u:TypeId) (h:prog.typeName? 3 u=some "*errors.errorString"):u = 307 :=
 typeName_ptr_named (nm:="errors.errorString") (by rw[eStar];kernel_rfl) (by kernel_rfl) (by decide) u (by rw[eStar];exact h)
theorem cellsErr:prog.cellsOf 309=1:=by kernel_rfl
theorem cellsStr:prog.cellsOf 9=1:=by kernel_rfl
theorem cellsU64:prog.cellsOf 94=1:=by kernel_rfl
theorem cellsPow:prog.cellsOf 285=20:=by kernel_rfl
theorem G_of {W:World} (hL:laidMetH prog laidL W) (hsh:W.ShapedOpen prog):G W:=by
 have hM:laidMet prog laidL W:=hL
 have h1:=Lib.laidMet.reads (n:="unicode/utf8.first") (d:=Rows.laid_unicode_utf8_first) hM (.tail _ (.tail _ (.tail _ (.tail _ (.tail _ (.tail _ (.head _)))))))
 have h2:=Lib.laidMet.reads (n:="unicode/utf8.acceptRanges") (d:=Rows.laid_unicode_utf8_acceptRanges) hM (.tail _ (.tail _ (.tail _ (.head _))))
 rw[first_eq] at h1
 rw[accept_eq] at h2
 have h3:=hM.tail.tail
 rw[pow_eq] at h3
 obtain⟨a0,s0,hv0,-,-,-⟩:=laid_sentinel hM.tail.tail.tail.tail gRng gRngT underlying171 errRow underlying307 underlying309 rfl rfl underlying9 cellsErr cellsStr
 obtain⟨a1,s1,hv1,-,-,-⟩:=laid_sentinel hM.tail.tail.tail.tail.tail gSyn gSynT underlying171 errRow underlying307 underlying309 rfl rfl underlying9 cellsErr cellsStr
 refine⟨Tryz.laysM219.s1_3 W hsh,utf8Tabs_of_reads (ρ:=lays230_ren) { lays230 with } ⟨by kernel_rfl,by kernel_rfl,by kernel_rfl,by kernel_rfl,by kernel_rfl,by kernel_rfl,by kernel_rfl⟩ h1 h2,?_,⟨_,_,by have h0:=World.var?_cell gSyn hv1 0;simpa using h0⟩,⟨_,_,by have h0:=World.var?_cell gRng hv0 0;simpa using h0⟩⟩
 ·exact Lib.tabIs_of_head gPow gPowT underlying285 underlying94 cellsU64 cellsPow h3
noncomputable def laidWorld (os:Os):World :=
 let w0:=World.holding prog os ⟨#[.cells #[.string ⟨#[105,110,118,97,108,105,100,32,115,121,110,116,97,120]⟩] 309,.cells #[.string ⟨#[118,97,108,117,101,32,111,117,116,32,111,102,32,114,97,110,103,101]⟩] 309],#[],[]⟩
 let low:=(World.holding prog default ⟨#[],#[],[]⟩).heap.size
 let put (h:Array Obj) (g:Nat) (cs:Array Value):Array Obj:=h.modify g fun
  | .cells _ t frozen=>.cells cs t frozen
  | o=>o
 let h1:=put w0.heap 4 (Lib.firstTab.map λz=>Value.int .u8 z).toArray
 let h2:=put h1 5 ((List.range 16).flatMap λi=>[Value.int .u8 (Lib.accLo i),Value.int .u8 (Lib.accHi i)]).toArray
 let h3:=put h2 2 #[.iface 307 (.pointer (some ⟨low,0,none⟩))]
 let h4:=put h3 3 #[.iface 307 (.pointer (some ⟨low+1,0,none⟩))]
 let h5:=put h4 1 (Lib.pow10Tab.map λz=>Value.int .u64 z).toArray
 let lits (d:DataW Unit):Array Value:=match d with | .agg ds=>(ds.map fun | .lit (.int k z)=>Value.int k z | _=>.bool false).toArray | _=>#[]
 let h6:=put h5 6 (lits Rows.laid_math_bits_deBruijn32tab)
 let h7:=put h6 7 (lits Rows.laid_math_bits_deBruijn64tab)
 { w0 with heap:=h7 }
theorem laid_met (os:Os) (args:Array Value):laidMet prog laidL ((laidWorld os).forCall (λ_ _=>0) ⟨#[],args,[]⟩).memory :=
 laidMet_of_run' 8 (by kernel_rfl) (by kernel_rfl)
section
open Go.ChangeShapes Go.WideShapes Go.Deep
variable {H:Type} {enc:TypeId×Value→H}
theorem laidOut:laidOutB Tryz.prog=true:=by kernel_rfl
theorem trodAll_below {W W':World} (hg:Gr W W'):∀ (ts:List TypeId) (vs:List Value) (ds:List (DataW H)) (ps:List MemPlace),(∀ t∈ts,prog.readableRec t=true∧t<prog.types.size) →
  DataW.TrodAll enc prog W 0 (λ_=>true) true ts vs ds ps→(∀ x∈ps,x.block<W.heap.size)→DataW.TrodAll enc prog W' 0 (λb=>decide (b<W.heap.size)) true ts vs ds ps
 | [],_,_,_,_,h,_=>by
  obtain⟨rfl,rfl,rfl⟩:=trodAll_nil h
  exact trodAll_mk0
 | t :: ts,vs,ds,ps,ht,h,hlt=>by
  obtain⟨v,vs',d,ds',p,q,rfl,rfl,rfl,h1,h2⟩:=trodAll_cons h
  obtain⟨hr,hs⟩:=ht t (by simp)
  exact trodAll_cons_mk (Below.trod laidOut hr hs h1 hg (λx hx=>hlt x (by simp[hx]))) (trodAll_below hg ts vs' ds' q (λu hu=>ht u (by simp[hu])) h2 (λx hx=>hlt x (by simp[hx])))
theorem law_post {W W':World} {fn:Func} {s:ChangeSpec} {args:Array Value} {ds:List (DataW H)} {before:List MemPlace}
  (hW:DataW.Whole enc prog fn.params.toList s.vars false W args.toList ds [] before) (hv:s.vars=[]) (hres:(s.fn H (ds++[])).results=[.lit (.bool true)]) (hargs:(s.fn H (ds++[])).args=ds) (hvars:(s.fn H (ds++[])).vars=[])
  (hrt:fn.resultTypes=#[4]) (hread:(fn.params.toList.all λt=>prog.readableRec t&&decide (t<prog.types.size))=true) (hg:Gr W W') :
  s.post enc prog fn false true false false W args (.bool true) W':=by
 have hlt:=hW.lt
 have hW':=hW
 obtain⟨p,q,hA,hV,rfl,_,_⟩:=hW
 refine⟨ds,[],_,[],p,[],hW',?_,?_,?_,Below.frame hg _,λh=>by cases h⟩
 ·rw[hres,hrt];exact trodAll_mk1 (shut_bool underlying4 true)
 ·rw[hargs]
  refine trodAll_below hg _ _ _ _ (λt ht=>?_) hA (λx hx=>?_)
  ·have:=List.all_eq_true.1 hread t ht
   simpa using this
  ·exact hlt x (by simp[hx])
 ·rw[hvars,hv];rfl
end
end Go.Proofs.YtadobobfjnmdlaaGreatDoor
namespace Go.Proofs.YtadobobfjnmdlaaGreatDoor
open Go.RowKit
theorem trim_any (l:List UInt8) (w:World) (hl:l.length≤9223372036854775807) :
  Calls prog 162 #[.string ⟨l.toArray⟩,.string ⟨#[32,9]⟩] w λe w'=>e=.returned (.string ⟨(trimB l).toArray⟩)∧Gr w w' :=
 Any.strings_Trim_laid lays160 (by kernel_rfl) ⟨l.toArray⟩ ⟨#[32,9]⟩ w (by rw[size_mk];exact hl) (by decide) (ascii_of_all (by decide))
theorem token_is (l:List UInt8) (b:Bool) (h:tokB l=b) (w:World) (hl:l.length≤9223372036854775807) :
  Calls prog 175 #[.string ⟨l.toArray⟩] w λe w'=>e=.returned (.bool b)∧w=w':=by
 have hb:=hid h
 clear h
 by_cases h0:l=[]
 ·subst h0
  go_enter func175,ntmps175
  go_wp2
  go_ret
  exact⟨ret_bool (by rw[←hb.out];rfl),rfl⟩
 ·have h1:=hid h0
  have h2:(!l.isEmpty)=true:=by simpa using h0
  have h3:(!l.toArray.toList.isEmpty)=true:=by simpa using h0
  clear h0
  go_enter func175,ntmps175
  go_wp2_with fail
  refine (every_any 217 isTok (enters_of func217 (by kernel_rfl) rfl) tokc_any l _ hl).mono ?_
  rintro e w'⟨rfl,rfl⟩
  go_wp2
  go_ret
  exact⟨ret_bool (by rw[←hb.out];unfold tokB;rw[h2,Bool.true_and]),rfl⟩
theorem values_is (l:List UInt8) (b:Bool) (h:l.all isVal=b) (w:World) (hl:l.length≤9223372036854775807) :
  Calls prog 176 #[.string ⟨l.toArray⟩,.func (.func 177) #[] #[]] w λe w'=>e=.returned (.bool b)∧w=w':=by
 rw[←h];exact every_any 177 isVal (enters_of func177 (by kernel_rfl) rfl) valc_any l w hl
theorem cut_any (l sep:List UInt8) (w:World) (hG:G w) (hl:l.length<4294967281) :
  Calls prog 174 #[.string ⟨l.toArray⟩,.string ⟨sep.toArray⟩] w λe w'=>e=.returned (.tuple #[.string ⟨(Lib.cut l sep).1.toArray⟩,.string ⟨(Lib.cut l sep).2.1.toArray⟩,.bool (Lib.cut l sep).2.2])∧Gr w w' :=
 let ⟨m,hm⟩:=hG.max
 (Tryz.strings_Cut ⟨l.toArray⟩ ⟨sep.toArray⟩ m w (by rw[size_mk];exact hl) hm).mono λ_ w' ⟨he,n,hn⟩=>⟨he,hn▸below_drewNm w n⟩
def pVal (r:List UInt8×List UInt8×Bool):Value:=.tuple #[.agg #[.string ⟨r.1.toArray⟩,.string ⟨r.2.1.toArray⟩],.bool r.2.2]
theorem parse_any (l:List UInt8) (w:World) (hG:G w) (hl:l.length<4294967281) :
  Calls prog 142 #[.string ⟨l.toArray⟩] w λe w'=>e=.returned (pVal (parseB l))∧Gr w w':=by
 have hc1:(Lib.cut l [58]).1.length≤l.length:=cut_le1 l [58]
 have hc2:(Lib.cut l [58]).2.1.length≤l.length:=cut_le2 l [58]
 obtain⟨⟨n,v,c⟩,hc⟩:∃ c,Lib.cut l [58]=c:=⟨_,rfl⟩
 rw[hc] at hc1 hc2
 have hfin:=hid (parseB_eq hc)
 have hc':=hid hc
 clear hc
 go_enter func142,ntmps142
 go_wp2_with fail
 refine (cut_any l [58] _ (hG.gr (Gr.alloc _ _)) hl).mono ?_
 rintro e w1⟨rfl,hb⟩
 rw[hc'.out]
 have hg1:Gr w w1:=(Gr.alloc _ _).trans hb
 obtain⟨hce,hfr⟩:=hb.bcell
 have hz:w.heap.size<w1.heap.size:=by have:=hb.size;simp at this;omega
 cases c
 ·go_wp2
  refine bodyPost_ret (v:=pVal ([],[],false)) (by simp[results,results142,go_sem,pVal,hce]) rfl ⟨by rw[hfin.out];rfl,?_⟩
  exact (hg1.setCell (Nat.le_refl _) _).setCell (Nat.le_refl _) _
 ·cases ht:tokB n
  ·have ht':=hid ht
   clear ht
   go_wp2_with (go_at_call 175;refine (token_is n _ ht'.out _ (by omega)).mono ?_;rintro e w' ⟨rfl,rfl⟩)
   refine bodyPost_ret (v:=pVal ([],[],false)) (by simp[results,results142,go_sem,pVal,hce]) rfl ⟨by rw[hfin.out,ht'.out];rfl,?_⟩
   exact (hg1.setCell (Nat.le_refl _) _).setCell (Nat.le_refl _) _
  ·have ht':=hid ht
   clear ht
   cases hv:v.all isVal
   ·have hv':=hid hv
    clear hv
    go_wp2_with (first | (go_at_call 175;refine (token_is n _ ht'.out _ (by omega)).mono ?_;rintro e w' ⟨rfl,rfl⟩) | (go_at_call 176;refine (values_is v _ hv'.out _ (by omega)).mono ?_;rintro e w' ⟨rfl,rfl⟩))
    refine bodyPost_ret (v:=pVal ([],[],false)) (by simp[results,results142,go_sem,pVal,hce]) rfl ⟨by rw[hfin.out,ht'.out,hv'.out];rfl,?_⟩
    exact (hg1.setCell (Nat.le_refl _) _).setCell (Nat.le_refl _) _
   ·have hv':=hid hv
    clear hv
    go_wp2_with (first | (go_at_call 175;refine (token_is n _ ht'.out _ (by omega)).mono ?_;rintro e w' ⟨rfl,rfl⟩) | (go_at_call 176;refine (values_is v _ hv'.out _ (by omega)).mono ?_;rintro e w' ⟨rfl,rfl⟩) | (go_at_call 162;refine (trim_any v _ (by omega)).mono ?_;rintro e w2 ⟨rfl,hb2⟩;obtain⟨hce2,hfr2⟩:=hb2.bcell))
    refine bodyPost_ret (v:=pVal (n,trimB v,true)) (by simp[results,results142,go_sem,pVal,hce,hce2,hz]) rfl ⟨by rw[hfin.out,ht'.out,hv'.out];rfl,?_⟩
    exact ((hg1.trans hb2).setCell (Nat.le_refl _) _).setCell (Nat.le_refl _) _
def lowI (n:Int):Int:=if 65≤n∧n≤90 then n+32 else n
theorem smallc_any (n:Int) (w:World) (h0:0≤n) (h1:n≤1114111):Calls prog 206 #[.int .i32 n] w λe w'=>e=.returned (.int .i32 (lowI n))∧w=w':=by
 have hv:=hid (show lowI n=if 65≤n∧n≤90 then n+32 else n from rfl)
 go_enter func206,ntmps206
 go_wp2
 all_goals go_ret
 all_goals refine⟨?_,rfl⟩
 all_goals rw[hv.out]
 all_goals (first | rw[if_neg (by omega)] | rw[if_pos (by omega)])
 all_goals first | rfl | go_num
theorem small_grows (w:World):MapGrows prog 206 #[] lowI w:=λW x hx _ =>
 (smallc_any x W (by omega) (by omega)).mono λe w' ⟨he,hw⟩=>⟨he,Gr.of_eq hw.symm⟩
theorem small_any (l:List UInt8) (w:World) (hG:G w) (hl:l.length<35184372088832) :
  Calls prog 165 #[.string ⟨l.toArray⟩] w λe w'=>e=.returned (.string ⟨(Lib.mapD lowI l).toArray⟩)∧Gr w w':=by
 go_enter func165,ntmps165
 have hs:ByteArray.size ⟨l.toArray⟩<35184372088832:=by rw[size_mk];exact hl
 have hs':=hid hs
 clear hs
 go_wp2_with fail
 refine (Tryz.strings_Map_grows _ _ (enters_of func206 (by kernel_rfl) rfl) lowI ⟨l.toArray⟩ _ hs'.out (small_grows _) (λx hx=>by unfold lowI;split <;> omega) hG.utf).mono ?_
 rintro e w'⟨rfl,hb⟩
 go_wp2
 go_ret
 exact⟨rfl,hb⟩
theorem map_one (c:UInt8) (h:isLetter c=true):Lib.mapD lowI [c]=[lower c]:=by
 revert h
 refine u8_all (p:=λc=>isLetter c=true→Lib.mapD lowI [c]=[lower c]) ?_ c
 decide +kernel
theorem small_one (c:UInt8) (w:World) (hG:G w) (h:isLetter c=true) :
  Calls prog 165 #[.string ⟨#[c]⟩] w λe w'=>e=.returned (.string ⟨#[lower c]⟩)∧Gr w w':=by
 have:=small_any [c] w hG (by simp)
 rwa [map_one c h] at this
theorem alike_at {a b:List UInt8} {k:Nat} (ha:k<a.length) (hb:k<b.length) (h:lower a[k]≠lower b[k]):alikeB a b=false:=by
 unfold alikeB
 rw[beq_eq_false_iff_ne]
 intro e
 apply h
 have:=congrArg (λl=>l[k]?) e
 simpa[ha,hb] using this
theorem lower_ne_of {a b:UInt8} (h:a≠b) (hl:isLetter a=false∨isLetter b=false):lower a≠lower b:=by
 intro e
 have ea:=lower_toNat a
 have eb:=lower_toNat b
 rw[e] at ea
 have hn:(a.toNat:Int)≠b.toNat:=λe=>h (UInt8.toNat_inj.1 (by omega))
 rw[letter_eq,letter_eq] at hl
 simp at hl
 split at ea <;> split at eb <;> omega
theorem letter_later {w:World} (c:UInt8) (b:Bool) (h:isLetter c=b) (x:Later (Gr w)):Calls prog 164 #[.int .u8 c.toNat] x.w λe w''=>e=.returned (.bool b)∧∃ y:Later (Gr w),w''=y.w :=
 Calls.later ((letter_any c x.w).mono λ_ _ ⟨he,hw⟩=>⟨by rw[he,h],hw▸x.ok⟩)
theorem small_later {w:World} (hG:G w) (c:UInt8) (h:isLetter c=true) (x:Later (Gr w)):Calls prog 165 #[.string ⟨#[c]⟩] x.w λe w''=>e=.returned (.string ⟨#[lower c]⟩)∧∃ y:Later (Gr w),w''=y.w :=
 Calls.later ((small_one c x.w (hG.gr x.ok) h).mono λ_ _ ⟨he,hw⟩=>⟨he,x.ok.trans hw⟩)
theorem alike_any (a b:List UInt8) (w:World) (hG:G w) (hla:a.length≤9223372036854775807) (_hlb:b.length≤9223372036854775807) :
  Calls prog 133 #[.string ⟨a.toArray⟩,.string ⟨b.toArray⟩] w λe w'=>e=.returned (.bool (alikeB a b))∧Gr w w':=by
 by_cases hne:a.length=b.length
 ·go_enter func133,ntmps133
  have hlen:((a.length:Int) != b.length)=false:=by simp[hne]
  go_wp2
  go_loopw [5,13] (λ_ i wr=>(∃ k:Nat,k≤a.length∧i=.int .i64 k∧(a.take k).map lower=(b.take k).map lower)∧Gr w wr) (λ_ i _=>a.length - (intOf i).toNat)
  case atStart=>exact⟨⟨0,Nat.zero_le _,rfl,rfl⟩,Gr.refl _⟩
  case round =>
   obtain⟨⟨k,hk,rfl,hall⟩,hg⟩:=hrel
   have hall':=hid hall
   clear hall
   by_cases hlt:k<a.length
   ·have hlt':k<b.length:=by omega
    have hG':=hid hG
    clear hG
    obtain⟨ca,hca⟩:∃ c,(⟨a.toArray⟩:ByteArray)[k]'(by rw[size_mk];exact hlt)=c:=⟨_,rfl⟩
    obtain⟨cb,hcb⟩:∃ c,(⟨b.toArray⟩:ByteArray)[k]'(by rw[size_mk];exact hlt')=c:=⟨_,rfl⟩
    have eca:=hid (show a[k]=ca from hca)
    have ecb:=hid (show b[k]=cb from hcb)
    have hxa:(⟨a.toArray⟩:ByteArray).extract k (k+1)=⟨#[ca]⟩:=by rw[←hca];exact extract_one a k hlt
    have hxb:(⟨b.toArray⟩:ByteArray).extract k (k+1)=⟨#[cb]⟩:=by rw[←hcb];exact extract_one b k hlt'
    haveI:Nonempty (Later (Gr w)):=⟨⟨w,Gr.refl w⟩⟩
    have hg1:=hg.trans (Gr.drew' _)
    have next:lower ca=lower cb→(a.take (k+1)).map lower=(b.take (k+1)).map lower:=λe=>by
     rw[List.take_succ_eq_append_getElem hlt,List.take_succ_eq_append_getElem hlt',List.map_append,List.map_append,hall'.out];simp[eca.out,ecb.out,e]
    have bad:lower ca≠lower cb→alikeB a b=false:=λh=>alike_at hlt hlt' (by rw[eca.out,ecb.out];exact h)
    have next':=hid next
    have bad':=hid bad
    clear next bad
    by_cases hab:ca=cb
    ·have h1:((ca.toNat:Int) != cb.toNat)=false:=by rw[hab];simp
     have hab':=hid hab
     clear hab
     go_wp2
     refine wp_region_later (C:=Gr w) (by kernel_rfl) (by kernel_rfl) hg1 ?_
     repeat (go_big_quiet_step (fail))
     refine wpQuiet_nil ?_
     intro w2 hg2
     go_wp2
     go_roundw
     case rel=>exact⟨⟨k+1,by omega,by go_num,next'.out (by rw[hab'.out])⟩,hg2⟩
     case measure=>simp[intOf];omega
    ·have h1:((ca.toNat:Int) != cb.toNat)=true:=by rw[bne_iff_ne];intro e;exact hab (UInt8.toNat_inj.1 (by omega))
     have hab':=hid hab
     clear hab
     cases hA:isLetter ca
     ·have hA':=hid hA
      clear hA
      go_wp2
      refine wp_region_later (C:=Gr w) (by kernel_rfl) (by kernel_rfl) hg1 ?_
      repeat (go_big_quiet_step (exact letter_later _ false hA'.out _))
      refine wpQuiet_nil ?_
      intro w2 hg2
      go_wp2
      go_ret
      exact⟨ret_bool (bad'.out (lower_ne_of hab'.out (.inl hA'.out))).symm,hg2⟩
     ·have hA':=hid hA
      clear hA
      cases hB:isLetter cb
      ·have hB':=hid hB
       clear hB
       go_wp2
       refine wp_region_later (C:=Gr w) (by kernel_rfl) (by kernel_rfl) hg1 ?_
       repeat (go_big_quiet_step (first | with_reducible exact letter_later _ true hA'.out _ | with_reducible exact letter_later _ false hB'.out _))
       refine wpQuiet_nil ?_
       intro w2 hg2
       go_wp2
       go_ret
       exact⟨ret_bool (bad'.out (lower_ne_of hab'.out (.inr hB'.out))).symm,hg2⟩
      ·have hB':=hid hB
       clear hB
       go_wp2
       refine wp_region_later (C:=Gr w) (by kernel_rfl) (by kernel_rfl) hg1 ?_
       repeat (go_big_quiet_step (first | with_reducible exact letter_later _ true hA'.out _ | with_reducible exact letter_later _ true hB'.out _ | with_reducible exact small_later hG'.out _ hA'.out _ | with_reducible exact small_later hG'.out _ hB'.out _))
       refine wpQuiet_nil ?_
       intro w2 hg2
       go_wp2
       ·have ht:(!lower ca==lower cb)=true:=by assumption
        go_ret
        exact⟨ret_bool (bad'.out (by simpa using ht)).symm,hg2⟩
       ·have ht:(!lower ca==lower cb)=false:=by assumption
        go_roundw
        case rel=>exact⟨⟨k+1,by omega,by go_num,next'.out (by simpa using ht)⟩,hg2⟩
        case measure=>simp[intOf];omega
   ·go_wp2
    go_ret
    refine⟨ret_bool ?_,hg⟩
    have h:=hall'.out
    rw[List.take_of_length_le (by omega),List.take_of_length_le (by omega)] at h
    unfold alikeB
    rw[h];simp
 ·have hlen:((a.length:Int) != b.length)=true:=by rw[bne_iff_ne];omega
  go_enter func133,ntmps133
  go_wp2
  go_ret
  refine⟨ret_bool ?_,Gr.refl _⟩
  unfold alikeB
  exact (beq_eq_false_iff_ne.2 (λe=>hne (by simpa using congrArg List.length e))).symm
abbrev Fl:=List UInt8×List UInt8
def FieldsAt (w:World) (v:Value) (fs:List Fl):Prop :=
 ∃ p cap,v=.slice p fs.length cap∧∀ i,(hi:i<fs.length)→∃ b off,p=some ⟨b,off,none⟩∧w.cell? ⟨b,off+i*2,none⟩=some (.string ⟨fs[i].1.toArray⟩)∧w.cell? ⟨b,off+i*2+1,none⟩=some (.string ⟨fs[i].2.toArray⟩)
theorem FieldsAt.gr {w w':World} {v:Value} {fs:List Fl} (h:FieldsAt w v fs) (hb:Gr w w'):FieldsAt w' v fs:=by
 obtain⟨p,cap,hv,hc⟩:=h
 exact⟨p,cap,hv,λi hi=>let ⟨b,off,hp,h1,h2⟩:=hc i hi;⟨b,off,hp,hb.cell h1,hb.cell h2⟩⟩
def getB (fs:List Fl) (name:List UInt8):List UInt8×Nat :=
 (((fs.filter λf=>alikeB f.1 name).head?.map (·.2)).getD [],(fs.filter λf=>alikeB f.1 name).length)
theorem getB_snoc_f (l:List Fl) (f:Fl) (name:List UInt8) (h:alikeB f.1 name=false):getB (l++[f]) name=getB l name:=by
 unfold getB;rw[List.filter_append];simp[h]
theorem getB_snoc_0 (l:List Fl) (f:Fl) (name:List UInt8) (h:alikeB f.1 name=true) (h0:(getB l name).2=0):getB (l++[f]) name=(f.2,1):=by
 have h1:l.filter (λf=>alikeB f.1 name)=[]:=List.eq_nil_of_length_eq_zero h0
 unfold getB;rw[List.filter_append,h1];simp[h]
theorem getB_snoc_s (l:List Fl) (f:Fl) (name:List UInt8) (h:alikeB f.1 name=true) (h0:(getB l name).2≠0):getB (l++[f]) name=((getB l name).1,(getB l name).2+1):=by
 unfold getB at h0 ⊢
 simp only[List.filter_append]
 cases hl:l.filter (λf=>alikeB f.1 name) with
 | nil=>simp[hl] at h0
 | cons x t=>simp[h]
theorem getB_le (l:List Fl) (name:List UInt8):(getB l name).2≤l.length:=List.length_filter_le _ _
theorem get_any (v:Value) (fs:List Fl) (name:List UInt8) (w:World) (hG:G w) (hf:FieldsAt w v fs) (hn:fs.length≤9223372036854775807)
  (hl:∀ f∈fs,f.1.length≤9223372036854775807) (hln:name.length≤9223372036854775807) :
  Calls prog 131 #[v,.string ⟨name.toArray⟩] w λe w'=>e=.returned (.tuple #[.string ⟨(getB fs name).1.toArray⟩,.int .i64 (getB fs name).2])∧Gr w w':=by
 have hf0:=hid hf
 have hl':=hid hl
 have hG':=hid hG
 clear hl hG
 obtain⟨p,cap,rfl,hc⟩:=hf
 have hc':=hid hc
 clear hc
 go_enter func131,ntmps131
 go_wp2
 go_loopw [4,5,10] (λv m i wr=>(∃ k:Nat,k≤fs.length∧i=.int .i64 k∧v=.string ⟨(getB (fs.take k) name).1.toArray⟩∧m=.int .i64 (getB (fs.take k) name).2)∧Gr w wr) (λ_ _ i _=>fs.length - (intOf i).toNat)
 case atStart=>exact⟨⟨0,Nat.zero_le _,rfl,rfl,rfl⟩,Gr.refl _⟩
 case round =>
  obtain⟨⟨k,hk,rfl,rfl,rfl⟩,hg⟩:=hrel
  by_cases hlt:k<fs.length
  ·obtain⟨b,off,rfl,h1,h2⟩:=hc'.out k hlt
   have c1:=hg.cell h1
   have c2:=hg.cell h2
   clear h1 h2
   have hts:=hid (List.take_succ_eq_append_getElem hlt)
   have hle:=getB_le (fs.take k) name
   rw[List.length_take] at hle
   obtain⟨g,hgd⟩:∃ g,getB (fs.take k) name=g:=⟨_,rfl⟩
   have hgd':=hid hgd
   rw[hgd] at hle ⊢
   clear hgd
   obtain⟨f,hfd⟩:∃ f,fs[k]=f:=⟨_,rfl⟩
   have hmem:f∈fs:=hfd▸List.getElem_mem hlt
   rw[hfd] at c1 c2
   rw[hfd] at hts
   clear hfd
   cases ha:alikeB f.1 name
   all_goals have ha':=hid ha
   all_goals clear ha
   ·go_wp2_with fail
    refine (alike_any f.1 name _ (hG'.out.gr (hg.trans (Gr.alloc _ _))) (hl'.out f hmem) hln).mono ?_
    rintro e w2⟨rfl,hb⟩
    rw[ha'.out]
    go_wp2
    go_roundw
    case rel=>exact⟨⟨k+1,by omega,by go_num,by rw[hts.out,getB_snoc_f _ _ _ ha'.out,hgd'.out],by rw[hts.out,getB_snoc_f _ _ _ ha'.out,hgd'.out]⟩,(hg.trans (Gr.alloc _ _)).trans hb⟩
    case measure=>simp[intOf];omega
   ·by_cases h0:g.2=0
    ·have hb0:((g.2:Int)==0)=true:=by simp[h0]
     have h0':=hid h0
     clear h0
     go_wp2_with fail
     refine (alike_any f.1 name _ (hG'.out.gr (hg.trans (Gr.alloc _ _))) (hl'.out f hmem) hln).mono ?_
     rintro e w2⟨rfl,hb⟩
     rw[ha'.out]
     obtain⟨hce,hfr⟩:=hb.bcell
     go_wp2
     go_roundw
     case rel=>exact⟨⟨k+1,by omega,by go_num,by rw[hts.out,getB_snoc_0 _ _ _ ha'.out (by rw[hgd'.out];exact h0'.out)],by rw[hts.out,getB_snoc_0 _ _ _ ha'.out (by rw[hgd'.out];exact h0'.out),h0'.out];rfl⟩,(hg.trans (Gr.alloc _ _)).trans hb⟩
     case measure=>simp[intOf];omega
    ·have hb0:((g.2:Int)==0)=false:=by simp[h0]
     have h0':=hid h0
     clear h0
     go_wp2_with fail
     refine (alike_any f.1 name _ (hG'.out.gr (hg.trans (Gr.alloc _ _))) (hl'.out f hmem) hln).mono ?_
     rintro e w2⟨rfl,hb⟩
     rw[ha'.out]
     obtain⟨hce,hfr⟩:=hb.bcell
     go_wp2
     go_roundw
     case rel=>exact⟨⟨k+1,by omega,by go_num,by rw[hts.out,getB_snoc_s _ _ _ ha'.out (by rw[hgd'.out];exact h0'.out),hgd'.out],by rw[hts.out,getB_snoc_s _ _ _ ha'.out (by rw[hgd'.out];exact h0'.out),hgd'.out];go_num⟩,(hg.trans (Gr.alloc _ _)).trans hb⟩
     case measure=>simp[intOf];omega
  ·go_wp2
   go_ret2
   obtain rfl:k=fs.length:=by omega
   exact⟨by rw[List.take_length];rfl,hg⟩
end Go.Proofs.YtadobobfjnmdlaaGreatDoor
namespace Go.Proofs.YtadobobfjnmdlaaGreatDoor
def isBlank (c:UInt8):Bool:=c==9||c==32
def ldrop (l:List UInt8):List UInt8:=l.dropWhile isBlank
def rdrop (l:List UInt8):List UInt8:=(l.reverse.dropWhile isBlank).reverse
theorem blank_contains (c:UInt8):([32,9]:List UInt8).contains c=isBlank c:=by
 refine u8_all (p:=λc=>([32,9]:List UInt8).contains c=isBlank c) ?_ c
 decide +kernel
theorem trimB_eq (l:List UInt8):trimB l=ldrop (rdrop l):=by
 unfold trimB Lib.trimS Lib.trimLeftS Lib.trimRightS ldrop rdrop
 have:(λc=>([32,9]:List UInt8).contains c)=isBlank:=funext blank_contains
 rw[this]
theorem tok_58:isTok 58=false:=by decide +kernel
theorem occ_one (s:List UInt8) (c:UInt8) (i:Nat):Lib.occAt s [c] i=(s[i]?==some c):=by
 unfold Lib.occAt
 cases h:s.drop i with
 | nil =>
  have:s[i]?=none:=by rw[List.getElem?_eq_none];simpa using h
  simp[this]
 | cons x t =>
  have:s[i]?=some x:=by
   have:=congrArg (·[0]?) h
   simpa using this
  rw[this]
  show (c==x&&true)=(some x==some c)
  rw[Bool.and_true,Option.some_beq_some,Bool.beq_comm]
theorem cut_at {s:List UInt8} {c:UInt8} {k:Nat} (hk:k<s.length) (h:s[k]=c) (hb:∀ j,(hj:j<k)→s[j]'(by omega)≠c):Lib.cut s [c]=(s.take k,s.drop (k+1),true):=by
 have hi:Lib.index s [c]=k:=Lib.index_first (by omega) (by rw[occ_one];simp[hk,h]) (λj hj=>by
  rw[occ_one];simp[show j<s.length by omega,hb j hj])
 unfold Lib.cut
 rw[hi];simp
def up (c:UInt8):UInt8:=if 97≤c∧c≤122 then c - 32 else c
theorem tok_no58 {n:List UInt8} (h:tokB n=true):∀ j,(hj:j<n.length)→n[j]≠58:=λj hj e=>by
 unfold tokB at h
 rw[Bool.and_eq_true,List.all_eq_true] at h
 have:=h.2 n[j] (List.getElem_mem hj)
 rw[e,tok_58] at this;cases this
theorem cut_colon {n y:List UInt8} (h:tokB n=true):Lib.cut (n++[58]++y) [58]=(n,y,true):=by
 have:=cut_at (s:=n++[58]++y) (c:=58) (k:=n.length) (by simp) (by simp) (λj hj=>by
  have:=tok_no58 h j hj
  simpa[List.getElem_append,hj,show j<n.length+1 by omega] using this)
 rw[this]
 simp
theorem parse_colon {n y:List UInt8} (h:tokB n=true):parseB (n++[58]++y)=if y.all isVal then (n,trimB y,true) else ([],[],false):=by
 rw[parseB_eq (cut_colon h),h];simp
def isVis (c:UInt8):Bool:=33≤c&&c≤126
theorem vis_eq (c:UInt8):isVis c=decide (33≤(c.toNat:Int)∧(c.toNat:Int)≤126):=by
 rw[Bool.eq_iff_iff];simp[isVis,UInt8.le_iff_toNat_le];omega
def pH10:List UInt8:=[72,84,84,80,47,49,46,48]
def pH11:List UInt8:=[72,84,84,80,47,49,46,49]
def protoN (l:List UInt8):Nat:=if l=pH10 then 10 else if l=pH11 then 11 else 0
def lineB (l:List UInt8):List UInt8×List UInt8×Nat×Bool :=
 let m:=(Lib.cut l [32]).1
 let t:=(Lib.cut (Lib.cut l [32]).2.1 [32]).1
 let v:=protoN (Lib.cut (Lib.cut l [32]).2.1 [32]).2.1
 if t.all isVis&&(tokB m&&(!t.isEmpty&&v != 0)) then (m,t,v,true) else ([],[],0,false)
theorem lineB_eq {l m r t p:List UInt8} {c d:Bool} (h1:Lib.cut l [32]=(m,r,c)) (h2:Lib.cut r [32]=(t,p,d)) :
  lineB l=if t.all isVis&&(tokB m&&(!t.isEmpty&&protoN p != 0)) then (m,t,protoN p,true) else ([],[],0,false):=by
 unfold lineB;rw[h1];dsimp only;rw[h2]
def pmarks:List UInt8:=[45,46,95,126,33,36,38,39,40,41,42,43,44,59,61,58,64,47]
def hexesL:List UInt8:=[48,49,50,51,52,53,54,55,56,57,97,98,99,100,101,102,65,66,67,68,69,70]
def isPath (c:UInt8):Bool:=isLetter c||pmarks.contains c
def isHex (c:UInt8):Bool:=hexesL.contains c
def plainT (q:Bool):List UInt8→Bool
 | []=>true
 | c :: t =>
  if isPath c||(q&&c==63) then plainT q t
  else if c==37 then match t with
   | a :: b :: t'=>isHex a&&isHex b&&plainT q t'
   | _=>false
  else false
theorem plainT_path {q:Bool} {c:UInt8} (t:List UInt8) (h:(isPath c||(q&&c==63))=true):plainT q (c :: t)=plainT q t:=by
 conv=>lhs;unfold plainT
 rw[if_pos h]
theorem plainT_bad {q:Bool} {c:UInt8} (t:List UInt8) (h:(isPath c||(q&&c==63))=false) (h2:c≠37):plainT q (c :: t)=false:=by
 conv=>lhs;unfold plainT
 rw[if_neg (by rw[h];decide),if_neg (by simpa using h2)]
theorem path_37:isPath 37=false:=by decide +kernel
def pctT (q:Bool):List UInt8→Bool
 | a :: b :: t'=>isHex a&&isHex b&&plainT q t'
 | _=>false
theorem plainT_pct (q:Bool) (t:List UInt8):plainT q (37 :: t)=pctT q t:=by
 match t with
 | []=>cases q <;> rfl
 | [a]=>cases q <;> rfl
 | a :: b :: t'=>rw[plainT,if_neg (by rw[path_37];cases q <;> decide),if_pos (by decide)];rfl
def targetB (l:List UInt8):List UInt8×List UInt8×Bool :=
 let p:=(Lib.cut l [63]).1
 let q:=(Lib.cut l [63]).2.1
 if decide (l.length≤512)&&((Lib.hasPrefix p [47])&&(plainT false p&&plainT true q)) then (p,q,true) else ([],[],false)
def digB (c:UInt8):Bool:=48≤c&&c≤57
def aheadL:List UInt8:=[72,84,84,80,47,49,46,49,32]
structure Rq where
 m:List UInt8
 p:List UInt8
 q:List UInt8
 v:Int
 fs:List (List UInt8×List UInt8)
 b:List UInt8
 c:Bool
structure Rp where
 code:Int
 fs:List (List UInt8×List UInt8)
 b:List UInt8
def eolL:List UInt8:=[13,10]
def eol2:List UInt8:=[13,10,13,10]
def splitE:List UInt8→List (List UInt8)
 | []=>[[]]
 | c :: t =>
  if c=13∧t.head?=some 10 then [] :: splitE t.tail
  else match splitE t with
   | []=>[[c]]
   | l :: r=>(c :: l) :: r
termination_by l=>l.length
decreasing_by all_goals (simp;try omega)
theorem splitE_ne (l:List UInt8):splitE l≠[]:=by
 cases l with
 | nil=>simp[splitE]
 | cons c t =>
  unfold splitE
  split
  ·simp
  ·split <;> simp
theorem splitE_eol (t:List UInt8):splitE (13 :: 10 :: t)=[] :: splitE t:=by
 rw[splitE];simp
theorem splitE_other {c:UInt8} {t:List UInt8} (h:¬(c=13∧t.head?=some 10)):splitE (c :: t)=(c :: (splitE t).headD []) :: (splitE t).tail:=by
 rw[splitE,if_neg h]
 cases e:splitE t with
 | nil=>exact absurd e (splitE_ne t)
 | cons l r=>rfl
theorem splitE_at:∀ (i:Nat) (s:List UInt8),i≤s.length→Lib.occAt s eolL i=true→(∀ j,j<i→Lib.occAt s eolL j=false)→splitE s=s.take i :: splitE (s.drop (i+2))
 | 0,s,_,h,_=>by
  match s,h with
  | 13 :: 10 :: t,_=>rw[splitE_eol];rfl
  | [],h=>simp[Lib.occAt,eolL] at h
  | [a],h=>simp[Lib.occAt,eolL] at h
  | a :: b :: t,h =>
   simp[Lib.occAt,eolL] at h
   obtain⟨rfl,rfl⟩:=h
   rw[splitE_eol];rfl
 | i+1,[],hi,_,_=>by simp at hi
 | i+1,c :: t,hi,h,hno=>by
  have h0:=hno 0 (by omega)
  have hne:¬(c=13∧t.head?=some 10):=by
   rintro⟨rfl,h2⟩
   cases t with
   | nil=>simp at h2
   | cons d t=>simp at h2;subst h2;simp[Lib.occAt,eolL] at h0
  rw[splitE_other hne,splitE_at i t (by simpa using hi) h (λj hj=>hno (j+1) (by omega))]
  rfl
theorem splitE_none:∀ (s:List UInt8),(∀ j,j≤s.length→Lib.occAt s eolL j=false)→splitE s=[s]
 | [],_=>by simp[splitE]
 | c :: t,hno=>by
  have h0:=hno 0 (by omega)
  have hne:¬(c=13∧t.head?=some 10):=by
   rintro⟨rfl,h2⟩
   cases t with
   | nil=>simp at h2
   | cons d t=>simp at h2;subst h2;simp[Lib.occAt,eolL] at h0
  rw[splitE_other hne,splitE_none t (λj hj=>hno (j+1) (by simp;omega))]
  rfl
theorem splitK_eq:∀ (n:Nat) (s:List UInt8),s.length≤n→∀ f,s.length<f→Lib.splitK eolL 0 (Lib.countFrom eolL f s) s=splitE s
 | n,s,hn,f,hf=>by
  obtain⟨f,rfl⟩:∃ g,f=g+1:=⟨f - 1,by omega⟩
  rcases Lib.index_spec s eolL with⟨h,hno⟩ | ⟨i,h,hi,ho,hno⟩
  ·unfold Lib.countFrom
   rw[h,if_pos (by decide)]
   rw[splitE_none s hno];rfl
  ·have hroom:=Lib.index_room s eolL (by rw[h];omega)
   rw[h] at hroom
   have hl2:eolL.length=2:=rfl
   rw[hl2] at hroom
   unfold Lib.countFrom
   rw[h,if_neg (by intro e;have:=eq_of_beq e;omega),Nat.add_comm 1]
   unfold Lib.splitK
   rw[h,if_neg (by intro e;have:=eq_of_beq e;omega),Int.toNat_natCast,hl2,Nat.add_zero]
   rw[splitE_at i s hi ho (λj hj=>hno j hj)]
   cases n with
   | zero=>omega
   | succ n =>
    rw[splitK_eq n (s.drop (i+2)) (by rw[List.length_drop];omega) f (by rw[List.length_drop];omega)]
theorem split_eq (s:List UInt8):Lib.split s eolL=splitE s:=splitK_eq s.length s (Nat.le_refl _) _ (Nat.lt_succ_self _)
def kLen:List UInt8:=[67,111,110,116,101,110,116,45,76,101,110,103,116,104]
def kCod:List UInt8:=[84,114,97,110,115,102,101,114,45,69,110,99,111,100,105,110,103]
def kHold:List UInt8:=[67,111,110,110,101,99,116,105,111,110]
def kEnds:List UInt8:=[99,108,111,115,101]
def reasonL (c:Int):List UInt8 :=
 if c=101 then [83,119,105,116,99,104,105,110,103,32,80,114,111,116,111,99,111,108,115]
 else if c=200 then [79,75]
 else if c=400 then [66,97,100,32,82,101,113,117,101,115,116]
 else if c=403 then [70,111,114,98,105,100,100,101,110]
 else if c=404 then [78,111,116,32,70,111,117,110,100]
 else if c=405 then [77,101,116,104,111,100,32,78,111,116,32,65,108,108,111,119,101,100]
 else if c=413 then [67,111,110,116,101,110,116,32,84,111,111,32,76,97,114,103,101]
 else if c=426 then [85,112,103,114,97,100,101,32,82,101,113,117,105,114,101,100]
 else if c=431 then [82,101,113,117,101,115,116,32,72,101,97,100,101,114,32,70,105,101,108,100,115,32,84,111,111,32,76,97,114,103,101]
 else [83,116,97,116,117,115]
def bareB (c:Int):Bool:=decide (c<200)||(c==204||c==304)
def fieldOk (c:Int) (f:List UInt8×List UInt8):Bool :=
 decide (parseB (f.1++[58]++f.2)=(f.1,f.2,true))&&!(alikeB f.1 kLen||(alikeB f.1 kCod||(c != 101&&alikeB f.1 kHold)))
def rightR (r:Rp):Bool :=
 decide (100≤r.code)&&(decide (r.code≤599)&&(!(bareB r.code&&!r.b.isEmpty)&&(decide (r.b.length≤65536)&&r.fs.all (fieldOk r.code))))
def linesR (r:Rp) (close:Bool):List (List UInt8) :=
 [aheadL++Lib.itoa r.code++[32]++reasonL r.code]++r.fs.map (λf=>f.1++[58,32]++f.2)++(if bareB r.code then [] else [kLen++[58,32]++Lib.itoa r.b.length])++(if close then [kHold++[58,32]++kEnds] else [])
def headR (r:Rp) (close:Bool):List UInt8:=(linesR r close).flatMap (·++eolL)++eolL
def bytesR (r:Rp) (head close:Bool):Option (List UInt8) :=
 if !rightR r||(close&&r.code==101) then none else some (headR r close++if head then [] else r.b)
