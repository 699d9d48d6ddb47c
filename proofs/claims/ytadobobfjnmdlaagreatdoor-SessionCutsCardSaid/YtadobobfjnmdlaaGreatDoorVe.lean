/-
  Replies: the bytes of one.
-/
import Derived.Test.YtadobobfjnmdlaaGreatDoorVa
set_option linter.unnecessarySimpa false
set_option linter.unusedVariables false
set_option linter.unusedSimpArgs false
set_option maxHeartbeats 16000000
set_option maxRecDepth 100000
open Go.Lib (hid)
open Go.Proofs.Tryz
namespace Go.Proofs.YtadobobfjnmdlaaGreatDoor
open Go.RowKit
attribute [local go_sem] Oper.semAt_some
theorem Bld.keep {B b:Nat} {bs:List Value} {W W':World} (h:Bld B b bs W) (hg:Gr W W') (_hb:B≤W.heap.size):Bld B b bs W':=by
 have key:∀ p,Lib.BuilderAt 147 5 B b p bs W→Lib.BuilderAt 147 5 B b p bs W':=λp h=>by
  obtain⟨hB,v,hbk,hown,hne⟩:=h
  have hlt:b<W.heap.size:=by
   rcases Nat.lt_or_ge b W.heap.size with h' | h'
   ·exact h'
   ·simp[Array.getElem?_eq_none h'] at hbk
  refine⟨hB,v,(Below.block hg b hlt).trans hbk,⟨hown.1,?_⟩,hne⟩
  rcases hown.2 with h2 | ⟨g,cap,cur,rfl,hb,hh,hn2,hm,hcs,ht⟩
  ·exact .inl h2
  ·exact .inr ⟨g,cap,cur,rfl,hb,(Below.block hg g (Array.getElem?_eq_some_iff.1 hh).1).trans hh,hn2,hm,hcs,ht⟩
 exact h.imp (key _) (key _)
def byteV (o:Option (List UInt8)):Value:=match o with
 | some s=>.tuple #[.string ⟨s.toArray⟩,.int .i64 0]
 | none=>.tuple #[.string ⟨#[]⟩,.int .i64 1]
def fline (f:List UInt8×List UInt8):List UInt8:=f.1++[58,32]++f.2++eolL
def line1 (c:Int):List UInt8:=aheadL++Lib.itoa c++[32]++reasonL c++eolL
def lineN (r:Rp):List UInt8:=if bareB r.code then [] else kLen++[58,32]++Lib.itoa r.b.length++eolL
def lineC (close:Bool):List UInt8:=if close then kHold++[58,32]++kEnds++eolL else []
theorem head_eq (r:Rp) (close:Bool):headR r close=line1 r.code++r.fs.flatMap fline++lineN r++lineC close++eolL:=by
 unfold headR linesR line1 lineN lineC fline
 cases bareB r.code <;> cases close <;> simp[List.flatMap_append,List.flatMap_map]
theorem reason_len (c:Int):(reasonL c).length≤31:=by
 unfold reasonL
 repeat' split
 all_goals decide
theorem bcat2 (out:List UInt8) (s:List UInt8):Lib.byteCells out++Lib.strCells ⟨s.toArray⟩=Lib.byteCells (out++s):=by simp[Lib.byteCells,Lib.strCells]
theorem bclen (l:List UInt8):(Lib.byteCells l).length=l.length:=by simp[Lib.byteCells]
theorem reason_later (C:World→Prop) {c:Int} {s:List UInt8} (h:reasonL c=s) (x:Later C):Calls prog 71 #[.int .i64 c] x.w λe w'=>e=.returned (.string ⟨s.toArray⟩)∧∃ z:Later C,w'=z.w :=
 Calls.later ((reason_any c x.w).mono λ_ _ ⟨h1,h2⟩=>⟨h▸h1,h2▸x.ok⟩)
theorem wr_any (b:Nat) (out s:List UInt8) (W:World) (h:Bld b b (Lib.byteCells out) W) (hl:out.length+s.length≤140737488355328) (hB:b≤W.heap.size) :
  Calls prog 115 #[.pointer (some ⟨b,0,none⟩),.string ⟨s.toArray⟩] W λe w'=>e=.returned (.tuple #[.int .i64 s.length,.nilIface])∧Bld b b (Lib.byteCells (out++s)) w'∧Below b W w' :=
 (writeString_any b b (Lib.byteCells out) ⟨s.toArray⟩ W h (by rw[bclen,size_mk];exact hl) hB).mono λ_ _ ⟨h1,h2,h3⟩=>⟨by rw[h1,size_mk],by rw[bcat2] at h2;exact h2,h3⟩
theorem fl_len:∀ (fs:List (List UInt8×List UInt8)),(∀ f∈fs,f.1.length≤1000000∧f.2.length≤1000000)→(fs.flatMap fline).length≤fs.length*2000004
 | [],_=>by simp
 | f :: t,h=>by
  have h1:=h f (by simp)
  have h2:=fl_len t (λx hx=>h x (by simp[hx]))
  rw[List.flatMap_cons,List.length_append,List.length_cons]
  have:(fline f).length≤2000004:=by unfold fline eolL;simp only[List.length_append,List.length_cons,List.length_nil];omega
  omega
theorem fl_take (fs:List (List UInt8×List UInt8)) (k:Nat) (h:k<fs.length):(fs.take (k+1)).flatMap fline=(fs.take k).flatMap fline++fline fs[k]:=by
 rw[List.take_succ_eq_append_getElem h,List.flatMap_append];simp
theorem bytes_ways (R close:Bool) (c:Int):(R=false∧(!R||(close&&c==101))=true)∨(R=true∧close=true∧(c==101)=true∧(!R||(close&&c==101))=true)∨(R=true∧close=true∧(c==101)=false∧(!R||(close&&c==101))=false)∨(R=true∧close=false∧True∧(!R||(close&&c==101))=false):=by
 cases R <;> cases close <;> cases (c==101) <;> simp
theorem bytes_any (r:Rp) (t:Value) (head close:Bool) (w:World) (hG:G w) (hf:FieldsAt w t r.fs) (hlf:r.fs.length≤1000000) (hs:∀ f∈r.fs,f.1.length≤1000000∧f.2.length≤1000000) (hlb:r.b.length≤1000000) (hcr:-9223372036854775808≤r.code∧r.code≤9223372036854775807) :
  Calls prog 94 #[r.V t,.bool head,.bool close] w λe w'=>e=.returned (byteV (bytesR r head close))∧Gr w w':=by
 have hG':=hid hG
 have hs':=hid hs
 have hf':=hid hf
 have hri:=hid (λW (hg:Gr w W)=>right_any r t W (hG.gr hg) (hf.gr hg) hlf hs (by omega))
 obtain⟨p,cap,rfl,hc⟩:=hf
 have hc':=hid hc
 obtain⟨R,hR⟩:∃ R,rightR r=R:=⟨_,rfl⟩
 rw[hR] at hri
 have hby:bytesR r head close=if (!R||(close&&r.code==101))=true then none else some (headR r close++if head then [] else r.b):=by unfold bytesR;rw[hR]
 have hways:=bytes_ways R close r.code
 obtain⟨O,hO⟩:∃ O,bytesR r head close=O:=⟨_,rfl⟩
 rw[hO] at hby ⊢
 have hhd:=head_eq r close
 obtain⟨T,hT⟩:∃ T,headR r close=T:=⟨_,rfl⟩
 rw[hT] at hby hhd
 have hhd':=hid hhd
 clear hc hs hG hR hO hT hhd
 obtain⟨c,fs,b⟩:=r
 unfold Rp.V at hri ⊢
 dsimp only at hc' hs' hways hlf hlb hby hri hhd' hf' hcr ⊢
 have g0:=hid (Gr.alloc w (.cells #[.int .i64 c,.slice p fs.length cap,.string ⟨b.toArray⟩] 51))
 have n0:(w.alloc (.cells #[.int .i64 c,.slice p fs.length cap,.string ⟨b.toArray⟩] 51)).cell? ⟨w.heap.size,0,none⟩=some (.int .i64 c):=by simp[go_sem]
 have n1:(w.alloc (.cells #[.int .i64 c,.slice p fs.length cap,.string ⟨b.toArray⟩] 51)).cell? ⟨w.heap.size,1,none⟩=some (.slice p fs.length cap):=by simp[go_sem]
 have n2:(w.alloc (.cells #[.int .i64 c,.slice p fs.length cap,.string ⟨b.toArray⟩] 51)).cell? ⟨w.heap.size,2,none⟩=some (.string ⟨b.toArray⟩):=by simp[go_sem]
 go_enter func94,ntmps94
 go_wp2_with fail
 refine (hri.out _ g0.out).mono ?_
 rintro e w1⟨rfl,hb1⟩
 replace n0:=hb1.cell n0
 replace n1:=hb1.cell n1
 replace n2:=hb1.cell n2
 have g1:=hid (g0.out.trans hb1)
 clear hb1
 rcases hways with⟨rfl,hw⟩ | ⟨rfl,rfl,hw1,hw⟩ | ⟨rfl,rfl,hw1,hw⟩ | ⟨rfl,rfl,hw1,hw⟩
 ·have hfin:=hid (show O=none by rw[hby,if_pos hw])
  go_wp2
  go_ret2
  exact⟨by rw[hfin.out];rfl,g1.out⟩
 ·have hfin:=hid (show O=none by rw[hby,if_pos hw])
  go_wp2
  go_ret2
  exact⟨by rw[hfin.out];rfl,g1.out⟩
 ·have hfin:=hid (show O=some (T++if head then [] else b) by rw[hby,if_neg (by rw[hw];decide)])
  go_upto_region 4 with (fail)
  clear hw hby
  have hbl:=hid (show Bld w1.heap.size w1.heap.size (Lib.byteCells []) (w1.alloc (.cells #[.pointer none,.slice none 0 0] 147)) from Lib.fresh_isBuilder _ _ w1)
  have gb:=Gr.alloc w1 (.cells #[.pointer none,.slice none 0 0] 147)
  generalize (w1.alloc (.cells #[.pointer none,.slice none 0 0] 147))=w2 at hbl gb ⊢
  obtain⟨bb,hbb⟩:∃ x,w1.heap.size=x:=⟨_,rfl⟩
  have hlw:w.heap.size<bb:=hbb▸cell_lt n0
  rw[hbb] at hbl ⊢
  have hbz:=hid (show bb≤w2.heap.size from hbb▸gb.size)
  have g2:=hid (g1.out.trans gb)
  replace n0:=gb.cell n0
  replace n1:=gb.cell n1
  replace n2:=gb.cell n2
  clear gb hbb
  obtain⟨it,hit⟩:∃ x,Lib.itoa c=x:=⟨_,rfl⟩
  obtain⟨rs,hrs⟩:∃ x,reasonL c=x:=⟨_,rfl⟩
  have hl1:line1 c=aheadL++it++[32]++rs++eolL:=by unfold line1;rw[hit,hrs]
  have hitl:it.length≤21:=by rw[←hit];exact Lib.itoa_length_le c hcr.1 hcr.2
  have hrsl:rs.length≤31:=by rw[←hrs];exact reason_len c
  have k1:(⟨#[72,84,84,80,47,49,46,49,32]⟩:ByteArray)++⟨it.toArray⟩=⟨(aheadL++it).toArray⟩:=cat_mk aheadL it
  have z1:¬9223372036854775807<9+it.length:=by omega
  obtain⟨s1,hs1⟩:∃ x,aheadL++it=x:=⟨_,rfl⟩
  have hs1l:s1.length≤30:=by rw[←hs1,List.length_append];show 9+_≤_;omega
  rw[hs1] at k1 hl1
  have k2:(⟨s1.toArray⟩:ByteArray)++⟨#[32]⟩=⟨(s1++[32]).toArray⟩:=cat_mk s1 [32]
  have z2:¬9223372036854775807<s1.length+1:=by omega
  obtain⟨s2,hs2⟩:∃ x,s1++[32]=x:=⟨_,rfl⟩
  have hs2l:s2.length≤31:=by rw[←hs2,List.length_append];show _+1≤_;omega
  rw[hs2] at k2 hl1
  have k3:(⟨s2.toArray⟩:ByteArray)++⟨rs.toArray⟩=⟨(s2++rs).toArray⟩:=cat_mk s2 rs
  have z3:¬9223372036854775807<s2.length+rs.length:=by omega
  obtain⟨s3,hs3⟩:∃ x,s2++rs=x:=⟨_,rfl⟩
  have hs3l:s3.length≤62:=by rw[←hs3,List.length_append];omega
  rw[hs3] at k3 hl1
  have k4:(⟨s3.toArray⟩:ByteArray)++⟨#[13,10]⟩=⟨(s3++eolL).toArray⟩:=cat_mk s3 eolL
  have z4:¬9223372036854775807<s3.length+2:=by omega
  obtain⟨s4,hs4⟩:∃ x,s3++eolL=x:=⟨_,rfl⟩
  have hs4l:s4.length≤64:=by rw[←hs4,List.length_append];show _+2≤_;omega
  rw[hs4] at k4 hl1
  have hit':=hid hit
  have hrs':=hid hrs
  have hl1':=hid hl1
  have hcr':=hid hcr
  clear hit hrs hs1 hs2 hs3 hs4 hl1 hcr
  have t0:∀ y:Later (Gr w2),y.w.cell? ⟨w.heap.size,0,none⟩=some (.int .i64 c):=λy=>y.ok.cell n0
  haveI:Nonempty (Later (Gr w2)):=⟨⟨w2,Gr.refl w2⟩⟩
  refine wp_region_later_tail (C:=Gr w2) 10 (by kernel_rfl) (by kernel_rfl) (Gr.drew' _) ?_
  simp only[List.take_succ_cons,List.take_zero,List.drop_succ_cons,List.drop_zero]
  repeat (go_big_quiet_step (first | with_reducible exact itoa_later _ hcr'.out.1 hcr'.out.2 _ hit'.out (hG'.out.gr g2.out) _ | with_reducible exact reason_later _ hrs'.out _))
  refine wpQuiet_nil ?_
  intro w9 hg9
  replace n0:=hg9.cell n0
  replace n1:=hg9.cell n1
  replace n2:=hg9.cell n2
  have hbl9:=hid (hbl.out.keep hg9 hbz.out)
  have hbz9:=hid (Nat.le_trans hbz.out hg9.size)
  have g9:=hid (g2.out.trans hg9)
  clear hg9 t0 k1 k2 k3 k4 z1 z2 z3 z4
  go_wp2_with fail
  refine (wr_any bb [] s4 _ hbl9.out (by simp;omega) hbz9.out).mono ?_
  rintro e w3⟨rfl,hb3,hg3⟩
  rw[List.nil_append] at hb3
  have hbl3:=hid hb3
  have hbz3:=hid (Nat.le_trans hbz9.out hg3.size)
  replace n0:=(Below.cell hg3 (p:=⟨w.heap.size,0,none⟩) hlw).trans n0
  replace n1:=(Below.cell hg3 (p:=⟨w.heap.size,1,none⟩) hlw).trans n1
  replace n2:=(Below.cell hg3 (p:=⟨w.heap.size,2,none⟩) hlw).trans n2
  have g3:=hid (show Gr w w3 from Below.trans g9.out (Below.mono hg3 (Nat.le_of_lt hlw)))
  clear hb3 hg3
  go_wp2
  go_loopw [36] (λi W=>∃ k:Nat,k≤fs.length∧i=.int .i64 k∧Bld bb bb (Lib.byteCells (s4++(fs.take k).flatMap fline)) W∧Below bb w3 W) (λi _=>fs.length - (intOf i).toNat)
  case atStart=>exact⟨0,Nat.zero_le _,rfl,by simpa using hbl3.out,Below.refl _ _⟩
  case round =>
   obtain⟨k,hk,rfl,hB,hg⟩:=hrel
   have hB':=hid hB
   have hg':=hid hg
   have hbz4:=hid (Nat.le_trans hbz3.out hg.size)
   replace n0:=(Below.cell hg (p:=⟨w.heap.size,0,none⟩) hlw).trans n0
   replace n1:=(Below.cell hg (p:=⟨w.heap.size,1,none⟩) hlw).trans n1
   replace n2:=(Below.cell hg (p:=⟨w.heap.size,2,none⟩) hlw).trans n2
   have gw:=hid (show Gr w wr from Below.trans g3.out (Below.mono hg (Nat.le_of_lt hlw)))
   have hol:(s4++(fs.take k).flatMap fline).length≤64+k*2000004:=by
    rw[List.length_append]
    have:=fl_len (fs.take k) (λf hf=>hs'.out f (List.mem_of_mem_take hf))
    rw[List.length_take] at this
    have h2:min k fs.length=k:=by omega
    rw[h2] at this
    omega
   clear hB hg
   by_cases hlt:k<fs.length
   ·obtain⟨bf,off,rfl,d1,d2⟩:=hc'.out k hlt
    replace d1:=gw.out.cell d1
    replace d2:=gw.out.cell d2
    have hxs:=hs'.out _ (List.getElem_mem hlt)
    have hnx:=fl_take fs k hlt
    obtain⟨⟨xn,xv⟩,hx⟩:∃ x,fs[k]=x:=⟨_,rfl⟩
    rw[hx] at d1 d2 hxs hnx
    dsimp only at d1 d2 hxs
    have hfe:fline (xn,xv)=xn++[58,32]++xv++eolL:=rfl
    have hkI:(k:Int)<fs.length:=by omega
    have k1:(⟨xn.toArray⟩:ByteArray)++⟨#[58,32]⟩=⟨(xn++[58,32]).toArray⟩:=cat_mk xn [58,32]
    have z1:¬9223372036854775807<xn.length+2:=by omega
    obtain⟨c1,hc1⟩:∃ x,xn++[58,32]=x:=⟨_,rfl⟩
    have hc1l:c1.length≤1000002:=by rw[←hc1,List.length_append];show _+2≤_;omega
    rw[hc1] at k1 hfe
    have k2:(⟨c1.toArray⟩:ByteArray)++⟨xv.toArray⟩=⟨(c1++xv).toArray⟩:=cat_mk c1 xv
    have z2:¬9223372036854775807<c1.length+xv.length:=by omega
    obtain⟨c2,hc2⟩:∃ x,c1++xv=x:=⟨_,rfl⟩
    have hc2l:c2.length≤2000002:=by rw[←hc2,List.length_append];omega
    rw[hc2] at k2 hfe
    have k3:(⟨c2.toArray⟩:ByteArray)++⟨#[13,10]⟩=⟨(c2++eolL).toArray⟩:=cat_mk c2 eolL
    have z3:¬9223372036854775807<c2.length+2:=by omega
    obtain⟨c3,hc3⟩:∃ x,c2++eolL=x:=⟨_,rfl⟩
    have hc3l:c3.length≤2000004:=by rw[←hc3,List.length_append];show _+2≤_;omega
    rw[hc3] at k3 hfe
    rw[hfe] at hnx
    have hnx':=hid hnx
    obtain⟨out,hout⟩:∃ o,s4++(fs.take k).flatMap fline=o:=⟨_,rfl⟩
    have hout':=hid hout
    rw[hout] at hB' hol
    clear hc1 hc2 hc3 hfe hnx hx hxs hout
    go_upto_region 8 with (fail)
    have x0:(wr.alloc (.cells #[.string ⟨xn.toArray⟩,.string ⟨xv.toArray⟩] 80)).cell? ⟨wr.heap.size,0,none⟩=some (.string ⟨xn.toArray⟩):=cell_new7 wr [.string ⟨xn.toArray⟩,.string ⟨xv.toArray⟩] _ 0 _ rfl
    have x1:(wr.alloc (.cells #[.string ⟨xn.toArray⟩,.string ⟨xv.toArray⟩] 80)).cell? ⟨wr.heap.size,1,none⟩=some (.string ⟨xv.toArray⟩):=cell_new7 wr [.string ⟨xn.toArray⟩,.string ⟨xv.toArray⟩] _ 1 _ rfl
    have gx:Gr wr (wr.alloc (.cells #[.string ⟨xn.toArray⟩,.string ⟨xv.toArray⟩] 80)):=Gr.alloc _ _
    generalize wr.alloc (.cells #[.string ⟨xn.toArray⟩,.string ⟨xv.toArray⟩] 80)=w5 at x0 x1 gx ⊢
    have hB5:=hid (hB'.out.keep gx hbz4.out)
    have hbz5:=hid (Nat.le_trans hbz4.out gx.size)
    have hg5:=hid (Below.trans hg'.out (Below.mono gx hbz4.out))
    clear gx d1 d2 n0 n1 n2
    go_wp2_with fail
    refine (wr_any bb out c3 _ hB5.out (by omega) hbz5.out).mono ?_
    rintro e w6⟨rfl,hb6,hg6⟩
    have hb6':=hid (show Bld bb bb (Lib.byteCells (s4++(fs.take (k+1)).flatMap fline)) w6 by
     rw[hnx'.out,←List.append_assoc,hout'.out];exact hb6)
    have hg6':=hid (Below.trans hg5.out hg6)
    clear hb6 hg6 x0 x1
    go_wp2
    go_roundw
    case rel=>exact⟨k+1,by omega,by go_num,hb6'.out,hg6'.out⟩
    case measure=>simp[intOf];omega
   ·obtain rfl:k=fs.length:=by omega
    rw[List.take_length] at hB' hol
    have hltN:¬(fs.length:Int)<fs.length:=by omega
    obtain⟨out,hout⟩:∃ o,s4++fs.flatMap fline=o:=⟨_,rfl⟩
    rw[hout] at hB' hol
    have hT0:=hid (show T=out++lineN ⟨c,fs,b⟩++lineC _++eolL from by rw[hhd'.out,hl1'.out,←hout])
    have hol2:out.length≤3000000000000:=by omega
    clear hout hol
    have hBwr:=hid hB'.out
    have hzwr:=hid hbz4.out
    have hGwr:=hid hg'.out
    have hzb:=barec_any c
    cases hbare:bareB c
    ·rw[hbare] at hzb
     obtain⟨nt,hnt⟩:∃ x,Lib.itoa (b.length:Int)=x:=⟨_,rfl⟩
     have hntl:nt.length≤21:=by rw[←hnt];exact Lib.itoa_length_le _ (by omega) (by omega)
     have k5:(⟨#[67,111,110,116,101,110,116,45,76,101,110,103,116,104,58,32]⟩:ByteArray)++⟨nt.toArray⟩=⟨(kLen++[58,32]++nt).toArray⟩:=cat_mk (kLen++[58,32]) nt
     have z5:¬9223372036854775807<16+nt.length:=by omega
     obtain⟨e1,he1⟩:∃ x,kLen++[58,32]++nt=x:=⟨_,rfl⟩
     have he1l:e1.length≤40:=by rw[←he1];simp[kLen];omega
     rw[he1] at k5
     have k6:(⟨e1.toArray⟩:ByteArray)++⟨#[13,10]⟩=⟨(e1++eolL).toArray⟩:=cat_mk e1 eolL
     have z6:¬9223372036854775807<e1.length+2:=by omega
     obtain⟨e2,he2⟩:∃ x,e1++eolL=x:=⟨_,rfl⟩
     have he2l:e2.length≤42:=by rw[←he2,List.length_append];show _+2≤_;omega
     rw[he2] at k6
     have hTT:=hid (show T=out++e2++[67,111,110,110,101,99,116,105,111,110,58,32,99,108,111,115,101,13,10]++[13,10] from by
      rw[hT0.out];unfold lineN;rw[hbare];dsimp only;rw[if_neg (by decide),hnt,he1,he2];rfl)
     have hnt':=hid hnt
     have hitc:=hid (λW hGW=>itoa_any (b.length:Int) (by omega) (by omega) W hGW)
     rw[hnt] at hitc
     clear hnt he1 he2 hbare
     go_wp2_with (go_at_call 117;refine (hzb _).mono ?_;rintro e w' ⟨rfl,rfl⟩)
     refine (hitc.out _ (hG'.out.gr gw.out)).mono ?_
     rintro e wi⟨rfl,hgi⟩
     have hBwi:=hid (hBwr.out.keep hgi hzwr.out)
     have hzwi:=hid (Nat.le_trans hzwr.out hgi.size)
     have hGwi:=hid (Below.trans hGwr.out (Below.mono hgi hzwr.out))
     replace n2:=hgi.cell n2
     clear hgi
     go_wp2_with fail
     refine (wr_any bb out e2 _ hBwi.out (by first | omega | (simp[eolL,kHold,kEnds];omega)) hzwi.out).mono ?_
     rintro e wn⟨rfl,hbw,hgw⟩
     have hBwn:=hid hbw
     have hzwn:=hid (Nat.le_trans hzwi.out hgw.size)
     have hGwn:=hid (Below.trans hGwi.out hgw)
     replace n2:=(Below.cell hgw (p:=⟨w.heap.size,2,none⟩) hlw).trans n2
     clear hbw hgw
     go_wp2_with fail
     refine (wr_any bb (out++e2) [67,111,110,110,101,99,116,105,111,110,58,32,99,108,111,115,101,13,10] _ hBwn.out (by first | omega | (simp;omega)) hzwn.out).mono ?_
     rintro e wc⟨rfl,hbw,hgw⟩
     have hBwc:=hid hbw
     have hzwc:=hid (Nat.le_trans hzwn.out hgw.size)
     have hGwc:=hid (Below.trans hGwn.out hgw)
     replace n2:=(Below.cell hgw (p:=⟨w.heap.size,2,none⟩) hlw).trans n2
     clear hbw hgw
     go_wp2_with fail
     refine (wr_any bb ((out++e2)++[67,111,110,110,101,99,116,105,111,110,58,32,99,108,111,115,101,13,10]) [13,10] _ hBwc.out (by first | omega | (simp;omega)) hzwc.out).mono ?_
     rintro e we⟨rfl,hbw,hgw⟩
     have hBwe:=hid hbw
     have hzwe:=hid (Nat.le_trans hzwc.out hgw.size)
     have hGwe:=hid (Below.trans hGwc.out hgw)
     replace n2:=(Below.cell hgw (p:=⟨w.heap.size,2,none⟩) hlw).trans n2
     clear hbw hgw
     cases head with
     | true =>
      go_wp2_with fail
      refine (Tryz.Builder_String_any bb bb (((out++e2)++[67,111,110,110,101,99,116,105,111,110,58,32,99,108,111,115,101,13,10])++[13,10]) _ hBwe.out hzwe.out).mono ?_
      rintro e wf⟨rfl,hgf⟩
      have hGf:=hid (Below.trans hGwe.out hgf)
      clear hgf
      go_wp2
      go_ret2
      exact⟨by rw[hfin.out,hTT.out];simp[byteV],Below.trans g3.out (Below.mono hGf.out (Nat.le_of_lt hlw))⟩
     | false =>
      go_wp2_with fail
      refine (wr_any bb (((out++e2)++[67,111,110,110,101,99,116,105,111,110,58,32,99,108,111,115,101,13,10])++[13,10]) b _ hBwe.out (by first | omega | (simp;omega)) hzwe.out).mono ?_
      rintro e wb⟨rfl,hbw,hgw⟩
      have hBwb:=hid hbw
      have hzwb:=hid (Nat.le_trans hzwe.out hgw.size)
      have hGwb:=hid (Below.trans hGwe.out hgw)
      replace n2:=(Below.cell hgw (p:=⟨w.heap.size,2,none⟩) hlw).trans n2
      clear hbw hgw
      go_wp2_with fail
      refine (Tryz.Builder_String_any bb bb ((((out++e2)++[67,111,110,110,101,99,116,105,111,110,58,32,99,108,111,115,101,13,10])++[13,10])++b) _ hBwb.out hzwb.out).mono ?_
      rintro e wf⟨rfl,hgf⟩
      have hGf:=hid (Below.trans hGwb.out hgf)
      clear hgf
      go_wp2
      go_ret2
      exact⟨by rw[hfin.out,hTT.out];simp[byteV],Below.trans g3.out (Below.mono hGf.out (Nat.le_of_lt hlw))⟩
    ·rw[hbare] at hzb
     have hTT:=hid (show T=out++[67,111,110,110,101,99,116,105,111,110,58,32,99,108,111,115,101,13,10]++[13,10] from by
      rw[hT0.out];unfold lineN;rw[hbare];dsimp only;rw[if_pos rfl];simp[lineC,eolL,kHold,kEnds])
     clear hbare
     go_wp2_with (go_at_call 117;refine (hzb _).mono ?_;rintro e w' ⟨rfl,rfl⟩)
     refine (wr_any bb (out) [67,111,110,110,101,99,116,105,111,110,58,32,99,108,111,115,101,13,10] _ hBwr.out (by first | omega | (simp;omega)) hzwr.out).mono ?_
     rintro e wc⟨rfl,hbw,hgw⟩
     have hBwc:=hid hbw
     have hzwc:=hid (Nat.le_trans hzwr.out hgw.size)
     have hGwc:=hid (Below.trans hGwr.out hgw)
     replace n2:=(Below.cell hgw (p:=⟨w.heap.size,2,none⟩) hlw).trans n2
     clear hbw hgw
     go_wp2_with fail
     refine (wr_any bb ((out)++[67,111,110,110,101,99,116,105,111,110,58,32,99,108,111,115,101,13,10]) [13,10] _ hBwc.out (by first | omega | (simp;omega)) hzwc.out).mono ?_
     rintro e we⟨rfl,hbw,hgw⟩
     have hBwe:=hid hbw
     have hzwe:=hid (Nat.le_trans hzwc.out hgw.size)
     have hGwe:=hid (Below.trans hGwc.out hgw)
     replace n2:=(Below.cell hgw (p:=⟨w.heap.size,2,none⟩) hlw).trans n2
     clear hbw hgw
     cases head with
     | true =>
      go_wp2_with fail
      refine (Tryz.Builder_String_any bb bb (((out)++[67,111,110,110,101,99,116,105,111,110,58,32,99,108,111,115,101,13,10])++[13,10]) _ hBwe.out hzwe.out).mono ?_
      rintro e wf⟨rfl,hgf⟩
      have hGf:=hid (Below.trans hGwe.out hgf)
      clear hgf
      go_wp2
      go_ret2
      exact⟨by rw[hfin.out,hTT.out];simp[byteV],Below.trans g3.out (Below.mono hGf.out (Nat.le_of_lt hlw))⟩
     | false =>
      go_wp2_with fail
      refine (wr_any bb (((out)++[67,111,110,110,101,99,116,105,111,110,58,32,99,108,111,115,101,13,10])++[13,10]) b _ hBwe.out (by first | omega | (simp;omega)) hzwe.out).mono ?_
      rintro e wb⟨rfl,hbw,hgw⟩
      have hBwb:=hid hbw
      have hzwb:=hid (Nat.le_trans hzwe.out hgw.size)
      have hGwb:=hid (Below.trans hGwe.out hgw)
      replace n2:=(Below.cell hgw (p:=⟨w.heap.size,2,none⟩) hlw).trans n2
      clear hbw hgw
      go_wp2_with fail
      refine (Tryz.Builder_String_any bb bb ((((out)++[67,111,110,110,101,99,116,105,111,110,58,32,99,108,111,115,101,13,10])++[13,10])++b) _ hBwb.out hzwb.out).mono ?_
      rintro e wf⟨rfl,hgf⟩
      have hGf:=hid (Below.trans hGwb.out hgf)
      clear hgf
      go_wp2
      go_ret2
      exact⟨by rw[hfin.out,hTT.out];simp[byteV],Below.trans g3.out (Below.mono hGf.out (Nat.le_of_lt hlw))⟩
 ·have hfin:=hid (show O=some (T++if head then [] else b) by rw[hby,if_neg (by rw[hw];decide)])
  go_upto_region 4 with (fail)
  clear hw hby
  have hbl:=hid (show Bld w1.heap.size w1.heap.size (Lib.byteCells []) (w1.alloc (.cells #[.pointer none,.slice none 0 0] 147)) from Lib.fresh_isBuilder _ _ w1)
  have gb:=Gr.alloc w1 (.cells #[.pointer none,.slice none 0 0] 147)
  generalize (w1.alloc (.cells #[.pointer none,.slice none 0 0] 147))=w2 at hbl gb ⊢
  obtain⟨bb,hbb⟩:∃ x,w1.heap.size=x:=⟨_,rfl⟩
  have hlw:w.heap.size<bb:=hbb▸cell_lt n0
  rw[hbb] at hbl ⊢
  have hbz:=hid (show bb≤w2.heap.size from hbb▸gb.size)
  have g2:=hid (g1.out.trans gb)
  replace n0:=gb.cell n0
  replace n1:=gb.cell n1
  replace n2:=gb.cell n2
  clear gb hbb
  obtain⟨it,hit⟩:∃ x,Lib.itoa c=x:=⟨_,rfl⟩
  obtain⟨rs,hrs⟩:∃ x,reasonL c=x:=⟨_,rfl⟩
  have hl1:line1 c=aheadL++it++[32]++rs++eolL:=by unfold line1;rw[hit,hrs]
  have hitl:it.length≤21:=by rw[←hit];exact Lib.itoa_length_le c hcr.1 hcr.2
  have hrsl:rs.length≤31:=by rw[←hrs];exact reason_len c
  have k1:(⟨#[72,84,84,80,47,49,46,49,32]⟩:ByteArray)++⟨it.toArray⟩=⟨(aheadL++it).toArray⟩:=cat_mk aheadL it
  have z1:¬9223372036854775807<9+it.length:=by omega
  obtain⟨s1,hs1⟩:∃ x,aheadL++it=x:=⟨_,rfl⟩
  have hs1l:s1.length≤30:=by rw[←hs1,List.length_append];show 9+_≤_;omega
  rw[hs1] at k1 hl1
  have k2:(⟨s1.toArray⟩:ByteArray)++⟨#[32]⟩=⟨(s1++[32]).toArray⟩:=cat_mk s1 [32]
  have z2:¬9223372036854775807<s1.length+1:=by omega
  obtain⟨s2,hs2⟩:∃ x,s1++[32]=x:=⟨_,rfl⟩
  have hs2l:s2.length≤31:=by rw[←hs2,List.length_append];show _+1≤_;omega
  rw[hs2] at k2 hl1
  have k3:(⟨s2.toArray⟩:ByteArray)++⟨rs.toArray⟩=⟨(s2++rs).toArray⟩:=cat_mk s2 rs
  have z3:¬9223372036854775807<s2.length+rs.length:=by omega
  obtain⟨s3,hs3⟩:∃ x,s2++rs=x:=⟨_,rfl⟩
  have hs3l:s3.length≤62:=by rw[←hs3,List.length_append];omega
  rw[hs3] at k3 hl1
  have k4:(⟨s3.toArray⟩:ByteArray)++⟨#[13,10]⟩=⟨(s3++eolL).toArray⟩:=cat_mk s3 eolL
  have z4:¬9223372036854775807<s3.length+2:=by omega
  obtain⟨s4,hs4⟩:∃ x,s3++eolL=x:=⟨_,rfl⟩
  have hs4l:s4.length≤64:=by rw[←hs4,List.length_append];show _+2≤_;omega
  rw[hs4] at k4 hl1
  have hit':=hid hit
  have hrs':=hid hrs
  have hl1':=hid hl1
  have hcr':=hid hcr
  clear hit hrs hs1 hs2 hs3 hs4 hl1 hcr
  have t0:∀ y:Later (Gr w2),y.w.cell? ⟨w.heap.size,0,none⟩=some (.int .i64 c):=λy=>y.ok.cell n0
  haveI:Nonempty (Later (Gr w2)):=⟨⟨w2,Gr.refl w2⟩⟩
  refine wp_region_later_tail (C:=Gr w2) 10 (by kernel_rfl) (by kernel_rfl) (Gr.drew' _) ?_
  simp only[List.take_succ_cons,List.take_zero,List.drop_succ_cons,List.drop_zero]
  repeat (go_big_quiet_step (first | with_reducible exact itoa_later _ hcr'.out.1 hcr'.out.2 _ hit'.out (hG'.out.gr g2.out) _ | with_reducible exact reason_later _ hrs'.out _))
  refine wpQuiet_nil ?_
  intro w9 hg9
  replace n0:=hg9.cell n0
  replace n1:=hg9.cell n1
  replace n2:=hg9.cell n2
  have hbl9:=hid (hbl.out.keep hg9 hbz.out)
  have hbz9:=hid (Nat.le_trans hbz.out hg9.size)
  have g9:=hid (g2.out.trans hg9)
  clear hg9 t0 k1 k2 k3 k4 z1 z2 z3 z4
  go_wp2_with fail
  refine (wr_any bb [] s4 _ hbl9.out (by simp;omega) hbz9.out).mono ?_
  rintro e w3⟨rfl,hb3,hg3⟩
  rw[List.nil_append] at hb3
  have hbl3:=hid hb3
  have hbz3:=hid (Nat.le_trans hbz9.out hg3.size)
  replace n0:=(Below.cell hg3 (p:=⟨w.heap.size,0,none⟩) hlw).trans n0
  replace n1:=(Below.cell hg3 (p:=⟨w.heap.size,1,none⟩) hlw).trans n1
  replace n2:=(Below.cell hg3 (p:=⟨w.heap.size,2,none⟩) hlw).trans n2
  have g3:=hid (show Gr w w3 from Below.trans g9.out (Below.mono hg3 (Nat.le_of_lt hlw)))
  clear hb3 hg3
  go_wp2
  go_loopw [36] (λi W=>∃ k:Nat,k≤fs.length∧i=.int .i64 k∧Bld bb bb (Lib.byteCells (s4++(fs.take k).flatMap fline)) W∧Below bb w3 W) (λi _=>fs.length - (intOf i).toNat)
  case atStart=>exact⟨0,Nat.zero_le _,rfl,by simpa using hbl3.out,Below.refl _ _⟩
  case round =>
   obtain⟨k,hk,rfl,hB,hg⟩:=hrel
   have hB':=hid hB
   have hg':=hid hg
   have hbz4:=hid (Nat.le_trans hbz3.out hg.size)
   replace n0:=(Below.cell hg (p:=⟨w.heap.size,0,none⟩) hlw).trans n0
   replace n1:=(Below.cell hg (p:=⟨w.heap.size,1,none⟩) hlw).trans n1
   replace n2:=(Below.cell hg (p:=⟨w.heap.size,2,none⟩) hlw).trans n2
   have gw:=hid (show Gr w wr from Below.trans g3.out (Below.mono hg (Nat.le_of_lt hlw)))
   have hol:(s4++(fs.take k).flatMap fline).length≤64+k*2000004:=by
    rw[List.length_append]
    have:=fl_len (fs.take k) (λf hf=>hs'.out f (List.mem_of_mem_take hf))
    rw[List.length_take] at this
    have h2:min k fs.length=k:=by omega
    rw[h2] at this
    omega
   clear hB hg
   by_cases hlt:k<fs.length
   ·obtain⟨bf,off,rfl,d1,d2⟩:=hc'.out k hlt
    replace d1:=gw.out.cell d1
    replace d2:=gw.out.cell d2
    have hxs:=hs'.out _ (List.getElem_mem hlt)
    have hnx:=fl_take fs k hlt
    obtain⟨⟨xn,xv⟩,hx⟩:∃ x,fs[k]=x:=⟨_,rfl⟩
    rw[hx] at d1 d2 hxs hnx
    dsimp only at d1 d2 hxs
    have hfe:fline (xn,xv)=xn++[58,32]++xv++eolL:=rfl
    have hkI:(k:Int)<fs.length:=by omega
    have k1:(⟨xn.toArray⟩:ByteArray)++⟨#[58,32]⟩=⟨(xn++[58,32]).toArray⟩:=cat_mk xn [58,32]
    have z1:¬9223372036854775807<xn.length+2:=by omega
    obtain⟨c1,hc1⟩:∃ x,xn++[58,32]=x:=⟨_,rfl⟩
    have hc1l:c1.length≤1000002:=by rw[←hc1,List.length_append];show _+2≤_;omega
    rw[hc1] at k1 hfe
    have k2:(⟨c1.toArray⟩:ByteArray)++⟨xv.toArray⟩=⟨(c1++xv).toArray⟩:=cat_mk c1 xv
    have z2:¬9223372036854775807<c1.length+xv.length:=by omega
    obtain⟨c2,hc2⟩:∃ x,c1++xv=x:=⟨_,rfl⟩
    have hc2l:c2.length≤2000002:=by rw[←hc2,List.length_append];omega
    rw[hc2] at k2 hfe
    have k3:(⟨c2.toArray⟩:ByteArray)++⟨#[13,10]⟩=⟨(c2++eolL).toArray⟩:=cat_mk c2 eolL
    have z3:¬9223372036854775807<c2.length+2:=by omega
    obtain⟨c3,hc3⟩:∃ x,c2++eolL=x:=⟨_,rfl⟩
    have hc3l:c3.length≤2000004:=by rw[←hc3,List.length_append];show _+2≤_;omega
    rw[hc3] at k3 hfe
    rw[hfe] at hnx
    have hnx':=hid hnx
    obtain⟨out,hout⟩:∃ o,s4++(fs.take k).flatMap fline=o:=⟨_,rfl⟩
    have hout':=hid hout
    rw[hout] at hB' hol
    clear hc1 hc2 hc3 hfe hnx hx hxs hout
    go_upto_region 8 with (fail)
    have x0:(wr.alloc (.cells #[.string ⟨xn.toArray⟩,.string ⟨xv.toArray⟩] 80)).cell? ⟨wr.heap.size,0,none⟩=some (.string ⟨xn.toArray⟩):=cell_new7 wr [.string ⟨xn.toArray⟩,.string ⟨xv.toArray⟩] _ 0 _ rfl
    have x1:(wr.alloc (.cells #[.string ⟨xn.toArray⟩,.string ⟨xv.toArray⟩] 80)).cell? ⟨wr.heap.size,1,none⟩=some (.string ⟨xv.toArray⟩):=cell_new7 wr [.string ⟨xn.toArray⟩,.string ⟨xv.toArray⟩] _ 1 _ rfl
    have gx:Gr wr (wr.alloc (.cells #[.string ⟨xn.toArray⟩,.string ⟨xv.toArray⟩] 80)):=Gr.alloc _ _
    generalize wr.alloc (.cells #[.string ⟨xn.toArray⟩,.string ⟨xv.toArray⟩] 80)=w5 at x0 x1 gx ⊢
    have hB5:=hid (hB'.out.keep gx hbz4.out)
    have hbz5:=hid (Nat.le_trans hbz4.out gx.size)
    have hg5:=hid (Below.trans hg'.out (Below.mono gx hbz4.out))
    clear gx d1 d2 n0 n1 n2
    go_wp2_with fail
    refine (wr_any bb out c3 _ hB5.out (by omega) hbz5.out).mono ?_
    rintro e w6⟨rfl,hb6,hg6⟩
    have hb6':=hid (show Bld bb bb (Lib.byteCells (s4++(fs.take (k+1)).flatMap fline)) w6 by
     rw[hnx'.out,←List.append_assoc,hout'.out];exact hb6)
    have hg6':=hid (Below.trans hg5.out hg6)
    clear hb6 hg6 x0 x1
    go_wp2
    go_roundw
    case rel=>exact⟨k+1,by omega,by go_num,hb6'.out,hg6'.out⟩
    case measure=>simp[intOf];omega
   ·obtain rfl:k=fs.length:=by omega
    rw[List.take_length] at hB' hol
    have hltN:¬(fs.length:Int)<fs.length:=by omega
    obtain⟨out,hout⟩:∃ o,s4++fs.flatMap fline=o:=⟨_,rfl⟩
    rw[hout] at hB' hol
    have hT0:=hid (show T=out++lineN ⟨c,fs,b⟩++lineC _++eolL from by rw[hhd'.out,hl1'.out,←hout])
    have hol2:out.length≤3000000000000:=by omega
    clear hout hol
    have hBwr:=hid hB'.out
    have hzwr:=hid hbz4.out
    have hGwr:=hid hg'.out
    have hzb:=barec_any c
    cases hbare:bareB c
    ·rw[hbare] at hzb
     obtain⟨nt,hnt⟩:∃ x,Lib.itoa (b.length:Int)=x:=⟨_,rfl⟩
     have hntl:nt.length≤21:=by rw[←hnt];exact Lib.itoa_length_le _ (by omega) (by omega)
     have k5:(⟨#[67,111,110,116,101,110,116,45,76,101,110,103,116,104,58,32]⟩:ByteArray)++⟨nt.toArray⟩=⟨(kLen++[58,32]++nt).toArray⟩:=cat_mk (kLen++[58,32]) nt
     have z5:¬9223372036854775807<16+nt.length:=by omega
     obtain⟨e1,he1⟩:∃ x,kLen++[58,32]++nt=x:=⟨_,rfl⟩
     have he1l:e1.length≤40:=by rw[←he1];simp[kLen];omega
     rw[he1] at k5
     have k6:(⟨e1.toArray⟩:ByteArray)++⟨#[13,10]⟩=⟨(e1++eolL).toArray⟩:=cat_mk e1 eolL
     have z6:¬9223372036854775807<e1.length+2:=by omega
     obtain⟨e2,he2⟩:∃ x,e1++eolL=x:=⟨_,rfl⟩
     have he2l:e2.length≤42:=by rw[←he2,List.length_append];show _+2≤_;omega
     rw[he2] at k6
     have hTT:=hid (show T=out++e2++[]++[13,10] from by
      rw[hT0.out];unfold lineN;rw[hbare];dsimp only;rw[if_neg (by decide),hnt,he1,he2];rfl)
     have hnt':=hid hnt
     have hitc:=hid (λW hGW=>itoa_any (b.length:Int) (by omega) (by omega) W hGW)
     rw[hnt] at hitc
     clear hnt he1 he2 hbare
     go_wp2_with (go_at_call 117;refine (hzb _).mono ?_;rintro e w' ⟨rfl,rfl⟩)
     refine (hitc.out _ (hG'.out.gr gw.out)).mono ?_
     rintro e wi⟨rfl,hgi⟩
     have hBwi:=hid (hBwr.out.keep hgi hzwr.out)
     have hzwi:=hid (Nat.le_trans hzwr.out hgi.size)
     have hGwi:=hid (Below.trans hGwr.out (Below.mono hgi hzwr.out))
     replace n2:=hgi.cell n2
     clear hgi
     go_wp2_with fail
     refine (wr_any bb out e2 _ hBwi.out (by first | omega | (simp[eolL,kHold,kEnds];omega)) hzwi.out).mono ?_
     rintro e wn⟨rfl,hbw,hgw⟩
     have hBwn:=hid hbw
     have hzwn:=hid (Nat.le_trans hzwi.out hgw.size)
     have hGwn:=hid (Below.trans hGwi.out hgw)
     replace n2:=(Below.cell hgw (p:=⟨w.heap.size,2,none⟩) hlw).trans n2
     clear hbw hgw
     go_wp2_with fail
     refine (wr_any bb (out++e2) [13,10] _ hBwn.out (by first | omega | (simp;omega)) hzwn.out).mono ?_
     rintro e we⟨rfl,hbw,hgw⟩
     have hBwe:=hid hbw
     have hzwe:=hid (Nat.le_trans hzwn.out hgw.size)
     have hGwe:=hid (Below.trans hGwn.out hgw)
     replace n2:=(Below.cell hgw (p:=⟨w.heap.size,2,none⟩) hlw).trans n2
     clear hbw hgw
     cases head with
     | true =>
      go_wp2_with fail
      refine (Tryz.Builder_String_any bb bb ((out++e2)++[13,10]) _ hBwe.out hzwe.out).mono ?_
      rintro e wf⟨rfl,hgf⟩
      have hGf:=hid (Below.trans hGwe.out hgf)
      clear hgf
      go_wp2
      go_ret2
      exact⟨by rw[hfin.out,hTT.out];simp[byteV],Below.trans g3.out (Below.mono hGf.out (Nat.le_of_lt hlw))⟩
     | false =>
      go_wp2_with fail
      refine (wr_any bb ((out++e2)++[13,10]) b _ hBwe.out (by first | omega | (simp;omega)) hzwe.out).mono ?_
      rintro e wb⟨rfl,hbw,hgw⟩
      have hBwb:=hid hbw
      have hzwb:=hid (Nat.le_trans hzwe.out hgw.size)
      have hGwb:=hid (Below.trans hGwe.out hgw)
      replace n2:=(Below.cell hgw (p:=⟨w.heap.size,2,none⟩) hlw).trans n2
      clear hbw hgw
      go_wp2_with fail
      refine (Tryz.Builder_String_any bb bb (((out++e2)++[13,10])++b) _ hBwb.out hzwb.out).mono ?_
      rintro e wf⟨rfl,hgf⟩
      have hGf:=hid (Below.trans hGwb.out hgf)
      clear hgf
      go_wp2
      go_ret2
      exact⟨by rw[hfin.out,hTT.out];simp[byteV],Below.trans g3.out (Below.mono hGf.out (Nat.le_of_lt hlw))⟩
    ·rw[hbare] at hzb
     have hTT:=hid (show T=out++[]++[13,10] from by
      rw[hT0.out];unfold lineN;rw[hbare];dsimp only;rw[if_pos rfl];simp[lineC,eolL])
     clear hbare
     go_wp2_with (go_at_call 117;refine (hzb _).mono ?_;rintro e w' ⟨rfl,rfl⟩)
     refine (wr_any bb (out) [13,10] _ hBwr.out (by first | omega | (simp;omega)) hzwr.out).mono ?_
     rintro e we⟨rfl,hbw,hgw⟩
     have hBwe:=hid hbw
     have hzwe:=hid (Nat.le_trans hzwr.out hgw.size)
     have hGwe:=hid (Below.trans hGwr.out hgw)
     replace n2:=(Below.cell hgw (p:=⟨w.heap.size,2,none⟩) hlw).trans n2
     clear hbw hgw
     cases head with
     | true =>
      go_wp2_with fail
      refine (Tryz.Builder_String_any bb bb ((out)++[13,10]) _ hBwe.out hzwe.out).mono ?_
      rintro e wf⟨rfl,hgf⟩
      have hGf:=hid (Below.trans hGwe.out hgf)
      clear hgf
      go_wp2
      go_ret2
      exact⟨by rw[hfin.out,hTT.out];simp[byteV],Below.trans g3.out (Below.mono hGf.out (Nat.le_of_lt hlw))⟩
     | false =>
      go_wp2_with fail
      refine (wr_any bb ((out)++[13,10]) b _ hBwe.out (by first | omega | (simp;omega)) hzwe.out).mono ?_
      rintro e wb⟨rfl,hbw,hgw⟩
      have hBwb:=hid hbw
      have hzwb:=hid (Nat.le_trans hzwe.out hgw.size)
      have hGwb:=hid (Below.trans hGwe.out hgw)
      replace n2:=(Below.cell hgw (p:=⟨w.heap.size,2,none⟩) hlw).trans n2
      clear hbw hgw
      go_wp2_with fail
      refine (Tryz.Builder_String_any bb bb (((out)++[13,10])++b) _ hBwb.out hzwb.out).mono ?_
      rintro e wf⟨rfl,hgf⟩
      have hGf:=hid (Below.trans hGwb.out hgf)
      clear hgf
      go_wp2
      go_ret2
      exact⟨by rw[hfin.out,hTT.out];simp[byteV],Below.trans g3.out (Below.mono hGf.out (Nat.le_of_lt hlw))⟩
