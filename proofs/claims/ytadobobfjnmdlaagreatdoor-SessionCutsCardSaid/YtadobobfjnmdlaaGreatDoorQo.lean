/-
  The check of texts in memory: characters one by one, whether bytes are a text.
-/
import Derived.Test.YtadobobfjnmdlaaGreatDoorUu
import Derived.BigGuardIn
set_option linter.unnecessarySimpa false
set_option linter.unusedVariables false
set_option linter.unusedSimpArgs false
set_option maxHeartbeats 16000000
set_option maxRecDepth 100000
open Go.Lib (hid)
open Go.Proofs.Tryz
namespace Go.Proofs.YtadobobfjnmdlaaGreatDoor
open Go.RowKit Go.Shelf
attribute [local go_sem] Oper.semAt_some
theorem runes_le:∀ (s:List UInt8) (c:Uc) (f i n:Nat),UcOk c→f≤n→i+s.length≤n→∀ y∈runesU c f i s,y.1≤n∧y.2<2097152
 | [],_,_,_,_,_,_,_,y,h=>by cases h
 | b :: t,c,f,i,n,hc,hf,hi,y,h=>by
  rw[List.length_cons] at hi
  rw[runesU] at h
  split at h
  ·cases h
  ·rename_i c' e
   have hc':=hc.step e
   have hf':(if c.left=0 then i else f)≤n:=by split <;> omega
   split at h
   ·rename_i h0
    rcases List.mem_cons.1 h with rfl | h
    ·exact⟨hf',hc'.2.1 h0⟩
    ·exact runes_le t c' _ _ n hc' hf' (by omega) y h
   ·exact runes_le t c' _ _ n hc' hf' (by omega) y h
theorem runes_any (s:List UInt8) (W:World) :
  Calls prog 125 #[.string ⟨s.toArray⟩] W λe w'=>e=.returned (.func (.func 153) #[] #[.pointer (some ⟨W.heap.size,0,none⟩)])∧W.alloc (.cells #[.string ⟨s.toArray⟩] 9)=w':=by
 go_enter func125,ntmps125
 go_wp2
 go_ret
 exact⟨rfl,rfl⟩
theorem uwidth_any (x:Nat) (W:World) :
  Calls prog 126 #[.int .i32 x] W λe w'=>e=.returned (.int .i64 (widthU x))∧W=w':=by
 by_cases h1:x<128
 ·have hv:=hid (show widthU x=1 by unfold widthU;rw[if_pos h1])
  have a1:(x:Int)<128:=by omega
  go_enter func126,ntmps126
  go_wp2
  go_ret
  exact⟨by rw[hv.out];rfl,rfl⟩
 ·by_cases h2:x<2048
  ·have hv:=hid (show widthU x=2 by unfold widthU;rw[if_neg h1,if_pos h2])
   have a1:¬(x:Int)<128:=by omega
   have a2:(x:Int)<2048:=by omega
   go_enter func126,ntmps126
   go_wp2
   go_ret
   exact⟨by rw[hv.out];rfl,rfl⟩
  ·have a1:¬(x:Int)<128:=by omega
   have a2:¬(x:Int)<2048:=by omega
   by_cases h3:x<65536
   ·have hv:=hid (show widthU x=3 by unfold widthU;rw[if_neg h1,if_neg h2,if_pos h3])
    have a3:(x:Int)<65536:=by omega
    go_enter func126,ntmps126
    go_wp2
    go_ret
    exact⟨by rw[hv.out];rfl,rfl⟩
   ·have hv:=hid (show widthU x=4 by unfold widthU;rw[if_neg h1,if_neg h2,if_neg h3])
    have a3:¬(x:Int)<65536:=by omega
    go_enter func126,ntmps126
    go_wp2
    go_ret
    exact⟨by rw[hv.out];rfl,rfl⟩
def encU (y:Nat×Nat):Array Value:=#[.int .i64 y.1,.int .i32 y.2]
theorem UkAt.ch {B:Nat} {T:Nat→Prop} {W W':World} {k:Uk} (h:UkAt B W k) (hc:Ch T W W') (hB:¬T B):UkAt B W' k :=
 have cc:∀ {o v},W.cell? ⟨B,o,none⟩=some v→W'.cell? ⟨B,o,none⟩=some v:=fun {o v} hh=>(hc.cell (p:=⟨B,o,none⟩) (cell_lt hh) hB).trans hh
 ⟨cc h.c0,cc h.c1,cc h.c2,cc h.c3,h.c4.imp λ_ e=>cc e,cc h.c5,λo=>(hc.frozen (p:=⟨B,o,none⟩) h.lt hB).trans (h.fz o),h.ok⟩
def RuRel (s:List UInt8) (J:List (Nat×Nat)→World→Prop) (W:World) (bv:Nat) (fr i:Value) (wr:World):Prop :=
 ∃ (k fn:Nat) (c:Uc) (pre:List (Nat×Nat)),k≤s.length∧fr=.int .i64 fn∧i=.int .i64 k∧runesU uc0 0 0 s=pre++runesU c fn k (s.drop k)∧UkAt W.heap.size wr ⟨c,false⟩∧J pre wr∧wr.cell? ⟨bv,0,none⟩=some (.string ⟨s.toArray⟩)
theorem runes_iter (s:List UInt8) (W0:World) (bv:Nat) (hv:W0.cell? ⟨bv,0,none⟩=some (.string ⟨s.toArray⟩)) (hs:s.length≤4611686018427387904) :
  IterO prog 153 #[.pointer (some ⟨bv,0,none⟩)] encU (runesU uc0 0 0 s) (λk=>k=bv) (λ_=>True) W0:=by
 intro W l J Jx U hsz hT hU hJ hJx _ hY h0
 have gv:W.cell? ⟨bv,0,none⟩=some (.string ⟨s.toArray⟩):=(World.cell?_of_block (hT bv rfl)).trans hv
 have hbv:bv<W.heap.size:=cell_lt gv
 have gA:=Gr.alloc W (.cells #[.int .i64 0,.int .u8 0,.int .u8 0,.int .i32 0,.int .i64 0,.bool false] 210)
 have gv2:=gA.cell gv
 have hst:=hid (show RuRel s J W bv (.int .i64 0) (.int .i64 0) (W.alloc (.cells #[.int .i64 0,.int .u8 0,.int .u8 0,.int .i32 0,.int .i64 0,.bool false] 210)) from
  ⟨0,0,uc0,[],Nat.zero_le _,rfl,rfl,rfl,⟨cell_new7 _ _ _ 0 _ rfl,cell_new7 _ _ _ 1 _ rfl,cell_new7 _ _ _ 2 _ rfl,cell_new7 _ _ _ 3 _ rfl,⟨0,cell_new7 _ _ _ 4 _ rfl⟩,cell_new7 _ _ _ 5 _ rfl,λo=>World.frozen?_alloc_at _ _ _ _ rfl,uc0_ok⟩,hJ _ _ _ h0 (gA.to_ch _),gv2⟩)
 have hJ':=hid hJ
 have hJx':=hid hJx
 have hY':=hid hY
 have hU':=hid hU
 clear hJ hJx hY hU h0 hT hv gv gA
 have hfn:∀ f,Fence.wide.fn f:=λ_=>trivial
 have hdp:Fence.wide.depth=none:=rfl
 refine callsIn_of_wp func153 rfl trivial ?_ rfl
 simp only[ntmps153,List.size_toArray,List.length_cons,List.length_nil,Nat.reduceAdd,Nat.reduceSub,Array.replicate_succ,Array.replicate_zero,List.push_toArray,List.append_toArray,List.nil_append,List.cons_append]
 gi_wp2
 gi_loopw [4,8] (λfr i wr=>RuRel s J W bv fr i wr) (λ_ i _=>s.length - (intOf i).toNat)
 case atStart=>exact hst.out
 case round =>
  clear gv2 hst
  obtain⟨k,fn,c,pre,hk,rfl,rfl,hpre,hUk,hj,gv⟩:=hrel
  have hpre':=hid hpre
  have hj':=hid hj
  have hUk':=hid hUk
  have c0:=hUk.c0
  clear hpre hj hUk
  by_cases hlt:k<s.length
  ·obtain⟨d,hd⟩:∃ d,(⟨s.toArray⟩:ByteArray)[k]'(by rw[size_mk];exact hlt)=d:=⟨_,rfl⟩
   have hsd:s[k]=d:=hd
   have hdr:=hid (show s.drop k=d :: s.drop (k+1) by rw[List.drop_eq_getElem_cons hlt,hsd])
   have hstp:=hid (ustep_any W.heap.size wr ⟨c,false⟩ d hUk'.out)
   obtain⟨fn2,hfn2⟩:∃ fn2,(if c.left=0 then k else fn)=fn2:=⟨_,rfl⟩
   have hfn2':=hid hfn2
   clear hsd
   dsimp only at c0
   obtain⟨o,ho⟩:∃ o,stepU c d=o:=⟨_,rfl⟩
   have ho':=hid ho
   dsimp only at hstp
   rw[ho] at hstp
   clear ho
   by_cases hl0:c.left=0
   ·rw[if_pos hl0] at hfn2
    subst hfn2
    rw[hl0] at c0
    clear hl0
    gi_wp2_with (fail)
    refine (callsIn_wide.2 hstp.out).mono ?_
    rintro e w2⟨rfl,hU2,hC2⟩
    have hJ2:=hid (hJ'.out _ _ _ hj'.out (hC2.mono (λj e=>.inr (Nat.le_of_eq (show j=W.heap.size from e).symm))))
    have hs2:=hid (Nat.le_trans (Nat.le_of_lt hUk'.out.lt) hC2.size)
    have gv2:w2.cell? ⟨bv,0,none⟩=some (.string ⟨s.toArray⟩):=(hC2.cell (p:=⟨bv,0,none⟩) (cell_lt gv) (λe=>absurd (show bv=W.heap.size from e) (Nat.ne_of_lt hbv))).trans gv
    cases o with
    | none =>
     have hfin:=hid (show runesU c fn k (s.drop k)=[] by rw[hdr.out,runesU,ho'.out])
     rw[show (none:Option Uc).isSome=false from rfl]
     clear hU2 hC2 c0 gv gv2
     gi_wp2_with (refine wpListIn_skip (by rfl) (by rfl) ?_)
     refine bodyPost_ret (results_none rfl _ _ _) rfl ?_
     refine⟨rfl,.inl ?_⟩
     rw[hpre'.out,hfin.out,List.append_nil]
     exact hJ2.out
    | some c' =>
     rw[show (some c').isSome=true from rfl]
     have e0:=hU2.c0
     have e3:=hU2.c3
     have hU2':=hid hU2
     clear hU2 hC2 c0 gv
     simp only[Option.getD_some] at e0 e3
     by_cases hl:c'.left=0
     ·have hsp:=hid (show runesU c fn k (s.drop k)=(k,c'.x) :: runesU c' k (k+1) (s.drop (k+1)) by rw[hdr.out,runesU,ho'.out];dsimp only;rw[hfn2'.out,if_pos hl])
      have hY2:=hY'.out pre (k,c'.x) _ w2 (by rw[hpre'.out,hsp.out]) hs2.out hJ2.out
      unfold encU at hY2
      dsimp only at hY2
      obtain⟨gn,tmps,assign,body,hy,hR⟩:=hY2
      rw[hl] at e0
      gi_wp2
      refine hR.mono ?_
      rintro e A (⟨rfl,hj2,hc2⟩ | ⟨rfl,hj2,hc2⟩)
      ·have hn:¬U W.heap.size:=λe=>Nat.lt_irrefl _ (hU'.out _ e).1
       have hnb:¬U bv:=λe=>(hU'.out _ e).2 rfl
       have hU3:=hid (hU2'.out.ch hc2 hn)
       have gv3:=hid ((hc2.cell (p:=⟨bv,0,none⟩) (cell_lt gv2) hnb).trans gv2)
       have hj3:=hid hj2
       clear hj2 hc2 e0 e3 gv2 hy hR
       gi_wp2
       go_roundw
       case rel=>exact⟨k+1,k,c',pre++[(k,c'.x)],hlt,rfl,by simp,by rw[hpre'.out,hsp.out,List.append_assoc];rfl,hU3.out,hj3.out,gv3.out⟩
       case measure=>simp[intOf];omega
      ·gi_wp2
       refine bodyPost_ret (results_none rfl _ _ _) rfl ?_
       exact⟨rfl,.inr ⟨pre++[(k,c'.x)],⟨runesU c' k (k+1) (s.drop (k+1)),by rw[hpre'.out,hsp.out,List.append_assoc];rfl⟩,hj2⟩⟩
     ·have hl0:((c'.left:Int)==0)=false:=beq_eq_false_iff_ne.2 (by omega)
      have hsp:=hid (show runesU c fn k (s.drop k)=runesU c' k (k+1) (s.drop (k+1)) by rw[hdr.out,runesU,ho'.out];dsimp only;rw[hfn2'.out,if_neg hl])
      gi_wp2
      go_roundw
      case rel=>exact⟨k+1,k,c',pre,hlt,rfl,by simp,by rw[hpre'.out,hsp.out],hU2'.out,hJ2.out,gv2⟩
      case measure=>simp[intOf];omega
   ·have hz:((c.left:Int)==0)=false:=beq_eq_false_iff_ne.2 (by omega)
    rw[if_neg hl0] at hfn2
    subst hfn2
    gi_wp2_with (fail)
    refine (callsIn_wide.2 hstp.out).mono ?_
    rintro e w2⟨rfl,hU2,hC2⟩
    have hJ2:=hid (hJ'.out _ _ _ hj'.out (hC2.mono (λj e=>.inr (Nat.le_of_eq (show j=W.heap.size from e).symm))))
    have hs2:=hid (Nat.le_trans (Nat.le_of_lt hUk'.out.lt) hC2.size)
    have gv2:w2.cell? ⟨bv,0,none⟩=some (.string ⟨s.toArray⟩):=(hC2.cell (p:=⟨bv,0,none⟩) (cell_lt gv) (λe=>absurd (show bv=W.heap.size from e) (Nat.ne_of_lt hbv))).trans gv
    cases o with
    | none =>
     have hfin:=hid (show runesU c fn k (s.drop k)=[] by rw[hdr.out,runesU,ho'.out])
     rw[show (none:Option Uc).isSome=false from rfl]
     clear hU2 hC2 c0 gv gv2
     gi_wp2_with (refine wpListIn_skip (by rfl) (by rfl) ?_)
     refine bodyPost_ret (results_none rfl _ _ _) rfl ?_
     refine⟨rfl,.inl ?_⟩
     rw[hpre'.out,hfin.out,List.append_nil]
     exact hJ2.out
    | some c' =>
     rw[show (some c').isSome=true from rfl]
     have e0:=hU2.c0
     have e3:=hU2.c3
     have hU2':=hid hU2
     clear hU2 hC2 c0 gv
     simp only[Option.getD_some] at e0 e3
     by_cases hl:c'.left=0
     ·have hsp:=hid (show runesU c fn k (s.drop k)=(fn,c'.x) :: runesU c' fn (k+1) (s.drop (k+1)) by rw[hdr.out,runesU,ho'.out];dsimp only;rw[hfn2'.out,if_pos hl])
      have hY2:=hY'.out pre (fn,c'.x) _ w2 (by rw[hpre'.out,hsp.out]) hs2.out hJ2.out
      unfold encU at hY2
      dsimp only at hY2
      obtain⟨gn,tmps,assign,body,hy,hR⟩:=hY2
      rw[hl] at e0
      gi_wp2
      refine hR.mono ?_
      rintro e A (⟨rfl,hj2,hc2⟩ | ⟨rfl,hj2,hc2⟩)
      ·have hn:¬U W.heap.size:=λe=>Nat.lt_irrefl _ (hU'.out _ e).1
       have hnb:¬U bv:=λe=>(hU'.out _ e).2 rfl
       have hU3:=hid (hU2'.out.ch hc2 hn)
       have gv3:=hid ((hc2.cell (p:=⟨bv,0,none⟩) (cell_lt gv2) hnb).trans gv2)
       have hj3:=hid hj2
       clear hj2 hc2 e0 e3 gv2 hy hR
       gi_wp2
       go_roundw
       case rel=>exact⟨k+1,fn,c',pre++[(fn,c'.x)],hlt,rfl,by simp,by rw[hpre'.out,hsp.out,List.append_assoc];rfl,hU3.out,hj3.out,gv3.out⟩
       case measure=>simp[intOf];omega
      ·gi_wp2
       refine bodyPost_ret (results_none rfl _ _ _) rfl ?_
       exact⟨rfl,.inr ⟨pre++[(fn,c'.x)],⟨runesU c' fn (k+1) (s.drop (k+1)),by rw[hpre'.out,hsp.out,List.append_assoc];rfl⟩,hj2⟩⟩
     ·have hl0:((c'.left:Int)==0)=false:=beq_eq_false_iff_ne.2 (by omega)
      have hsp:=hid (show runesU c fn k (s.drop k)=runesU c' fn (k+1) (s.drop (k+1)) by rw[hdr.out,runesU,ho'.out];dsimp only;rw[hfn2'.out,if_neg hl])
      gi_wp2
      go_roundw
      case rel=>exact⟨k+1,fn,c',pre,hlt,rfl,by simp,by rw[hpre'.out,hsp.out],hU2'.out,hJ2.out,gv2⟩
      case measure=>simp[intOf];omega
  ·obtain rfl:k=s.length:=by omega
   have hJ2:=hid (show J (runesU uc0 0 0 s) wr by rw[hpre'.out,List.drop_length,runesU,List.append_nil];exact hj'.out)
   gi_wp2
   go_end0
   exact⟨rfl,.inl hJ2.out⟩
theorem endU_snoc (l:List (Nat×Nat)) (y:Nat×Nat):endU (l++[y])=y.1+widthU y.2:=by unfold endU;rw[List.foldl_append];rfl
theorem widthU_le (x:Nat):widthU x≤4:=by
 unfold widthU
 repeat' split
 all_goals omega
theorem uvalid_any (s:List UInt8) (w:World) (hs:s.length≤4611686018427387904) :
  Calls prog 104 #[.string ⟨s.toArray⟩] w λe w'=>e=.returned (.bool (validU s))∧Gr w w':=by
 refine (callsIn_wide (n:=0)).1 ?_
 have hfn:∀ f,Fence.wide.fn f:=λ_=>trivial
 have hdp:Fence.wide.depth=none:=rfl
 refine callsIn_of_wp_marks func104 rfl trivial ?_ rfl
 simp only[ntmps104,List.size_toArray,List.length_cons,List.length_nil,Nat.reduceAdd,Nat.reduceSub,Array.replicate_succ,Array.replicate_zero,List.push_toArray,List.append_toArray,List.nil_append,List.cons_append]
 gi_wp2_with (gi_at_call 125;refine (callsIn_wide.2 (runes_any s _)).mono ?_;rintro e w' ⟨rfl,rfl⟩)
 obtain⟨w3,hw3⟩:∃ w3,(w.alloc (.cells #[.int .i64 0] 3)).alloc (.cells #[.string ⟨s.toArray⟩] 9)=w3:=⟨_,rfl⟩
 rw[hw3]
 have hs3:=hid (show w3.heap.size=w.heap.size+2 by rw[←hw3];simp)
 have c0:w3.cell? ⟨w.heap.size,0,none⟩=some (.int .i64 0):=by rw[←hw3];simp[go_sem]
 have k0:w3.frozen? ⟨w.heap.size,0,none⟩=false:=by rw[←hw3];simp[go_sem]
 have c1:w3.cell? ⟨w.heap.size+1,0,none⟩=some (.string ⟨s.toArray⟩):=by rw[←hw3];simp[go_sem]
 have hg3:Gr w w3:=by rw[←hw3];exact (Gr.alloc w _).alloc1 _
 clear hw3
 refine wpIn_range2 (gf:=153) rfl (enters_of func153 (by kernel_rfl) rfl) (runes_iter s w3 _ c1 hs) (Nat.le_refl _) (λk hk=>⟨by rw[hs3.out];(try dsimp only at hk);omega,rfl⟩) (λ_=>rfl)
  (λpre A=>Gr w A∧w3.heap.size≤A.heap.size∧A.cell? ⟨w.heap.size,0,none⟩=some (.int .i64 (endU pre:Nat))∧A.frozen? ⟨w.heap.size,0,none⟩=false)
  (λ_ _ _=>False) (λk=>k=w.heap.size)
  (λk hk=>⟨by rw[hs3.out];(try dsimp only at hk);omega,by (try dsimp only at hk ⊢);omega⟩) ?hI (λ_ _ _ _ h _=>h.elim) (λ_ _ _=>trivial) ⟨hg3,Nat.le_refl _,c0,k0⟩ ?round ?done (λ_ _ _ _ _ _ h _=>h.elim)
 case hI =>
  rintro pre A B⟨h1,h2,h3,h4⟩ hch
  have e:=hs3.out
  have hn:¬(w.heap.size=w.heap.size+1∨w3.heap.size≤w.heap.size):=by omega
  exact⟨h1.ch hch (λk hk=>by omega),Nat.le_trans h2 hch.size,(hch.cell (p:=⟨w.heap.size,0,none⟩) (cell_lt h3) hn).trans h3,(hch.frozen (p:=⟨w.heap.size,0,none⟩) (show w.heap.size<A.heap.size from cell_lt h3) hn).trans h4⟩
 case round =>
  intro l' pre x rest A hl' hlt hxs hI
  obtain⟨h1,h2,h3,h4⟩:=hI
  obtain⟨x1,x2⟩:=x
  have hx:=runes_le s uc0 0 0 s.length uc0_ok (Nat.zero_le _) (by omega) (x1,x2) (by rw[hxs];simp)
  dsimp only at hx
  have hwl:=widthU_le x2
  have e:=hs3.out
  have hne0:¬(w.heap.size=l'):=by omega
  have hz0:w.heap.size<A.heap.size:=by omega
  have hll:w.heap.size≤l':=by omega
  have hwd:=hid (uwidth_any x2)
  have hend:=hid (endU_snoc pre (x1,x2))
  obtain⟨hx1,hx2⟩:=hx
  have hwr:IntKind.i64.wrap ((x1:Int)+(widthU x2:Nat))=(x1:Int)+(widthU x2:Nat):=IntWalk.i64_in _ (by omega)
  clear e hxs
  unfold encU
  gi_wp2
  refine⟨Ch.refl _ _,λA2 hA2=>?_⟩
  have d0:A2.cell? ⟨w.heap.size,0,none⟩=some (.int .i64 (endU pre:Nat)):=(hA2.cell (p:=⟨w.heap.size,0,none⟩) hz0 hne0).trans h3
  have dk:A2.frozen? ⟨w.heap.size,0,none⟩=false:=(hA2.frozen (p:=⟨w.heap.size,0,none⟩) hz0 hne0).trans h4
  have hg2:=hid (show Gr w A2 from h1.ch hA2 (λk hk=>by (try dsimp only at hk);omega))
  have hsz2:=hid (Nat.le_trans h2 hA2.size)
  clear h3 h4 h1 hA2
  gi_wp2_with (fail)
  refine (CallsIn.inRound l' (callsIn_wide.2 (hwd.out A2))).mono ?_
  rintro e A3⟨rfl,rfl⟩
  gi_wp2
  refine⟨Ch.setCell (T:=λk=>k=w.heap.size) _ rfl _,hg2.out.setCell (Nat.le_refl _) _,by rw[World.size_setCell];exact hsz2.out,?_,by rw[frozen_set];exact dk⟩
  rw[cell_set_same d0,hend.out]
  simp
 case done =>
  rintro D A hD⟨h1,h2,h3,h4⟩ hK
  obtain⟨n,hn⟩:∃ n,endU (runesU uc0 0 0 s)=n:=⟨_,rfl⟩
  rw[hn] at h3
  have hDn:D≠w.heap.size:=by have:=hs3.out;omega
  have hDw:w.heap.size≤D:=by have:=hs3.out;omega
  have hv:=hid (show validU s=(n==s.length) by unfold validU;rw[hn])
  have hb:((n:Int)==(s.length:Int))=(n==s.length):=by
   cases hh:(n==s.length)
   ·have:=beq_eq_false_iff_ne.1 hh
    exact beq_eq_false_iff_ne.2 (by omega)
   ·have:=eq_of_beq hh
    subst this
    simp
  have hDn':=hid hDn
  clear hDn
  gi_wp2
  refine⟨by simp,.inl ⟨_,_,rfl,run_takeDeferred hK,?_⟩⟩
  refine⟨.bool (n==s.length),by simp[results,results104,go_sem],by rw[hv.out],?_⟩
  exact h1.ch (Ch.putObj (T:=λk=>k=D) _ rfl _) (λk hk=>by (try dsimp only at hk);omega)
theorem i64_or8 (a b:Nat) (ha:a<256) (hb:b<256):bits .or .i64 ((a:Int)*256) (b:Int)=((a*256+b:Nat):Int):=by
 have h:=bits_join .i64 63 (by decide) (λn h0 h1=>IntWalk.i64_in n (by omega)) 8 ((a:Int)*256) (b:Int) (by omega) (by omega) (by omega) (by omega) (by omega) (by omega)
 rw[h]
 omega
def CrdPost (s:List UInt8) (W:World) (e:Ending) (W':World):Prop:=(∃ r:List UInt8,e=.returned (.tuple #[.int .i64 (readC s).1,.string ⟨r.toArray⟩,.int .i64 (readC s).2]))∧Gr W W'
theorem cread_0 (W:World):Calls prog 148 #[.string ⟨[].toArray⟩] W (CrdPost [] W):=by
 go_enter func148,ntmps148
 go_wp2
 refine bodyPost_ret (v:=.tuple #[.int .i64 1005,.string ⟨#[]⟩,.int .i64 0]) (by simp[results,results148,go_sem]) rfl ⟨⟨[],rfl⟩,Gr.refl _⟩
theorem cread_1 (a:UInt8) (W:World):Calls prog 148 #[.string ⟨[a].toArray⟩] W (CrdPost [a] W):=by
 go_enter func148,ntmps148
 go_wp2
 refine bodyPost_ret (v:=.tuple #[.int .i64 0,.string ⟨#[]⟩,.int .i64 1002]) (by simp[results,results148,go_sem]) rfl ⟨⟨[],rfl⟩,Gr.refl _⟩
theorem cread_2 (a b:UInt8) (t:List UInt8) (W:World) (ht:t.length≤4611686018427387900):Calls prog 148 #[.string ⟨(a :: b :: t).toArray⟩] W (CrdPost (a :: b :: t) W):=by
 obtain⟨s,hs⟩:∃ s,(a :: b :: t)=s:=⟨_,rfl⟩
 have hl:s.length=t.length+2:=by rw[←hs];rfl
 obtain⟨n,hn⟩:∃ n,s.length=n:=⟨_,rfl⟩
 have h0:(⟨s.toArray⟩:ByteArray)[0]'(by rw[size_mk];omega)=a:=by subst hs;rfl
 have h1:(⟨s.toArray⟩:ByteArray)[1]'(by rw[size_mk];omega)=b:=by subst hs;rfl
 have hx:(⟨s.toArray⟩:ByteArray).extract 2 (t.length+2)=⟨t.toArray⟩:=by rw[extract_mk,←hs];simp
 have ha:=a.toNat_lt
 have hb:=b.toNat_lt
 obtain⟨c,hc⟩:∃ c,a.toNat*256+b.toNat=c:=⟨_,rfl⟩
 have hor:=i64_or8 a.toNat b.toNat ha hb
 rw[hc] at hor
 have hz0:((s.length:Int)==0)=false:=beq_eq_false_iff_ne.2 (by omega)
 have hz1:((s.length:Int)==1)=false:=beq_eq_false_iff_ne.2 (by omega)
 have hl2:(2:Int)≤s.length:=by omega
 have hm:=cmay_any c
 obtain⟨m,hmd⟩:∃ m,mayC c=m:=⟨_,rfl⟩
 rw[hmd] at hm
 have hm':=hid hm
 have hu0:=λw=>uvalid_any t w (by omega)
 obtain⟨v,hv⟩:∃ v,validU t=v:=⟨_,rfl⟩
 rw[hv] at hu0
 have hu:=hid hu0
 have hr:=hid (show readC (a :: b :: t)=if (!m)=true then (0,1002) else if (!v)=true then (0,1007) else (c,0) by
  unfold readC
  rw[if_neg (by simp),if_neg (by simp)]
  show (if (!mayC (a.toNat*256+b.toNat))=true then _ else if (!validU t)=true then _ else (a.toNat*256+b.toNat,0))=_
  rw[hc,hmd,hv])
 unfold CrdPost
 rw[hs] at hr ⊢
 clear hs hm hmd hu0 hv hc
 have haI:(a.toNat:Int)<256:=by omega
 have hbI:(b.toNat:Int)<256:=by omega
 have hw:IntKind.i64.wrap ((a.toNat:Int)*256)=(a.toNat:Int)*256:=IntWalk.i64_in _ (by omega)
 go_enter func148,ntmps148
 go_upto_region 6 with (fail)
 go_quiet (fail)
 have hgd:Gr W (W.drewN nq):=below_drewNm _ _
 have hgd:=hid hgd
 go_wp2_with fail
 refine (hm'.out _).mono ?_
 rintro e w1⟨rfl,rfl⟩
 cases m with
 | false =>
  rw[if_pos (by decide)] at hr
  go_wp2
  refine bodyPost_ret (v:=.tuple #[.int .i64 0,.string ⟨#[]⟩,.int .i64 1002]) (by simp[results,results148,go_sem]) rfl ⟨⟨[],by rw[hr.out];rfl⟩,hgd.out⟩
 | true =>
  rw[if_neg (by decide)] at hr
  go_wp2_with fail
  refine (hu.out _).mono ?_
  rintro e w1⟨rfl,hg⟩
  have hg':=hid (hgd.out.trans hg)
  cases v with
  | false =>
   rw[if_pos (by decide)] at hr
   go_wp2
   refine bodyPost_ret (v:=.tuple #[.int .i64 0,.string ⟨#[]⟩,.int .i64 1007]) (by simp[results,results148,go_sem]) rfl ⟨⟨[],by rw[hr.out];rfl⟩,hg'.out⟩
  | true =>
   rw[if_neg (by decide)] at hr
   go_wp2
   refine bodyPost_ret (v:=.tuple #[.int .i64 c,.string ⟨t.toArray⟩,.int .i64 0]) (by simp[results,results148,go_sem]) rfl ⟨⟨t,by rw[hr.out];rfl⟩,hg'.out⟩
theorem cread_any (s:List UInt8) (W:World) (hs:s.length≤4611686018427387900):Calls prog 148 #[.string ⟨s.toArray⟩] W (CrdPost s W):=by
 match s,hs with
 | [],_=>exact cread_0 W
 | [a],_=>exact cread_1 a W
 | a :: b :: t,h=>exact cread_2 a b t W (by simp at h;omega)
theorem cbytes_any (c:Nat) (W:World) (hc:c≤65535) :
  Calls prog 88 #[.int .i64 c,.string ⟨[].toArray⟩] W λe w'=>(∃ n:Int,e=.returned (.tuple #[.string ⟨(closW c).toArray⟩,.int .i64 n]))∧Gr W w':=by
 by_cases h5:c=1005
 ·subst h5
  go_enter func88,ntmps88
  go_wp2
  go_ret2
  exact⟨⟨0,rfl⟩,Gr.refl _⟩
 ·have hq:((c:Int)==1005)=false:=beq_eq_false_iff_ne.2 (by omega)
  have hm:=cmay_any c
  obtain⟨m,hmd⟩:∃ m,mayC c=m:=⟨_,rfl⟩
  have hv:=hid (show closW c=if m=true then [UInt8.ofNat (c / 256),UInt8.ofNat c] else [] by unfold closW;rw[if_neg h5,hmd])
  rw[hmd] at hm
  have hm':=hid hm
  have hu:=hid (λw=>uvalid_any [] w (by simp))
  have e0:validU []=true:=by decide
  rw[e0] at hu
  clear hm hmd e0
  cases m with
  | false =>
   rw[if_neg (by decide)] at hv
   go_enter func88,ntmps88
   go_wp2_with fail
   refine (hm'.out _).mono ?_
   rintro e w1⟨rfl,rfl⟩
   go_wp2
   refine bodyPost_ret (v:=.tuple #[.string ⟨#[]⟩,.int .i64 1]) (by simp[results,results88,go_sem]) rfl ⟨⟨1,by rw[hv.out]⟩,Gr.refl _⟩
  | true =>
   rw[if_pos rfl] at hv
   go_enter func88,ntmps88
   go_wp2_with fail
   refine (hm'.out _).mono ?_
   rintro e w1⟨rfl,rfl⟩
   go_wp2_with fail
   refine (hu.out _).mono ?_
   rintro e w1⟨rfl,hg⟩
   have hg':=hid hg
   clear hg
   have q1:((UInt8.ofNat (c / 256)).toNat:Int)=(c:Int) / 256:=by simp[UInt8.toNat_ofNat'];omega
   have q2:((UInt8.ofNat c).toNat:Int)=(c:Int) % 256:=by simp[UInt8.toNat_ofNat']
   have hcv:(convert 100 9 (.slice (some ⟨w1.heap.size,0,none⟩) 2 2)).run prog (w1.alloc (.cells #[.int .u8 ((c:Int) / 256),.int .u8 ((c:Int) % 256)] 5))=.ok (.string ⟨#[UInt8.ofNat (c / 256),UInt8.ofNat c]⟩) (w1.alloc (.cells #[.int .u8 ((c:Int) / 256),.int .u8 ((c:Int) % 256)] 5)) :=
    run_convert_bytes_back (P:=prog) (w1.alloc (.cells #[.int .u8 ((c:Int) / 256),.int .u8 ((c:Int) % 256)] 5)) 100 9 5 ⟨w1.heap.size,0,none⟩ 2 [UInt8.ofNat (c / 256),UInt8.ofNat c] underlying100 underlying5 underlying9 (λj hj=>by
     match j,hj with
     | 0,_=>simp only[List.getElem_cons_zero,q1];simp[Addr.add,go_sem]
     | 1,_=>simp only[List.getElem_cons_succ,List.getElem_cons_zero,q2];simp[Addr.add,go_sem])
   clear q1 q2
   have hcat:(⟨#[UInt8.ofNat (c / 256),UInt8.ofNat c]⟩:ByteArray)++(⟨#[]⟩:ByteArray)=⟨#[UInt8.ofNat (c / 256),UInt8.ofNat c]⟩:=cat_mk [UInt8.ofNat (c / 256),UInt8.ofNat c] []
   go_wp2
   refine bodyPost_ret (v:=.tuple #[.string ⟨#[UInt8.ofNat (c / 256),UInt8.ofNat c]⟩,.int .i64 0]) (by simp[results,results88,go_sem]) rfl ⟨⟨0,by rw[hv.out]⟩,hg'.out.alloc1 _⟩
