/-
  The check of texts in memory: a step.
-/
import Derived.Test.YtadobobfjnmdlaaGreatDoorP51
set_option linter.unnecessarySimpa false
set_option linter.unusedVariables false
set_option linter.unusedSimpArgs false
set_option maxHeartbeats 16000000
set_option maxRecDepth 100000
open Go.Lib (hid)
open Go.Proofs.Tryz
namespace Go.Proofs.YtadobobfjnmdlaaGreatDoor
open Go.RowKit
attribute [local go_sem] Oper.semAt_some
structure UkAt (B:Nat) (W:World) (k:Uk):Prop where
 c0:W.cell? ⟨B,0,none⟩=some (.int .i64 k.c.left)
 c1:W.cell? ⟨B,1,none⟩=some (.int .u8 k.c.low.toNat)
 c2:W.cell? ⟨B,2,none⟩=some (.int .u8 k.c.high.toNat)
 c3:W.cell? ⟨B,3,none⟩=some (.int .i32 k.c.x)
 c4:∃ n,W.cell? ⟨B,4,none⟩=some (.int .i64 n)
 c5:W.cell? ⟨B,5,none⟩=some (.bool k.bad)
 fz:∀ o,W.frozen? ⟨B,o,none⟩=false
 ok:UcOk k.c
theorem UkAt.lt {B:Nat} {W:World} {k:Uk} (h:UkAt B W k):B<W.heap.size:=cell_lt h.c0
theorem UkAt.gr {B:Nat} {W W':World} {k:Uk} (h:UkAt B W k) (g:Gr W W'):UkAt B W' k :=
 ⟨g.cell h.c0,g.cell h.c1,g.cell h.c2,g.cell h.c3,h.c4.imp λ_ e=>g.cell e,g.cell h.c5,λo=>(Below.frozen g (show B<W.heap.size from h.lt)).trans (h.fz o),h.ok⟩
theorem UkAt.put {B:Nat} {W:World} {k:Uk} (h:UkAt B W k) {c:Uc} (hc:UcOk c) :
  UkAt B ((((W.setCell ⟨B,0,none⟩ (.int .i64 c.left)).setCell ⟨B,1,none⟩ (.int .u8 c.low.toNat)).setCell ⟨B,2,none⟩ (.int .u8 c.high.toNat)).setCell ⟨B,3,none⟩ (.int .i32 c.x)) { k with c:=c }:=by
 refine⟨?_,?_,?_,?_,h.c4.imp λn e=>?_,?_,λo=>by rw[frozen_set,frozen_set,frozen_set,frozen_set];exact h.fz o,hc⟩
 all_goals simp[go_sem,h.c0,h.c1,h.c2,h.c3,h.c5]
 exact e
def StepPost (B:Nat) (W:World) (k:Uk) (o:Option Uc) (e:Ending) (W':World):Prop :=
 e=.returned (.bool o.isSome)∧UkAt B W' { k with c:=o.getD k.c }∧Ch (λj=>j=B) W W'
theorem ch4 {B:Nat} {W:World} (a b c d:Value):Ch (λj=>j=B) W ((((W.setCell ⟨B,0,none⟩ a).setCell ⟨B,1,none⟩ b).setCell ⟨B,2,none⟩ c).setCell ⟨B,3,none⟩ d) :=
 (((Ch.setCell (T:=λj=>j=B) W (a:=⟨B,0,none⟩) rfl a).trans (Ch.setCell (T:=λj=>j=B) _ (a:=⟨B,1,none⟩) rfl b)).trans (Ch.setCell (T:=λj=>j=B) _ (a:=⟨B,2,none⟩) rfl c)).trans (Ch.setCell (T:=λj=>j=B) _ (a:=⟨B,3,none⟩) rfl d)
theorem begU_left (b:UInt8):-1≤(begU b).1∧(begU b).1≤3:=by
 unfold begU
 repeat' split
 all_goals (constructor <;> (try simp only[]) <;> omega)
theorem ustep_0 (B:Nat) (W:World) (k:Uk) (b:UInt8) (h:UkAt B W k) (h0:k.c.left=0) :
  Calls prog 154 #[.pointer (some ⟨B,0,none⟩),.int .u8 b.toNat] W (StepPost B W k (stepU k.c b)):=by
 have h':=hid h
 have c0:=h.c0
 rw[h0] at c0
 have fz:=h.fz
 have k0:=h.c0
 have k1:=h.c1
 have k2:=h.c2
 have k3:=h.c3
 have hl:=begU_left b
 have hbg:=hid (ubegins_any b W)
 have hs:=hid (show stepU k.c b=if (begU b).1<0 then none else some ⟨(begU b).1.toNat,(begU b).2.1,(begU b).2.2.1,(begU b).2.2.2⟩ by unfold stepU;rw[if_pos h0])
 have hok:=hid (λc' e=>h.ok.step (b:=b) (c':=c') e)
 clear h h0 k0
 obtain⟨⟨x1,x2,x3,x4⟩,hbx⟩:∃ x,begU b=x:=⟨_,rfl⟩
 rw[hbx] at hl hs hbg
 dsimp only at hl hs
 go_enter func154,ntmps154
 go_wp2_with fail
 refine (hbg.out).mono ?_
 rintro e w1⟨rfl,rfl⟩
 unfold begV
 by_cases hn:x1<0
 ·rw[if_pos hn] at hs
  go_wp2
  go_ret
  exact⟨by rw[hs.out];rfl,by rw[hs.out];exact h'.out,Ch.refl _ _⟩
 ·rw[if_neg hn] at hs
  go_wp2
  go_ret
  refine⟨by rw[hs.out];rfl,?_,ch4 _ _ _ _⟩
  rw[hs.out]
  have hx:((x1.toNat:Nat):Int)=x1:=Int.toNat_of_nonneg (by omega)
  have:=h'.out.put (hok.out _ hs.out)
  simp only[Option.getD_some]
  dsimp only at this
  rw[hx] at this
  exact this
theorem ustep_n (B:Nat) (W:World) (k:Uk) (b:UInt8) (h:UkAt B W k) (h0:k.c.left≠0) (hb:(b<k.c.low||k.c.high<b)=true) :
  Calls prog 154 #[.pointer (some ⟨B,0,none⟩),.int .u8 b.toNat] W (StepPost B W k (stepU k.c b)):=by
 have h':=hid h
 have c0:=h.c0
 have c1:=h.c1
 have c2:=h.c2
 have hz:((k.c.left:Int)==0)=false:=beq_eq_false_iff_ne.2 (by omega)
 have hs:=hid (show stepU k.c b=none by unfold stepU;rw[if_neg h0,if_pos hb])
 have hb':b.toNat<k.c.low.toNat∨k.c.high.toNat<b.toNat:=by simpa[UInt8.lt_iff_toNat_lt] using hb
 clear h h0 hb
 by_cases h1:b.toNat<k.c.low.toNat
 ·go_enter func154,ntmps154
  go_wp2
  go_ret
  exact⟨by rw[hs.out];rfl,by rw[hs.out];exact h'.out,Ch.refl _ _⟩
 ·have h2:k.c.high.toNat<b.toNat:=by omega
  have h1:¬(b.toNat:Int)<k.c.low.toNat:=by omega
  clear hb'
  go_enter func154,ntmps154
  go_wp2
  go_ret
  exact⟨by rw[hs.out];rfl,by rw[hs.out];exact h'.out,Ch.refl _ _⟩
theorem or6 {x y:Nat} (hx:x<33554432) (hy:y<64):bits .or .i32 ((x:Int)*64) (y:Int)=((x*64+y:Nat):Int):=by
 have:=i32_or6 (x:=(x:Int)*64) (y:=(y:Int)) (by omega) (by omega) (by omega) (by omega) (by omega)
 rw[this];omega
theorem ustep_y (B:Nat) (W:World) (k:Uk) (b:UInt8) (h:UkAt B W k) (h0:k.c.left≠0) (hb:(b<k.c.low||k.c.high<b)=false) :
  Calls prog 154 #[.pointer (some ⟨B,0,none⟩),.int .u8 b.toNat] W (StepPost B W k (stepU k.c b)):=by
 have h':=hid h
 have c0:=h.c0
 have c1:=h.c1
 have c2:=h.c2
 have c3:=h.c3
 have fz:=h.fz
 have hz:((k.c.left:Int)==0)=false:=beq_eq_false_iff_ne.2 (by omega)
 have hs:=hid (show stepU k.c b=some ⟨k.c.left - 1,128,191,k.c.x*64+(b&&&63).toNat⟩ by unfold stepU;rw[if_neg h0,hb,if_neg (by decide)])
 have hb':¬b.toNat<k.c.low.toNat∧¬k.c.high.toNat<b.toNat:=by simpa[UInt8.lt_iff_toNat_lt] using hb
 have hb1:¬(b.toNat:Int)<k.c.low.toNat:=by omega
 have hb2:¬(k.c.high.toNat:Int)<b.toNat:=by omega
 have hok:=hid (λc' e=>h.ok.step (b:=b) (c':=c') e)
 have ha:=(and8_of b).2.2.2
 haveI:Nonempty (Later (Gr W)):=⟨⟨W,Gr.refl W⟩⟩
 have t0:∀ x:Later (Gr W),x.w.cell? ⟨B,0,none⟩=some (.int .i64 k.c.left):=λx=>x.ok.cell h.c0
 have t3:∀ x:Later (Gr W),x.w.cell? ⟨B,3,none⟩=some (.int .i32 k.c.x):=λx=>x.ok.cell h.c3
 obtain⟨hx1,hx2,hx3,hx4,hx5⟩:=h.ok
 have hxx:k.c.x<33554432:=by
  have:k.c.left=1∨k.c.left=2∨k.c.left=3:=by omega
  rcases this with e | e | e
  ·have:=hx3 e;omega
  ·have:=hx4 e;omega
  ·have:=hx5 e;omega
 clear h hb hb' hx2 hx3 hx4 hx5
 go_enter func154,ntmps154
 go_upto_region 9 with (fail)
 have hl1:(1:Int)≤k.c.left:=by omega
 have hl3:(k.c.left:Int)≤3:=by omega
 have hw1:IntKind.i64.wrap ((k.c.left:Int) - 1)=(k.c.left:Int) - 1:=IntWalk.i64_in _ (by omega)
 have hlt:(b&&&63).toNat<64:=by
  rw[UInt8.toNat_and]
  exact Nat.lt_of_le_of_lt Nat.and_le_right (by decide)
 have hbe:(b&&&63).toNat=b.toNat&&&63:=UInt8.toNat_and b 63
 have hv0:bits .or .i32 ((k.c.x:Int)*64) (((b&&&63).toNat:Nat):Int)=((k.c.x*64+(b&&&63).toNat:Nat):Int):=or6 hxx hlt
 have hq1:IntKind.i32.wrap ((k.c.x:Int)*64)=(k.c.x:Int)*64:=IntWalk.i32_in _ (by omega)
 have hb63:((b.toNat&&&63:Nat):Int)<64:=by omega
 have hq3:IntKind.i32.wrap ((b.toNat&&&63:Nat):Int)=((b.toNat&&&63:Nat):Int):=IntWalk.i32_in _ (by omega)
 have hq2:wrap32 ((b.toNat&&&63:Nat):Int)=((b.toNat&&&63:Nat):Int):=wrap32_small (by omega)
 have hv1:=hid (show bits .or .i32 (IntKind.i32.wrap ((k.c.x:Int)*64)) (IntKind.i32.wrap ((b.toNat&&&63:Nat):Int))=((k.c.x*64+(b&&&63).toNat:Nat):Int) by
  rw[hq1,hq3,←hbe];exact hv0)
 have hv2:=hid (show bits .or .i32 ((k.c.x:Int)*64) (wrap32 ((b.toNat&&&63:Nat):Int))=((k.c.x*64+(b&&&63).toNat:Nat):Int) by
  rw[hq2,←hbe];exact hv0)
 have hv3:=hid (show bits .or .i32 ((k.c.x:Int)*64) ((b.toNat&&&63:Nat):Int)=((k.c.x*64+(b&&&63).toNat:Nat):Int) by
  rw[←hbe];exact hv0)
 clear t0 t3 hv0 hq1 hq2 hq3 hb63 hbe hlt
 go_region_law (fail)
 all_goals
  go_wp2
  go_ret
  refine⟨by rw[hs.out];rfl,?_,(ch4 _ _ _ _).trans (Ch.drew _ _)⟩
  rw[hs.out]
  have p:=(h'.out.put (hok.out _ hs.out)).gr (Gr.drew (Gr.refl _))
  have q:((k.c.left - 1:Nat):Int)=(k.c.left:Int) - 1:=by omega
  dsimp only at p
  rw[q] at p
  first
   |(rw[←hv1.out] at p;exact p)
   |(rw[←hv2.out] at p;exact p)
   |(rw[←hv3.out] at p;exact p)
theorem ustep_any (B:Nat) (W:World) (k:Uk) (b:UInt8) (h:UkAt B W k) :
  Calls prog 154 #[.pointer (some ⟨B,0,none⟩),.int .u8 b.toNat] W (StepPost B W k (stepU k.c b)):=by
 by_cases h0:k.c.left=0
 ·exact ustep_0 B W k b h h0
 ·cases hb:(b<k.c.low||k.c.high<b) with
  | true=>exact ustep_n B W k b h h0 hb
  | false=>exact ustep_y B W k b h h0 hb
theorem UkAt.sbad {B:Nat} {W:World} {k:Uk} (h:UkAt B W k) (b:Bool):UkAt B (W.setCell ⟨B,5,none⟩ (.bool b)) { k with bad:=b }:=by
 refine⟨?_,?_,?_,?_,h.c4.imp λn e=>?_,?_,λo=>by rw[frozen_set];exact h.fz o,h.ok⟩
 all_goals simp[go_sem,h.c0,h.c1,h.c2,h.c3,h.c5]
 exact e
theorem UkAt.sat {B:Nat} {W:World} {k:Uk} (h:UkAt B W k) (n:Int):UkAt B (W.setCell ⟨B,4,none⟩ (.int .i64 n)) k:=by
 obtain⟨m,hm⟩:=h.c4
 refine⟨?_,?_,?_,?_,⟨n,?_⟩,?_,λo=>by rw[frozen_set];exact h.fz o,h.ok⟩
 all_goals simp[go_sem,h.c0,h.c1,h.c2,h.c3,h.c5,hm]
theorem uwhole_any {B:Nat} {W:World} {k:Uk} (h:UkAt B W k) :
  Calls prog 187 #[.pointer (some ⟨B,0,none⟩)] W λe w'=>e=.returned (.bool (wholeU k))∧W=w':=by
 have c0:=h.c0
 have c5:=h.c5
 clear h
 obtain⟨⟨l,lo,hi,x⟩,bad⟩:=k
 dsimp only at c0 c5
 cases bad with
 | true =>
  go_enter func187,ntmps187
  go_wp2
  go_ret
  exact⟨rfl,rfl⟩
 | false =>
  by_cases hl:l=0
  ·subst hl
   go_enter func187,ntmps187
   go_wp2
   go_ret
   exact⟨rfl,rfl⟩
  ·have hz:((l:Int)==0)=false:=beq_eq_false_iff_ne.2 (by omega)
   have hv:=hid (show wholeU ⟨⟨l,lo,hi,x⟩,false⟩=false by unfold wholeU;simp[hl])
   go_enter func187,ntmps187
   go_wp2
   go_ret
   exact⟨by rw[hv.out];rfl,rfl⟩
theorem uc0_ok:UcOk uc0:=⟨by decide,by decide,by decide,by decide,by decide⟩
theorem unew_any (W:World) :
  Calls prog 185 #[] W λe w'=>e=.returned (.pointer (some ⟨W.heap.size,0,none⟩))∧UkAt W.heap.size w' uk0∧Gr W w':=by
 go_enter func185,ntmps185
 go_wp2
 refine bodyPost_ret (v:=.pointer (some ⟨W.heap.size,0,none⟩)) (by simp[results,results185,go_sem]) rfl ⟨rfl,?_,Gr.alloc _ _⟩
 exact⟨cell_new7 _ _ _ 0 _ rfl,cell_new7 _ _ _ 1 _ rfl,cell_new7 _ _ _ 2 _ rfl,cell_new7 _ _ _ 3 _ rfl,⟨0,cell_new7 _ _ _ 4 _ rfl⟩,cell_new7 _ _ _ 5 _ rfl,λo=>World.frozen?_alloc_at _ _ _ _ rfl,uc0_ok⟩
def UfRel (B:Nat) (W:World) (k:Uk) (s:List UInt8) (i:Value) (wr:World):Prop :=
 ∃ j r,j≤s.length∧i=.int .i64 (j:Nat)∧UkAt B wr r∧Ch (λn=>n=B) W wr∧feedU k s=feedU r (s.drop j)
theorem ufeed_any (B:Nat) (W:World) (k:Uk) (s:List UInt8) (h:UkAt B W k) (hl:s.length≤4611686018427387904) :
  Calls prog 186 #[.pointer (some ⟨B,0,none⟩),.string ⟨s.toArray⟩] W λe w'=>e=.returned (.bool (!(feedU k s).bad))∧UkAt B w' (feedU k s)∧Ch (λn=>n=B) W w':=by
 have hst:=hid (show UfRel B W k s (.int .i64 0) W from⟨0,k,Nat.zero_le _,rfl,h,Ch.refl _ _,rfl⟩)
 clear h
 go_enter func186,ntmps186
 go_wp2
 go_loopw [5] (λi wr=>UfRel B W k s i wr) (λi _=>s.length - (intOf i).toNat)
 case atStart=>exact hst.out
 case round =>
  obtain⟨j,r,hj,rfl,hR,hC,he⟩:=hrel
  have hR':=hid hR
  have hC':=hid hC
  have he':=hid he
  have c5:=hR.c5
  by_cases hjl:j<s.length
  ·cases hb:r.bad with
   | true =>
    rw[hb] at c5
    have hfin:=hid (show feedU k s=r by rw[he,feedU_bad r hb])
    have hb':=hid hb
    clear hR hC he hb
    go_wp2
    go_ret
    exact⟨by rw[hfin.out,hb'.out];rfl,by rw[hfin.out];exact hR'.out,hC'.out⟩
   | false =>
    rw[hb] at c5
    have hb':=hid hb
    obtain⟨d,hd⟩:∃ d,(⟨s.toArray⟩:ByteArray)[j]'(by rw[size_mk];exact hjl)=d:=⟨_,rfl⟩
    have hsd:s[j]=d:=hd
    have hst2:=hid (ustep_any B wr r d hR)
    have hdr:=hid (show s.drop j=d :: s.drop (j+1) by rw[List.drop_eq_getElem_cons hjl,hsd])
    clear hR hC he hb hsd
    cases hs:stepU r.c d with
    | none =>
     have hs':=hid hs
     rw[hs] at hst2
     have hnx:=hid (show feedU k s=feedU { r with bad:=true } (s.drop (j+1)) by
      rw[he'.out,hdr.out,feedU_cons,hb'.out,if_neg (by decide),hs,feedU_bad _ rfl])
     clear hs
     go_wp2_with fail
     refine (hst2.out).mono ?_
     rintro e wd⟨rfl,hU,hCd⟩
     have hU5:=hU.sbad true
     have hU':=hid hU5
     have hCd':=hid (hC'.out.trans (hCd.trans (Ch.setCell (T:=λn=>n=B) wd (a:=⟨B,5,none⟩) rfl (.bool true))))
     have d5:=hU.c5
     have dz:=hU.fz
     clear hU hCd hU5
     go_wp2
     go_round
     case rel=>exact⟨j+1,{ r with bad:=true },hjl,by go_num,hU'.out,hCd'.out,hnx.out⟩
     case measure=>simp[intOf];omega
    | some c' =>
     have hs':=hid hs
     rw[hs] at hst2
     have hnx:=hid (show feedU k s=feedU ⟨c',false⟩ (s.drop (j+1)) by
      rw[he'.out,hdr.out,feedU_cons,hb'.out,if_neg (by decide),hs])
     clear hs
     go_wp2_with fail
     refine (hst2.out).mono ?_
     rintro e wd⟨rfl,hU,hCd⟩
     obtain⟨n,hn⟩:=hU.c4
     have hU5:=hU.sbad false
     have hU':=hid hU5
     have hCd':=hid (hC'.out.trans (hCd.trans (Ch.setCell (T:=λn=>n=B) wd (a:=⟨B,5,none⟩) rfl (.bool false))))
     have d5:=hU.c5
     have dz:=hU.fz
     clear hU hCd hU5
     go_wp2
     go_round
     case rel=>exact⟨j+1,⟨c',false⟩,hjl,by go_num,hU'.out.sat _,hCd'.out.trans (Ch.setCell (T:=λn=>n=B) _ (a:=⟨B,4,none⟩) rfl _),hnx.out⟩
     case measure=>simp[intOf];omega
  ·obtain rfl:j=s.length:=by omega
   have hfin:=hid (show feedU k s=r by rw[he,List.drop_length];rfl)
   clear hR hC he
   go_wp2
   go_ret
   exact⟨by rw[hfin.out];rfl,by rw[hfin.out];exact hR'.out,hC'.out⟩
end Go.Proofs.YtadobobfjnmdlaaGreatDoor
namespace Go
open Go.RowKit
def IterO {α:Type} (P:Program) (gf:Nat) (lb:Array Value) (encs:α→Array Value) (xs:List α) (T:Nat→Prop) (Gp:World→Prop) (W0:World):Prop :=
 ∀ (W:World) (l:Nat) (J Jx:List α→World→Prop) (U:Nat→Prop),
  W0.heap.size≤W.heap.size→(∀ k,T k→W.heap[k]?=W0.heap[k]?) →
  (∀ k,U k→k<W.heap.size∧¬T k) →
  (∀ pre A B,J pre A→Ch (λk=>T k∨W.heap.size≤k) A B→J pre B) →
  (∀ pre A B,Jx pre A→Ch (λk=>T k∨W.heap.size≤k) A B→Jx pre B) →
  (∀ pre A,J pre A→Gp A) →
  (∀ pre x rest A,xs=pre++x :: rest→W.heap.size≤A.heap.size→J pre A→YAt P l (encs x) A λe B =>
   (e=.returned (.bool true)∧J (pre++[x]) B∧Ch U A B)∨(e=.returned (.bool false)∧Jx (pre++[x]) B∧Ch U A B)) →
  J [] W →
  CallsIn Fence.wide 0 P gf (#[.func (.yield l) #[] #[]]++lb) W λe W'=>e=.returned (.tuple #[])∧(J xs W'∨∃ pre,pre <+: xs∧Jx pre W')
theorem wpIn_range2 {α:Type} {P:Program} {g:Operand} {ps:Array Tmp} {assign body:Code} {Q:Exit→Act→World→Prop} {a:Act} {w:World}
  {gf:Nat} {lb:Array Value} (hg:a.eval g=.func (.func gf) #[] lb) (eg:∀ args w,(callFunc gf args).run P w=.ok (.enter gf args) w)
  {encs:α→Array Value} {xs:List α} {T:Nat→Prop} {Gp:World→Prop} {W0:World} (hit:IterO P gf lb encs xs T Gp W0)
  (hW0:W0.heap.size≤w.heap.size) (hT:∀ k,T k→k<w.heap.size∧w.heap[k]?=W0.heap[k]?) (hps:∀ x,(encs x).size=ps.size)
  (I:List α→World→Prop) (Ix:Code→List α→World→Prop) (U:Nat→Prop) (hU:∀ k,U k→k<w.heap.size∧¬T k)
  (hI:∀ pre A B,I pre A→Ch (λk=>T k∨w.heap.size≤k) A B→I pre B)
  (hIx:∀ c pre A B,Ix c pre A→Ch (λk=>T k∨w.heap.size≤k) A B→Ix c pre B)
  (hIG:∀ pre A,I pre A→Gp A) (h0:I [] w)
  (hround:∀ (l:Nat) (pre:List α) (x:α) (rest:List α) (A:World),(w.heap.size+1≤l∧l≤w.heap.size+1)→w.heap.size+2≤A.heap.size→xs=pre++x :: rest→I pre A →
   assign.wpIn (Fence.wide.inRound l) 0 P (Exit.then (λa₁ A₁=>Ch U A A₁∧∀ A₂,Ch (·=l) A₁ A₂→body.wpIn (Fence.wide.inRound l) 0 P (rPost U I Ix (pre++[x]) A₂) a₁ A₂) (λ_ _ _=>False))
    { tmps:=(ps.zip (encs x)).foldl (λt (p,v)=>t.setIfInBounds p v) a.tmps,defers:=[] } A)
  (hdone:∀ (D:Nat) (W:World),(w.heap.size≤D∧D≤w.heap.size)→I xs W→W.heap[D]?=some (.deferred (some []))→Q .normal { a with defers:={ target:=.collected D,args:=#[] } :: a.defers } W)
  (hstop:∀ (D:Nat) (c:Code) (pre:List α) (W:World),(w.heap.size≤D∧D≤w.heap.size)→pre <+: xs→Ix c pre W→W.heap[D]?=some (.deferred (some []))→c.wpIn Fence.wide 0 P Q { a with defers:={ target:=.collected D,args:=#[] } :: a.defers } W) :
  (Code.rangeFunc g ps assign body).wpIn Fence.wide 0 P Q a w:=by
 refine wpIn_rangeFunc ?_
 intro fn hfn
 rw[show Fence.wide.round=none from rfl]
 obtain⟨rec,hrec⟩:∃ rec:LoopState→Option Code→Loop,rec=λst pe=>{ state:=st,pending:=pe,fn,tmps:=a.tmps,params:=ps,assign,body,defers:=w.heap.size }:=⟨_,rfl⟩
 obtain⟨W1,hW1⟩:∃ W1,(w.alloc (.deferred (some []))).alloc (.loop (rec .ready none))=W1:=⟨_,rfl⟩
 have hL1:W1.heap[w.heap.size+1]?=some (.loop (rec .ready none)):=by
  rw[←hW1];have:=World.alloc_heap_new (w.alloc (.deferred (some []))) (.loop (rec .ready none));rwa [World.size_alloc] at this
 have hK1:W1.heap[w.heap.size]?=some (.deferred (some [])):=by
  rw[←hW1];exact (Below.heap_alloc _ _ _ (by simp)).trans (World.alloc_heap_new w _)
 have hch1:∀ T',Ch T' w W1:=λT'=>by rw[←hW1];exact (Ch.alloc _ _ _).trans (Ch.alloc _ _ _)
 have hs1:W1.heap.size=w.heap.size+2:=by rw[←hW1];simp
 have hI1:I [] W1:=hI _ _ _ h0 (hch1 _)
 have hTl:∀ k,w.heap.size≤k→¬T k:=λk hk ht=>by have:=(hT k ht).1;omega
 have hUl:∀ k,w.heap.size≤k→k<w.heap.size+2→¬U k:=λk hk hk2 ht=>by have:=(hU k ht).1;omega
 refine⟨w.heap.size+1,[{ target:=.collected w.heap.size,args:=#[] }],W1,{ target:=.fn (.func gf) lb,args:=#[.func (.yield (w.heap.size+1)) #[] #[]] },W1,gf,
  #[.func (.yield (w.heap.size+1)) #[] #[]]++lb,W1,?_,?_,λ_ _=>trivial,?_,λh=>by simp[Fence.wide] at h,?_⟩
 ·rw[←hW1,hrec];exact run_enterLoop_outer _ _ _ _ _
 ·simp only[resolve,hg]
  simp[go_sem]
 ·simp[invoke,go_sem,eg]
 ·-- the two blocks of book-keeping stay under the iterator's own steps
  have bk:∀ {A B:World} {o:Obj} {k:Nat},w.heap.size≤k→k<w.heap.size+2→A.heap[k]?=some o→Ch (λk=>T k∨W1.heap.size≤k) A B→B.heap[k]?=some o:=fun {A B o k} h1 h2 h3 h4 =>
   h4.get h3 (λe=>by
    rcases e with e | e
    ·exact hTl _ h1 e
    ·rw[hs1] at e;omega)
  have wid:∀ {A B:World},Ch (λk=>T k∨W1.heap.size≤k) A B→Ch (λk=>T k∨w.heap.size≤k) A B:=λh =>
   h.mono (λk hk=>by rcases hk with hk | hk;exact .inl hk;exact .inr (by rw[hs1] at hk;omega))
  refine (hit W1 (w.heap.size+1)
   (λpre W=>I pre W∧W.heap[w.heap.size+1]?=some (.loop (rec .ready none))∧W.heap[w.heap.size]?=some (.deferred (some [])))
   (λpre W=>∃ c,Ix c pre W∧W.heap[w.heap.size+1]?=some (.loop (rec .done (some c)))∧W.heap[w.heap.size]?=some (.deferred (some [])))
   (λk=>U k∨k=w.heap.size+1)
   (by rw[hs1];omega) (λk hk=>((hch1 (λ_=>False)).block k (hT k hk).1 (λh=>h)).trans (hT k hk).2)
   (λk hk=>by
    rcases hk with hk | hk
    ·exact⟨by have:=(hU k hk).1;rw[hs1];omega,(hU k hk).2⟩
    ·subst hk;exact⟨by rw[hs1];omega,hTl _ (Nat.le_succ _)⟩)
   (λpre A B hs hc=>⟨hI _ _ _ hs.1 (wid hc),bk (Nat.le_succ _) (by omega) hs.2.1 hc,bk (Nat.le_refl _) (by omega) hs.2.2 hc⟩)
   (λpre A B hs hc=>by
    obtain⟨c,hc1,hc2,hc3⟩:=hs
    exact⟨c,hIx _ _ _ _ hc1 (wid hc),bk (Nat.le_succ _) (by omega) hc2 hc,bk (Nat.le_refl _) (by omega) hc3 hc⟩)
   (λpre A hs=>hIG _ _ hs.1) ?_ ⟨hI1,hL1,hK1⟩).mono ?_
  ·-- one round
   rintro pre x rest A hxs hsA⟨hi,hl,hk⟩
   have hlt:w.heap.size+1<A.heap.size:=(Array.getElem?_eq_some_iff.1 hl).1
   have hy:=run_yield (P:=P) (args:=encs x) hl (by rw[hrec];exact hps x)
   rw[hrec] at hy
   refine⟨fn,_,assign,body,hy,roundIn_of_wpIn hfn ?_⟩
   clear hy
   refine wpIn_mono (hround (w.heap.size+1) pre x rest A ⟨Nat.le_refl _,Nat.le_refl _⟩ (by rw[hs1] at hsA;exact hsA) hxs hi) ?_
   rintro e a₁ A₁ he
   cases e with
   | normal =>
    obtain⟨hch,hbody⟩:=he
    have hl':A₁.heap[w.heap.size+1]?=some (.loop (rec .ready none)):=hch.get hl (hUl _ (Nat.le_succ _) (by omega))
    have hk':A₁.heap[w.heap.size]?=some (.deferred (some [])):=hch.get hk (hUl _ (Nat.le_refl _) (by omega))
    have hlt':w.heap.size+1<A₁.heap.size:=(Array.getElem?_eq_some_iff.1 hl').1
    refine⟨_,run_beginRound hl' (by rw[hrec]),?_⟩
    refine wpIn_mono (hbody _ (Ch.putObj (T:=λk=>k=w.heap.size+1) _ rfl _)) ?_
    have hl2:(A₁.putObj (w.heap.size+1) (.loop { rec .ready none with state:=.busy })).heap[w.heap.size+1]?=some (.loop { rec .ready none with state:=.busy }):=World.putObj_heap_same hlt'
    have hk2:(A₁.putObj (w.heap.size+1) (.loop { rec .ready none with state:=.busy })).heap[w.heap.size]?=some (.deferred (some [])):=(World.putObj_heap_other (by omega)).trans hk'
    have fin:∀ (jump:Option Code) (W3:World),Ch U (A₁.putObj (w.heap.size+1) (.loop { rec .ready none with state:=.busy })) W3 →
      (Instr.endRound (w.heap.size+1) jump).run P W3=.ok (.bool jump.isNone) (W3.putObj (w.heap.size+1) (.loop (rec (if jump.isNone then .ready else .done) jump))) ∧
      (W3.putObj (w.heap.size+1) (.loop (rec (if jump.isNone then .ready else .done) jump))).heap[w.heap.size+1]?=some (.loop (rec (if jump.isNone then .ready else .done) jump)) ∧
      (W3.putObj (w.heap.size+1) (.loop (rec (if jump.isNone then .ready else .done) jump))).heap[w.heap.size]?=some (.deferred (some [])) ∧
      Ch (λk=>U k∨k=w.heap.size+1) A (W3.putObj (w.heap.size+1) (.loop (rec (if jump.isNone then .ready else .done) jump))) ∧
      Ch (λk=>T k∨w.heap.size≤k) W3 (W3.putObj (w.heap.size+1) (.loop (rec (if jump.isNone then .ready else .done) jump))):=λjump W3 hk3=>by
     have hl3:W3.heap[w.heap.size+1]?=some (.loop { rec .ready none with state:=.busy }):=hk3.get hl2 (hUl _ (Nat.le_succ _) (by omega))
     have:=run_endRound (P:=P) jump hl3
     rw[hrec] at this ⊢
     exact⟨this,World.putObj_heap_same (Array.getElem?_eq_some_iff.1 hl3).1,(World.putObj_heap_other (by omega)).trans (hk3.get hk2 (hUl _ (Nat.le_refl _) (by omega))),
      (((hch.mono (λ_ h=>.inl h)).trans (Ch.putObj _ (.inr rfl) _)).trans (hk3.mono (λ_ h=>.inl h))).trans (Ch.putObj _ (.inr rfl) _),Ch.putObj _ (.inr (Nat.le_succ _)) _⟩
    rintro e a3 W3 hp
    cases e with
    | normal =>
     obtain⟨hk3,hi3⟩:=hp
     obtain⟨hr,hl4,hk4,hc4,ho4⟩:=fin none W3 hk3
     exact⟨_,_,hr,.inl ⟨rfl,⟨hI _ _ _ hi3 ho4,hl4,hk4⟩,hc4⟩⟩
    | ret =>
     obtain⟨hk3,hi3⟩:=hp
     obtain⟨hr,hl4,hk4,hc4,ho4⟩:=fin (some .ret) W3 hk3
     exact⟨_,_,hr,.inr ⟨rfl,⟨_,hIx _ _ _ _ hi3 ho4,hl4,hk4⟩,hc4⟩⟩
    | exit id =>
     obtain⟨hk3,hi3⟩:=hp
     obtain⟨hr,hl4,hk4,hc4,ho4⟩:=fin (some (.exit id)) W3 hk3
     exact⟨_,_,hr,.inr ⟨rfl,⟨_,hIx _ _ _ _ hi3 ho4,hl4,hk4⟩,hc4⟩⟩
    | goto t =>
     obtain⟨hk3,hi3⟩:=hp
     obtain⟨hr,hl4,hk4,hc4,ho4⟩:=fin (some (.goto t)) W3 hk3
     exact⟨_,_,hr,.inr ⟨rfl,⟨_,hIx _ _ _ _ hi3 ho4,hl4,hk4⟩,hc4⟩⟩
    | panic ch=>exact hp.elim
    | outgrown=>exact hp.elim
   | ret=>exact he.elim
   | exit id=>exact he.elim
   | goto t=>exact he.elim
   | panic ch=>exact he.elim
   | outgrown=>exact he.elim
  ·-- behind the iterator
   rintro e W2⟨rfl,(⟨hi,hl,hk⟩ | ⟨pre,hpre,c,hi,hl,hk⟩)⟩
   ·exact⟨none,_,by have:=run_endLoop (P:=P) hl (by rw[hrec];simp);rw[hrec] at this;exact this,hdone _ _ ⟨Nat.le_refl _,Nat.le_refl _⟩ (hI _ _ _ hi (Ch.putObj _ (.inr (Nat.le_succ _)) _)) ((World.putObj_heap_other (by omega)).trans hk)⟩
   ·exact⟨some c,_,by have:=run_endLoop (P:=P) hl (by rw[hrec];simp);rw[hrec] at this;exact this,hstop _ c pre _ ⟨Nat.le_refl _,Nat.le_refl _⟩ hpre (hIx _ _ _ _ hi (Ch.putObj _ (.inr (Nat.le_succ _)) _)) ((World.putObj_heap_other (by omega)).trans hk)⟩
def IterF {α:Type} (P:Program) (gf:Nat) (lb:Array Value) (encs:α→Array Value) (M:α→World→World→Prop) (N:World→World→Prop) (W0:World):Prop :=
 ∀ (W:World) (l:Nat) (Jx:World→Prop),Gr W0 W →
  (∀ x A,M x W A→YAt P l (encs x) A λe B=>e=.returned (.bool false)∧Jx B) →
  CallsIn Fence.wide 0 P gf (#[.func (.yield l) #[] #[]]++lb) W λe W'=>e=.returned (.tuple #[])∧(N W W'∨Jx W')
theorem wpIn_range1 {α:Type} {P:Program} {g:Operand} {ps:Array Tmp} {assign body:Code} {Q:Exit→Act→World→Prop} {a:Act} {w:World}
  {gf:Nat} {lb:Array Value} (hg:a.eval g=.func (.func gf) #[] lb) (eg:∀ args w,(callFunc gf args).run P w=.ok (.enter gf args) w)
  {encs:α→Array Value} {M:α→World→World→Prop} {N:World→World→Prop} (hit:IterF P gf lb encs M N w) (T:Nat→Prop)
  (hT:∀ k,T k→k<w.heap.size) (hM:∀ x A B,M x A B→Ch T A B) (hN:∀ A B,N A B→Ch T A B) (hps:∀ x,(encs x).size=ps.size)
  (Ix:Code→World→Prop) (U:Nat→Prop) (hU:∀ k,U k→k<w.heap.size∨w.heap.size+2≤k)
  (hIx:∀ c A B,Ix c A→Ch (λk=>k=w.heap.size+1) A B→Ix c B)
  (hround:∀ (l:Nat) (x:α) (W1 A:World),(w.heap.size+1≤l∧l≤w.heap.size+1)→Gr w W1→W1.heap.size=w.heap.size+2→M x W1 A →
   assign.wpIn (Fence.wide.inRound l) 0 P (Exit.then (λa₁ A₁=>Ch U A A₁∧∀ A₂,Ch (·=l) A₁ A₂→body.wpIn (Fence.wide.inRound l) 0 P (rPost U (λ(_:List α) _=>False) (λc _ W'=>Ix c W') [x] A₂) a₁ A₂) (λ_ _ _=>False))
    { tmps:=(ps.zip (encs x)).foldl (λt (p,v)=>t.setIfInBounds p v) a.tmps,defers:=[] } A)
  (hdone:∀ (D:Nat) (W1 W2 W:World),(w.heap.size≤D∧D≤w.heap.size)→Gr w W1→W1.heap.size=w.heap.size+2→N W1 W2→Ch (λk=>k=w.heap.size+1) W2 W→W.heap[D]?=some (.deferred (some []))→Q .normal { a with defers:={ target:=.collected D,args:=#[] } :: a.defers } W)
  (hstop:∀ (D:Nat) (c:Code) (W:World),(w.heap.size≤D∧D≤w.heap.size)→Ix c W→W.heap[D]?=some (.deferred (some []))→c.wpIn Fence.wide 0 P Q { a with defers:={ target:=.collected D,args:=#[] } :: a.defers } W) :
  (Code.rangeFunc g ps assign body).wpIn Fence.wide 0 P Q a w:=by
 refine wpIn_rangeFunc ?_
 intro fn hfn
 rw[show Fence.wide.round=none from rfl]
 obtain⟨rec,hrec⟩:∃ rec:LoopState→Option Code→Loop,rec=λst pe=>{ state:=st,pending:=pe,fn,tmps:=a.tmps,params:=ps,assign,body,defers:=w.heap.size }:=⟨_,rfl⟩
 obtain⟨W1,hW1⟩:∃ W1,(w.alloc (.deferred (some []))).alloc (.loop (rec .ready none))=W1:=⟨_,rfl⟩
 have hL1:W1.heap[w.heap.size+1]?=some (.loop (rec .ready none)):=by
  rw[←hW1];have:=World.alloc_heap_new (w.alloc (.deferred (some []))) (.loop (rec .ready none));rwa [World.size_alloc] at this
 have hK1:W1.heap[w.heap.size]?=some (.deferred (some [])):=by
  rw[←hW1];exact (Below.heap_alloc _ _ _ (by simp)).trans (World.alloc_heap_new w _)
 have hg1:Gr w W1:=by rw[←hW1];exact ((Gr.refl w).alloc1 _).alloc1 _
 have hs1:W1.heap.size=w.heap.size+2:=by rw[←hW1];simp
 have hTl:∀ k,w.heap.size≤k→¬T k:=λk hk ht=>by have:=hT k ht;omega
 have hUl:∀ k,w.heap.size≤k→k<w.heap.size+2→¬U k:=λk hk hk2 ht=>by have:=hU k ht;omega
 refine⟨w.heap.size+1,[{ target:=.collected w.heap.size,args:=#[] }],W1,{ target:=.fn (.func gf) lb,args:=#[.func (.yield (w.heap.size+1)) #[] #[]] },W1,gf,
  #[.func (.yield (w.heap.size+1)) #[] #[]]++lb,W1,?_,?_,λ_ _=>trivial,?_,λh=>by simp[Fence.wide] at h,?_⟩
 ·rw[←hW1,hrec];exact run_enterLoop_outer _ _ _ _ _
 ·simp only[resolve,hg]
  simp[go_sem]
 ·simp[invoke,go_sem,eg]
 ·refine (hit W1 (w.heap.size+1) (λW=>∃ c,Ix c W∧W.heap[w.heap.size+1]?=some (.loop (rec .done (some c)))∧W.heap[w.heap.size]?=some (.deferred (some []))) hg1 ?_).mono ?_
  ·-- the one round
   intro x A hm
   have hcA:=hM x _ _ hm
   have hl:A.heap[w.heap.size+1]?=some (.loop (rec .ready none)):=hcA.get hL1 (hTl _ (Nat.le_succ _))
   have hk:A.heap[w.heap.size]?=some (.deferred (some [])):=hcA.get hK1 (hTl _ (Nat.le_refl _))
   have hy:=run_yield (P:=P) (args:=encs x) hl (by rw[hrec];exact hps x)
   rw[hrec] at hy
   refine⟨fn,_,assign,body,hy,roundIn_of_wpIn hfn ?_⟩
   clear hy
   refine wpIn_mono (hround (w.heap.size+1) x W1 A ⟨Nat.le_refl _,Nat.le_refl _⟩ hg1 hs1 hm) ?_
   rintro e a₁ A₁ he
   cases e with
   | normal =>
    obtain⟨hch,hbody⟩:=he
    have hl':A₁.heap[w.heap.size+1]?=some (.loop (rec .ready none)):=hch.get hl (hUl _ (Nat.le_succ _) (by omega))
    have hk':A₁.heap[w.heap.size]?=some (.deferred (some [])):=hch.get hk (hUl _ (Nat.le_refl _) (by omega))
    have hlt':w.heap.size+1<A₁.heap.size:=(Array.getElem?_eq_some_iff.1 hl').1
    refine⟨_,run_beginRound hl' (by rw[hrec]),?_⟩
    refine wpIn_mono (hbody _ (Ch.putObj (T:=λk=>k=w.heap.size+1) _ rfl _)) ?_
    have hl2:(A₁.putObj (w.heap.size+1) (.loop { rec .ready none with state:=.busy })).heap[w.heap.size+1]?=some (.loop { rec .ready none with state:=.busy }):=World.putObj_heap_same hlt'
    have hk2:(A₁.putObj (w.heap.size+1) (.loop { rec .ready none with state:=.busy })).heap[w.heap.size]?=some (.deferred (some [])):=(World.putObj_heap_other (by omega)).trans hk'
    have fin:∀ (c:Code) (W3:World),Ch U (A₁.putObj (w.heap.size+1) (.loop { rec .ready none with state:=.busy })) W3 →
      (Instr.endRound (w.heap.size+1) (some c)).run P W3=.ok (.bool false) (W3.putObj (w.heap.size+1) (.loop (rec .done (some c)))) ∧
      (W3.putObj (w.heap.size+1) (.loop (rec .done (some c)))).heap[w.heap.size+1]?=some (.loop (rec .done (some c))) ∧
      (W3.putObj (w.heap.size+1) (.loop (rec .done (some c)))).heap[w.heap.size]?=some (.deferred (some [])) ∧
      Ch (λk=>k=w.heap.size+1) W3 (W3.putObj (w.heap.size+1) (.loop (rec .done (some c)))):=λc W3 hk3=>by
     have hl3:W3.heap[w.heap.size+1]?=some (.loop { rec .ready none with state:=.busy }):=hk3.get hl2 (hUl _ (Nat.le_succ _) (by omega))
     have:=run_endRound (P:=P) (some c) hl3
     rw[hrec] at this ⊢
     exact⟨this,World.putObj_heap_same (Array.getElem?_eq_some_iff.1 hl3).1,(World.putObj_heap_other (by omega)).trans (hk3.get hk2 (hUl _ (Nat.le_refl _) (by omega))),Ch.putObj (T:=λk=>k=w.heap.size+1) _ rfl _⟩
    rintro e a3 W3 hp
    cases e with
    | normal=>exact hp.2.elim
    | ret =>
     obtain⟨hk3,hi3⟩:=hp
     obtain⟨hr,hl4,hk4,ho4⟩:=fin .ret W3 hk3
     exact⟨_,_,hr,rfl,_,hIx _ _ _ hi3 ho4,hl4,hk4⟩
    | exit id =>
     obtain⟨hk3,hi3⟩:=hp
     obtain⟨hr,hl4,hk4,ho4⟩:=fin (.exit id) W3 hk3
     exact⟨_,_,hr,rfl,_,hIx _ _ _ hi3 ho4,hl4,hk4⟩
    | goto t =>
     obtain⟨hk3,hi3⟩:=hp
     obtain⟨hr,hl4,hk4,ho4⟩:=fin (.goto t) W3 hk3
     exact⟨_,_,hr,rfl,_,hIx _ _ _ hi3 ho4,hl4,hk4⟩
    | panic ch=>exact hp.elim
    | outgrown=>exact hp.elim
   | ret=>exact he.elim
   | exit id=>exact he.elim
   | goto t=>exact he.elim
   | panic ch=>exact he.elim
   | outgrown=>exact he.elim
  ·-- behind the iterator
   rintro e W2⟨rfl,(hn | ⟨c,hi,hl,hk⟩)⟩
   ·have hc2:=hN _ _ hn
    have hl:=hc2.get hL1 (hTl _ (Nat.le_succ _))
    have hk:=hc2.get hK1 (hTl _ (Nat.le_refl _))
    exact⟨none,_,by have:=run_endLoop (P:=P) hl (by rw[hrec];simp);rw[hrec] at this;exact this,hdone _ W1 W2 _ ⟨Nat.le_refl _,Nat.le_refl _⟩ hg1 hs1 hn (Ch.putObj (T:=λk=>k=w.heap.size+1) _ rfl _) ((World.putObj_heap_other (by omega)).trans hk)⟩
   ·exact⟨some c,_,by have:=run_endLoop (P:=P) hl (by rw[hrec];simp);rw[hrec] at this;exact this,hstop _ c _ ⟨Nat.le_refl _,Nat.le_refl _⟩ (hIx _ _ _ hi (Ch.putObj (T:=λk=>k=w.heap.size+1) _ rfl _)) ((World.putObj_heap_other (by omega)).trans hk)⟩
