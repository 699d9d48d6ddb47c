/-
  Walks over package sha: the sum's bytes.
-/
import Derived.Test.YtadobobfjnmdlaaGreatDoorSd
import Derived.Lib.Repeat
import Derived.Laws.IdiomCopy
set_option linter.unnecessarySimpa false
set_option linter.unusedVariables false
set_option linter.unusedSimpArgs false
set_option maxHeartbeats 16000000
set_option maxRecDepth 100000
open Go.Lib (hid)
open Go.Proofs.Tryz
namespace Go.Proofs.YtadobobfjnmdlaaGreatDoor
open Go.RowKit
attribute [local go_sem] Oper.semAt_some
theorem HashAt.fresh (W:World) (bg:Bool) (h:W5) (rest:List UInt8) (n:Nat) (t:TypeId):HashAt W.heap.size (W.alloc (.cells #[.bool bg,.int .u32 h.a,.int .u32 h.b,.int .u32 h.c,.int .u32 h.d,.int .u32 h.e,.string ⟨rest.toArray⟩,.int .i64 n] t)) bg h rest n :=
 let cs:List Value:=[.bool bg,.int .u32 h.a,.int .u32 h.b,.int .u32 h.c,.int .u32 h.d,.int .u32 h.e,.string ⟨rest.toArray⟩,.int .i64 n]
 ⟨cell_new7 W cs t 0 _ rfl,cell_new7 W cs t 1 _ rfl,cell_new7 W cs t 2 _ rfl,cell_new7 W cs t 3 _ rfl,cell_new7 W cs t 4 _ rfl,cell_new7 W cs t 5 _ rfl,cell_new7 W cs t 6 _ rfl,cell_new7 W cs t 7 _ rfl,λo=>World.frozen?_alloc_at _ _ _ _ rfl⟩
theorem step_copy {P:Program} {w:World} {ops:Array Oper} {o:Oper} {a:Act} {K:Act→World→Prop} {Q:Exit→Act→World→Prop} {E:Prop} (hgd:o.guard=none) (s x:Operand) (t u elem:TypeId)
  (ho:o.op=.call { callee:=.builtin .copy,args:=#[s,x],argTypes:=#[t,u] }) (b off dLen dCap:Nat) (a0:Addr) (sLen sCap:Nat) (cs:List Value)
  (hs:a.eval s=.slice (some ⟨b,off,none⟩) dLen dCap) (hx:a.eval x=.slice (some a0) sLen sCap) (hu:P.underlying t=some (.slice elem)) (hz:(P.info? elem).map (·.size)=some 1) (hn:cs.length=Nat.min sLen dLen)
  (hsrc:∀ j v,cs[j]?=some v→w.cell? (a0.add j)=some v) (hc:∀ j,j<cs.length→(w.cell? ⟨b,off+j,none⟩).isSome=true) (hf:∀ j,j<cs.length→w.frozen? ⟨b,off+j,none⟩=false) (h1:∀ v∈cs,v.oneCell'=true)
  (h:K (a.put o.dst (goInt cs.length)) (w.setCells b off cs)) :
  if Region.wanted o (yielded ops a.tmps)=true then Oper.wp P o a w K Q else E:=by
 have hw:Region.wanted o (yielded ops a.tmps)=true:=by simp[Region.wanted,hgd]
 rw[if_pos hw]
 have hr:=run_copy_cells (P:=P) w t u o.type elem b off dLen dCap a0 sLen sCap cs hu hz hn hsrc hc hf h1
 unfold Oper.wp execOp
 simp only[ho,resolve,invoke,builtin,Sem.run_bind,Sem.run_pure,Result.andThen_ok,List.map_toArray,List.map_cons,List.map_nil,hs,hx,hr]
 exact h
def OutAt (W:World) (b:Nat) (l:List UInt8):Prop:=(∀ j,j<20→W.cell? ⟨b,j,none⟩=some (.int .u8 ((l.getD j 0).toNat:Int)))∧∀ j,W.frozen? ⟨b,j,none⟩=false
theorem OutAt.lt {W:World} {b:Nat} {l:List UInt8} (h:OutAt W b l):b<W.heap.size:=cell_lt (h.1 0 (by decide))
theorem OutAt.ch {T:Nat→Prop} {W W':World} {b:Nat} {l:List UInt8} (h:OutAt W b l) (hc:Ch T W W') (hb:¬T b):OutAt W' b l :=
 ⟨λj hj=>(hc.cell (p:=⟨b,j,none⟩) h.lt hb).trans (h.1 j hj),λj=>(hc.frozen (p:=⟨b,j,none⟩) h.lt hb).trans (h.2 j)⟩
theorem OutAt.gr {W W':World} {b:Nat} {l:List UInt8} (h:OutAt W b l) (hg:Gr W W'):OutAt W' b l:=h.ch (hg.to_ch (λ_=>False)) (λh=>h)
def outN (h:W5):Nat→List UInt8
 | 0=>[]
 | i+1=>outN h i++beB (h.at i) 4
theorem outN_len (h:W5):∀ i,(outN h i).length=4*i
 | 0=>rfl
 | i+1=>by rw[outN,List.length_append,outN_len h i,beB_len];omega
theorem outN_all (h:W5):outN h 5=outL h:=by simp[outN,outL,W5.at]
theorem at_lt {h:W5} (hk:h.ok):∀ i,h.at i<4294967296
 | 0=>hk.a | 1=>hk.b | 2=>hk.c | 3=>hk.d | _+4=>hk.e
theorem OutAt.next {W:World} {b:Nat} {l x:List UInt8} (h:OutAt W b l) (hx:l.length+x.length≤20):OutAt (W.setCells b l.length (bcells x)) b (l++x):=by
 refine⟨λj hj=>?_,λj=>by rw[World.frozen?_setCells];exact h.2 j⟩
 by_cases h1:j<l.length
 ·rw[World.cell?_setCells_out b _ _ W ⟨b,j,none⟩ (λ_ _=>.inl h1),h.1 j hj]
  simp[List.getD_eq_getElem?_getD,List.getElem?_append_left h1]
 ·by_cases h2:j<l.length+x.length
  ·have e:j=l.length+(j - l.length):=by omega
   have hb:j - l.length<(bcells x).length:=by rw[bcells_len];omega
   rw[e,World.cell?_setCells_in b (bcells x) l.length W (λi hi=>by rw[h.1 _ (by rw[bcells_len] at hi;omega)];rfl) (j - l.length) hb]
   have hx2:j - l.length<x.length:=by omega
   simp[bcells,List.getD_eq_getElem?_getD,hx2]
  ·rw[World.cell?_setCells_out b _ _ W ⟨b,j,none⟩ (λ_ _=>.inr (by rw[bcells_len];show _≤j;omega)),h.1 j hj]
   simp[List.getD_eq_getElem?_getD,List.getElem?_eq_none (show l.length≤j by omega),List.getElem?_eq_none (show (l++x).length≤j by rw[List.length_append];omega)]
theorem repeat_zero:∀ n,Lib.repeatL [0] n=List.replicate n 0
 | 0=>rfl
 | n+1=>by rw[Lib.repeatL,repeat_zero n];rfl
def bytesV (l:List UInt8):Value:=.agg (bcells l).toArray
def padOf (r n:Nat):List UInt8:=[128]++List.replicate ((120 - (r+1) % 64) % 64) 0++beB (n*8) 8
theorem sumM_any (b:Nat) (h:W5) (rest:List UInt8) (n:Nat) (W:World) (H:HashAt b W true h rest n) (hok:h.ok) (hr:rest.length<64) (hn:n≤900000) :
  Calls prog 214 #[.pointer (some ⟨b,0,none⟩)] W λe W'=>e=.returned (bytesV (outL (absorb h (rest++padOf rest.length n)).1))∧Gr W W':=by
 have H':=hid H
 have q0:=H.c0
 have q1:=H.c1
 have q2:=H.c2
 have q3:=H.c3
 have q4:=H.c4
 have q5:=H.c5
 have q6:=H.c6
 have q7:=H.c7
 have hbl:=cell_lt H.c0
 have hnI:(n:Int)≤900000:=by omega
 clear H
 obtain⟨⟨h1,r1⟩,hx1⟩:∃ x,absorb h (rest++[128])=x:=⟨_,rfl⟩
 obtain⟨z,hz⟩:∃ z,(120 - r1.length) % 64=z:=⟨_,rfl⟩
 obtain⟨⟨h2,r2⟩,hx2⟩:∃ x,absorb h1 (r1++List.replicate z 0)=x:=⟨_,rfl⟩
 obtain⟨⟨h3,r3⟩,hx3⟩:∃ x,absorb h2 (r2++beB (n*8) 8)=x:=⟨_,rfl⟩
 have hok1:h1.ok:=by have:=(absorb_ok _ (l:=rest++[128]) hok (Nat.le_refl _)).1;rwa [hx1] at this
 have hok2:h2.ok:=by have:=(absorb_ok _ (l:=r1++List.replicate z 0) hok1 (Nat.le_refl _)).1;rwa [hx2] at this
 have hok3:h3.ok:=by have:=(absorb_ok _ (l:=r2++beB (n*8) 8) hok2 (Nat.le_refl _)).1;rwa [hx3] at this
 have hl1:r1.length=(rest.length+1) % 64:=by have:=absorb_mod _ h (rest++[128]) (Nat.le_refl _);rw[hx1] at this;simpa using this
 have hl2:r2.length<64:=by have:=(absorb_ok _ (l:=r1++List.replicate z 0) hok1 (Nat.le_refl _)).2;rwa [hx2] at this
 have hall:(absorb h (rest++padOf rest.length n)).1=h3:=by
  have e:rest++padOf rest.length n=(rest++[128])++(List.replicate z 0++beB (n*8) 8):=by unfold padOf;rw[←hl1,hz];simp
  rw[e,absorb_app _ _ _ _ (Nat.le_refl _),hx1]
  dsimp only
  rw[←List.append_assoc,absorb_app _ _ _ _ (Nat.le_refl _),hx2]
  dsimp only
  rw[hx3]
 rw[hall]
 have hz64:z<64:=by omega
 have hl164:r1.length<64:=by omega
 have w1:=hid (λb W H=>write_any b true h rest [128] n W H hok (by simp;omega) (by simp;omega))
 simp only[if_true,hx1] at w1
 have w2:=hid (λb W H=>write_any b true h1 r1 (List.replicate z 0) (n+1) W H hok1 (by simp;omega) (by simp;omega))
 simp only[if_true,hx2] at w2
 have w3:=hid (λb W m (hm:m≤910000) H=>write_any b true h2 r2 (beB (n*8) 8) m W H hok2 (by simp[beB_len];omega) (by simp[beB_len];omega))
 simp only[if_true,hx3] at w3
 obtain⟨N8,hN8⟩:∃ m,n*8=m:=⟨_,rfl⟩
 have hN8I:(n:Int)*8=N8:=by omega
 have hN8l:=hid (show N8<18446744073709551616 by omega)
 rw[hN8] at w3
 have hok3':=hid hok3
 have hz1:(120 - (r1.length:Int)) % 64=z:=by omega
 have hz2:(120 - (r1.length:Int)).tmod 64=z:=by rw[Int.tmod_eq_emod_of_nonneg (by omega)];exact hz1
 have hl1I:(r1.length:Int)<64:=by omega
 clear hx1 hx2 hx3 hok hok1 hok2 hok3 hl1 hl2 hall hz hr hN8
 go_enter func214,ntmps214
 go_wp2_with fail
 have o1:OutAt ((W.alloc (.cells #[.int .u8 0,.int .u8 0,.int .u8 0,.int .u8 0,.int .u8 0,.int .u8 0,.int .u8 0,.int .u8 0,.int .u8 0,.int .u8 0,.int .u8 0,.int .u8 0,.int .u8 0,.int .u8 0,.int .u8 0,.int .u8 0,.int .u8 0,.int .u8 0,.int .u8 0,.int .u8 0] 221)).alloc (.cells #[.bool true,.int .u32 h.a,.int .u32 h.b,.int .u32 h.c,.int .u32 h.d,.int .u32 h.e,.string ⟨rest.toArray⟩,.int .i64 n] 279)) W.heap.size []:=OutAt.gr (W:=W.alloc (.cells (Array.replicate 20 (.int .u8 0)) 221)) ⟨λj hj=>(by
   simp only[World.cell?,World.alloc_heap_new]
   rw[Array.getElem?_replicate,if_pos hj];rfl),λj=>World.frozen?_alloc_at _ _ _ _ rfl⟩ (Gr.alloc _ _)
 have g1:Gr W ((W.alloc (.cells #[.int .u8 0,.int .u8 0,.int .u8 0,.int .u8 0,.int .u8 0,.int .u8 0,.int .u8 0,.int .u8 0,.int .u8 0,.int .u8 0,.int .u8 0,.int .u8 0,.int .u8 0,.int .u8 0,.int .u8 0,.int .u8 0,.int .u8 0,.int .u8 0,.int .u8 0,.int .u8 0] 221)).alloc (.cells #[.bool true,.int .u32 h.a,.int .u32 h.b,.int .u32 h.c,.int .u32 h.d,.int .u32 h.e,.string ⟨rest.toArray⟩,.int .i64 n] 279)):=(Gr.alloc _ _).alloc1 _
 have k1:=HashAt.fresh (W.alloc (.cells #[.int .u8 0,.int .u8 0,.int .u8 0,.int .u8 0,.int .u8 0,.int .u8 0,.int .u8 0,.int .u8 0,.int .u8 0,.int .u8 0,.int .u8 0,.int .u8 0,.int .u8 0,.int .u8 0,.int .u8 0,.int .u8 0,.int .u8 0,.int .u8 0,.int .u8 0,.int .u8 0] 221)) true h rest n 279
 rw[World.size_alloc] at k1
 generalize ((W.alloc (.cells #[.int .u8 0,.int .u8 0,.int .u8 0,.int .u8 0,.int .u8 0,.int .u8 0,.int .u8 0,.int .u8 0,.int .u8 0,.int .u8 0,.int .u8 0,.int .u8 0,.int .u8 0,.int .u8 0,.int .u8 0,.int .u8 0,.int .u8 0,.int .u8 0,.int .u8 0,.int .u8 0] 221)).alloc (.cells #[.bool true,.int .u32 h.a,.int .u32 h.b,.int .u32 h.c,.int .u32 h.d,.int .u32 h.e,.string ⟨rest.toArray⟩,.int .i64 n] 279))=W1 at o1 g1 k1 ⊢
 obtain⟨b0,hb0⟩:∃ b,W.heap.size=b:=⟨_,rfl⟩
 obtain⟨b1,hb1⟩:∃ b,W.heap.size+1=b:=⟨_,rfl⟩
 rw[hb1] at k1
 rw[hb0] at o1
 have hb0':=hid hb0
 have hb1':=hid hb1
 have hne:=hid (show ¬(b0=b1) by omega)
 have hW1:=hid (show W.heap.size≤b1 by omega)
 rw[hb1]
 simp only[hb0]
 clear hb0 hb1 q0 q1 q2 q3 q4 q5 q6 q7 hbl
 refine (w1.out _ _ k1).mono ?_
 rintro e W2⟨rfl,k2,c2⟩
 have o2:=hid (o1.ch c2 hne.out)
 have g2:=hid (g1.ch c2 (λk hk=>hk▸hW1.out))
 have k2':=hid k2
 clear o1 g1 k1 k2 c2
 have e6:=k2'.out.c6
 go_wp2_with fail
 refine (Tryz.strings_Repeat ⟨#[0]⟩ z W2 (by omega) (by show 1*z≤_;omega)).mono ?_
 rintro e W3⟨he,hg⟩
 rw[show (Lib.repeatL (⟨#[0]⟩:ByteArray).data.toList z)=List.replicate z 0 from repeat_zero z] at he
 subst he
 have o3:=hid (o2.out.gr hg)
 have g3:=hid (g2.out.trans hg)
 have k3:=hid (k2'.out.gr hg)
 clear hg e6
 go_wp2_with fail
 refine (w2.out _ _ k3.out).mono ?_
 rintro e W4⟨rfl,k4,c4⟩
 have o4:=hid (o3.out.ch c4 hne.out)
 have g4:=hid (g3.out.ch c4 (λk hk=>hk▸hW1.out))
 have k4':=hid k4
 clear k4 c4
 go_wp2_with fail
 refine (putBig_any N8 8 (by decide) hN8l.out W4).mono ?_
 rintro e W5⟨v,rfl,hown,hg⟩
 have o5:=hid (o4.out.gr hg)
 have g5:=hid (g4.out.trans hg)
 have k5:=hid (k4'.out.gr hg)
 have hcv:=conv_all hown
 clear hg
 go_wp2_with fail
 refine (w3.out _ _ _ (by simp;omega) k5.out).mono ?_
 rintro e W6⟨rfl,k6,c6⟩
 have o6:=hid (o5.out.ch c6 hne.out)
 have g6:=hid (g5.out.ch c6 (λk hk=>hk▸hW1.out))
 have k6':=hid k6
 clear k6 c6 hcv hown
 have e1:=k6'.out.c1
 have e2:=k6'.out.c2
 have e3:=k6'.out.c3
 have e4:=k6'.out.c4
 have e5:=k6'.out.c5
 go_wp2
 clear e1 e2 e3 e4 e5
 have g6':=g6.out
 go_loopw [31] (λi wx=>∃ k:Nat,k≤5∧i=.int .i64 k∧OutAt wx b0 (outN h3 k)∧Gr W wx) (λi _=>5 - (intOf i).toNat)
 case atStart=>exact⟨0,by omega,rfl,o6.out,g6'⟩
 case round =>
  obtain⟨k,hk,rfl,ho,hg⟩:=hrel
  have ho':=hid ho
  have hg':=hid hg
  clear ho hg g6'
  by_cases hk5:k<5
  ·have hk5I:(k:Int)<5:=by omega
   obtain⟨wv,hwv⟩:∃ x,h3.at k=x:=⟨_,rfl⟩
   have hwl:wv<4294967296:=hwv▸at_lt hok3'.out k
   have hwI:(wv:Int)<4294967296:=by omega
   have hwc:IntKind.u64.wrap (wv:Int)=wv:=by rw[Go.IntKind.wrap_u64];omega
   have hidx:(Instr.index 277 (.agg #[.int .u32 h3.a,.int .u32 h3.b,.int .u32 h3.c,.int .u32 h3.d,.int .u32 h3.e]) (.int .i64 k)).run prog wr=.ok (.int .u32 wv) wr :=
    run_index_agg wr _ _ _ underlying277 (isAgg234 wr) (sizeOf234 wr) hk5 (by
     rw[←hwv]
     match k,hk5 with
     | 0,_=>rfl
     | 1,_=>rfl
     | 2,_=>rfl
     | 3,_=>rfl
     | 4,_=>rfl)
   have hpb:=hid (λw0=>putBig_any wv 4 (by decide) (by omega) w0)
   have hwv':=hid hwv
   clear hwv hwl
   have a1:IntKind.i64.wrap (4*(k:Int))=4*(k:Int):=IntWalk.i64_in _ (by omega)
   have a2:(4*(k:Int))≤20:=by omega
   have a3:0≤4*(k:Int):=by omega
   have a4:(4*(k:Int)).toNat=4*k:=by omega
   have a5:¬20=4*k:=by omega
   have a6:¬4*k=20:=by omega
   go_upto_region 11 with (fail)
   clear hidx
   go_region_held3 (λ_=>True) (trivial) (first | (go_at_call 249;refine (hpb.out _).mono ?_;rintro e w7 ⟨v9,rfl,hown,hg7⟩;have ho7:=hid (ho'.out.gr ((Gr.drew' _).trans hg7));have hg7':=hid ((hg'.out.drew).trans hg7);obtain⟨g9,cap9,hv9,hgb9,hgs9,hcells9,hcap9⟩:=OwnB.row hown (by rw[beB_len];decide);rw[beB_len] at hv9;subst hv9;have hown':=hid hown;clear hown hg7 hcells9) | (refine step_copy (by rfl) (.tmp 37) (.tmp 40) 100 100 5 (by rfl) b0 (4*k) (20 - 4*k) (20 - 4*k) ⟨g9,0,none⟩ 4 cap9 (bcells (beB wv 4)) (by rfl) (by rfl) underlying100 (by kernel_rfl) (by rw[bcells_len,beB_len];exact (Nat.min_eq_left (by omega)).symm) (λj u hj=>World.ownsRow.cells hown'.out (g:=g9) rfl j u hj) (λj hj=>by rw[ho7.out.1 _ (by rw[bcells_len,beB_len] at hj;omega)];rfl) (λj _=>ho7.out.2 _) (bcells_one _) ?_))
   go_wp2
   go_roundw
   case rel =>
    refine⟨k+1,by omega,by go_num,?_,Gr.setCells (Nat.le_of_eq hb0'.out) _ _ hg7'.out⟩
    have:=ho7.out.next (x:=beB wv 4) (by rw[outN_len,beB_len];omega)
    rw[outN_len] at this
    rw[outN,hwv'.out];exact this
   case measure=>simp[intOf];omega
  ·obtain rfl:k=5:=by omega
   have ho9:=hid (show OutAt wr b0 (outL h3) by rw[←outN_all];exact ho'.out)
   have hrng:wr.rangeAt b0 0 (bcells (outL h3)):=λj v hv=>by
    have hj:j<(bcells (outL h3)).length:=(List.getElem?_eq_some_iff.1 hv).1
    rw[bcells_len,out_len] at hj
    rw[Nat.zero_add,ho9.out.1 j hj,←hv,bcells_get _ _ (by rw[out_len];exact hj)]
    simp[List.getD_eq_getElem?_getD,List.getElem?_eq_getElem (show j<(outL h3).length by rw[out_len];exact hj)]
   have hth:wr.there b0 0 (bcells (outL h3)).length:=λj hj=>by
    rw[bcells_len,out_len] at hj
    rw[Nat.zero_add]
    exact⟨by rw[ho9.out.1 j hj];rfl,ho9.out.2 j⟩
   have hsz:(prog.info? 221).map (·.size)=some (bcells (outL h3)).length:=by rw[bcells_len,out_len];kernel_rfl
   obtain⟨cs,hcs⟩:∃ cs,bcells (outL h3)=cs:=⟨_,rfl⟩
   have hone:∀ v∈cs,v.oneCell'=true:=hcs▸bcells_one _
   have hV:=hid (show bytesV (outL h3)=.agg cs.toArray by rw[←hcs];rfl)
   rw[hcs] at hrng hth hsz
   have hrng':=hid hrng
   have hth':=hid hth
   have hsz':=hid hsz
   have hone':=hid hone
   clear hrng hth hsz hone hcs
   go_upto_region 13 with (fail)
   refine wp_region_lit ?_
   refine wpList_load_mid rfl 221 _ rfl b0 0 rfl cs _ hrng'.out underlying221 rfl hsz'.out ?_
   refine wpList_store_mid rfl 221 _ _ rfl b0 0 cs.toArray rfl rfl (by simpa using hth'.out) (by simpa using hsz'.out) (all_oneCell_toArray hone'.out) ?_
   have hat:=hid (World.rangeAt_setCells_same wr b0 0 cs hth'.out)
   have hg9:=hid (Gr.setCells (Nat.le_of_eq hb0'.out) cs 0 hg'.out)
   simp only[List.toList_toArray]
   generalize wr.setCells b0 0 cs=w9 at hat hg9 ⊢
   go_wp2
   refine bodyPost_ret (results_cell rfl rfl (run_loadVar_mid w9 b0 0 221 cs _ hat.out underlying221 rfl hsz'.out)) rfl ⟨by rw[hV.out],hg9.out⟩
theorem shaNew_any (W:World):Calls prog 212 #[] W λe W'=>e=.returned (.pointer (some ⟨W.heap.size,0,none⟩))∧HashAt W.heap.size W' false ⟨0,0,0,0,0⟩ [] 0∧Gr W W':=by
 go_enter func212,ntmps212
 go_wp2
 refine bodyPost_ret (v:=.pointer (some ⟨W.heap.size,0,none⟩)) (by simp[results,results212,go_sem]) rfl ⟨rfl,HashAt.fresh W false ⟨0,0,0,0,0⟩ [] 0 _,Gr.alloc _ _⟩
theorem sum_any (s:List UInt8) (hs:s.length≤900000) (w:World):Calls prog 172 #[.string ⟨s.toArray⟩] w λe w'=>e=.returned (bytesV (shaL s))∧Gr w w':=by
 obtain⟨⟨h1,r1⟩,hx⟩:∃ x,absorb first5 s=x:=⟨_,rfl⟩
 have hok:h1.ok:=by have:=(absorb_ok _ (l:=s) first_ok (Nat.le_refl _)).1;rwa [hx] at this
 have hl:r1.length<64:=by have:=(absorb_ok _ (l:=s) first_ok (Nat.le_refl _)).2;rwa [hx] at this
 have hm:r1.length=s.length % 64:=by have:=absorb_mod _ first5 s (Nat.le_refl _);rwa [hx] at this
 have hfin:outL (absorb h1 (r1++padOf r1.length s.length)).1=shaL s:=by
  unfold shaL
  have e:shaPad s=s++padOf r1.length s.length:=by
   unfold shaPad padOf zerosN
   rw[hm,show (s.length % 64+1) % 64=(s.length+1) % 64 by omega];simp
  rw[e,absorb_app _ first5 s _ (Nat.le_refl _),hx]
 have w1:=hid (λb W H=>write_any b false ⟨0,0,0,0,0⟩ [] s 0 W H ⟨by decide,by decide,by decide,by decide,by decide⟩ (by simp;omega) (by omega))
 simp only[Bool.false_eq_true,if_false,List.nil_append,hx,Nat.zero_add] at w1
 have w2:=hid (λb W H=>sumM_any b h1 r1 s.length W H hok hl hs)
 rw[hfin] at w2
 clear hx hok hl hm hfin
 go_enter func172,ntmps172
 go_wp2_with fail
 have o1:OutAt (w.alloc (.cells #[.int .u8 0,.int .u8 0,.int .u8 0,.int .u8 0,.int .u8 0,.int .u8 0,.int .u8 0,.int .u8 0,.int .u8 0,.int .u8 0,.int .u8 0,.int .u8 0,.int .u8 0,.int .u8 0,.int .u8 0,.int .u8 0,.int .u8 0,.int .u8 0,.int .u8 0,.int .u8 0] 221)) w.heap.size []:=(show OutAt (w.alloc (.cells (Array.replicate 20 (.int .u8 0)) 221)) w.heap.size [] from⟨λj hj=>(by
   simp only[World.cell?,World.alloc_heap_new]
   rw[Array.getElem?_replicate,if_pos hj];rfl),λj=>World.frozen?_alloc_at _ _ _ _ rfl⟩)
 have g1:Gr w (w.alloc (.cells #[.int .u8 0,.int .u8 0,.int .u8 0,.int .u8 0,.int .u8 0,.int .u8 0,.int .u8 0,.int .u8 0,.int .u8 0,.int .u8 0,.int .u8 0,.int .u8 0,.int .u8 0,.int .u8 0,.int .u8 0,.int .u8 0,.int .u8 0,.int .u8 0,.int .u8 0,.int .u8 0] 221)):=Gr.alloc _ _
 generalize (w.alloc (.cells #[.int .u8 0,.int .u8 0,.int .u8 0,.int .u8 0,.int .u8 0,.int .u8 0,.int .u8 0,.int .u8 0,.int .u8 0,.int .u8 0,.int .u8 0,.int .u8 0,.int .u8 0,.int .u8 0,.int .u8 0,.int .u8 0,.int .u8 0,.int .u8 0,.int .u8 0,.int .u8 0] 221))=W1 at o1 g1 ⊢
 obtain⟨b0,hb0⟩:∃ b,w.heap.size=b:=⟨_,rfl⟩
 rw[hb0] at o1
 simp only[hb0]
 have hb0':=hid hb0
 clear hb0
 have o1':=hid o1
 have g1':=hid g1
 clear o1 g1
 refine (shaNew_any W1).mono ?_
 rintro e W2⟨rfl,k2,hg⟩
 have o2:=hid (o1'.out.gr hg)
 have g2:=hid (g1'.out.trans hg)
 have k2':=hid k2
 have hz2:=hid (show b0<W1.heap.size from o1'.out.lt)
 have hz3:=hid (show w.heap.size≤W1.heap.size from g1'.out.size)
 clear k2 hg
 go_wp2_with fail
 refine (w1.out _ _ k2'.out).mono ?_
 rintro e W3⟨rfl,k3,c3⟩
 have o3:=hid (o2.out.ch c3 (by have:=hz2.out;omega))
 have g3:=hid (g2.out.ch c3 (λk hk=>hk▸hz3.out))
 have k3':=hid k3
 clear k3 c3
 go_wp2_with fail
 refine (w2.out _ _ k3'.out).mono ?_
 rintro e W4⟨rfl,hg⟩
 have o4:=hid (o3.out.gr hg)
 have g4:=hid (g3.out.trans hg)
 clear hg
 have hlen:(bcells (shaL s)).length=20:=by rw[bcells_len];exact out_len _
 have hst:(storeCells ⟨b0,0,none⟩ (bcells (shaL s)) 0).run prog W4=.ok () (W4.setCells b0 0 (bcells (shaL s))):=run_storeCells_cells b0 0 (bcells (shaL s)) 0 W4 (λj hj=>by rw[hlen] at hj;rw[Nat.zero_add,o4.out.1 j hj];rfl) (λj _=>by rw[Nat.zero_add];exact o4.out.2 j) (bcells_one _)
 have hat:=hid (World.rangeAt_setCells_same W4 b0 0 (bcells (shaL s)) (λj hj=>by rw[hlen] at hj;rw[Nat.zero_add];exact⟨by rw[o4.out.1 j hj];rfl,o4.out.2 j⟩))
 have hg9:=hid (Gr.setCells (Nat.le_of_eq hb0'.out) (bcells (shaL s)) 0 g4.out)
 have hsz:=hid (show (prog.info? 221).map (·.size)=some (bcells (shaL s)).length by rw[hlen];kernel_rfl)
 unfold bytesV
 obtain⟨cs,hcs⟩:∃ cs,bcells (shaL s)=cs:=⟨_,rfl⟩
 rw[hcs] at hst hlen hat hg9 hsz ⊢
 have hV:=hid (show bytesV (shaL s)=.agg cs.toArray by rw[←hcs];rfl)
 clear hcs
 go_wp2
 refine bodyPost_ret (results_cell rfl rfl (run_loadVar_mid _ b0 0 221 cs _ hat.out underlying221 rfl hsz.out)) rfl ⟨by rw[hV.out],hg9.out⟩
theorem i64_and_nat {a b:Nat} (ha:a<4611686018427387904) (hb:b<4611686018427387904):bits .and .i64 (a:Int) (b:Int)=((a&&&b:Nat):Int):=by
 have hx:a&&&b≤a:=Nat.and_le_left
 show IntKind.i64.wrap ((BitVec.ofInt 64 (a:Int)&&&BitVec.ofInt 64 (b:Int)).toNat:Int)=_
 rw[BitVec.toNat_and,Go.ofInt_u64 a (by omega),Go.ofInt_u64 b (by omega),IntKind.wrap_i64]
 omega
theorem i64_or_nat {a b:Nat} (ha:a<4611686018427387904) (hb:b<4611686018427387904):bits .or .i64 (a:Int) (b:Int)=((a ||| b:Nat):Int):=by
 have hx:a ||| b<2 ^ 62:=Nat.or_lt_two_pow (by omega) (by omega)
 show IntKind.i64.wrap ((BitVec.ofInt 64 (a:Int) ||| BitVec.ofInt 64 (b:Int)).toNat:Int)=_
 rw[BitVec.toNat_or,Go.ofInt_u64 a (by omega),Go.ofInt_u64 b (by omega),IntKind.wrap_i64]
 omega
theorem i64_join {m c:Nat} (hm:m<4294967296) (hc:c<256):bits .or .i64 ((m:Int)*256) (c:Int)=((m*256+c:Nat):Int):=by
 have h:=i64_or_nat (a:=m*256) (b:=c) (by omega) (by omega)
 rw[Go.nat_join 8 (m*256) c (by omega) (by omega)] at h
 rw[←h];rfl
theorem i64_low6 {m:Nat} (hm:m<4294967296):bits .and .i64 (m:Int) 63=((m % 64:Nat):Int):=by
 have h:=i64_and_nat (a:=m) (b:=63) (by omega) (by omega)
 rw[show (m&&&63:Nat)=m % 2 ^ 6 from Nat.and_two_pow_sub_one_eq_mod m 6] at h
 exact h
theorem let_tab:∀ d:Fin 64,((⟨#[65,66,67,68,69,70,71,72,73,74,75,76,77,78,79,80,81,82,83,84,85,86,87,88,89,90,97,98,99,100,101,102,103,104,105,106,107,108,109,110,111,112,113,114,115,116,117,118,119,120,121,122,48,49,50,51,52,53,54,55,56,57,43,47]⟩:ByteArray)[d.1]'(by have:=d.2;exact Nat.lt_of_lt_of_le this (by decide)))=letB d.1:=by decide +kernel
def lenD:Value→Nat | .string s=>s.size | _=>0
theorem bcat (out:List UInt8) (c:UInt8):Lib.byteCells out++[Value.int .u8 (c.toNat:Int)]=Lib.byteCells (out++[c]):=by simp[Lib.byteCells]
theorem byteCells_len (l:List UInt8):(Lib.byteCells l).length=l.length:=by simp[Lib.byteCells]
theorem encode_any (s:List UInt8) (hs:s.length≤1000000) (w:World):Calls prog 173 #[.string ⟨s.toArray⟩] w λe w'=>e=.returned (.string ⟨(encL s).toArray⟩)∧Gr w w':=by
 obtain⟨R,hR⟩:∃ R,encL s=R:=⟨_,rfl⟩
 rw[hR]
 have hR':=hid hR
 have hRl:R.length≤1400000:=by rw[←hR,encL_len _ _ (Nat.le_refl _)];omega
 clear hR
 go_enter func173,ntmps173
 go_wp2
 obtain⟨b,hb⟩:∃ b,w.heap.size=b:=⟨_,rfl⟩
 have hB:=hid hb
 have h0:=hid (show Bld b b (Lib.byteCells []) (w.alloc (.cells #[.pointer none,.slice none 0 0] 147)) from hb▸Lib.fresh_isBuilder _ _ w)
 have g0:=hid (Gr.alloc w (.cells #[.pointer none,.slice none 0 0] 147))
 rw[hb]
 clear hb
 go_loopw [0] (λa wr=>∃ (rest out:List UInt8),a=.string ⟨rest.toArray⟩∧rest.length≤1000000∧out++encL rest=R∧Bld b b (Lib.byteCells out) wr∧Gr w wr) (λa _=>lenD a)
 case atStart=>exact⟨s,[],rfl,hs,hR'.out,h0.out,g0.out⟩
 case round =>
  obtain⟨rest,out,rfl,hrl,hout,hbl,hg⟩:=hrel
  have hout':=hid hout
  have hbl':=hid hbl
  have hg':=hid hg
  have hol:out.length+(encL rest).length≤1400000:=by rw[←List.length_append,hout];exact hRl
  clear hout hbl hg
  by_cases hr0:0<rest.length
  ·have hre:rest.isEmpty=false:=by simpa using List.length_pos_iff.1 hr0
   obtain⟨n,hn⟩:∃ n,min 3 rest.length=n:=⟨_,rfl⟩
   have hnI:min (3:Int) rest.length=n:=by omega
   have hn':=hid hn
   have hn3:(n:Int)≤3:=by omega
   have hn1:(1:Int)≤n:=by omega
   have hnl:(n:Int)≤rest.length:=by omega
   have hstep:=hid (encL_step hr0)
   have hol4:out.length+4≤1400000:=by rw[hstep.out,List.length_append,encG_len] at hol;omega
   have hx2:(⟨rest.toArray⟩:ByteArray).extract n rest.length=⟨(rest.drop 3).toArray⟩:=by
    rw[extract_mk,←hn]
    by_cases h3:3≤rest.length
    ·rw[Nat.min_eq_left h3];simp
    ·rw[Nat.min_eq_right (by omega),List.take_length,List.drop_length,List.drop_of_length_le (show rest.length≤3 by omega)]
   have hdl:=hid (show (rest.drop 3).length≤1000000 by rw[List.length_drop];omega)
   have hdl2:=hid (show (rest.drop 3).length<rest.length by rw[List.length_drop];omega)
   have hnN:∀ j,j<n↔j<3∧j<rest.length:=λj=>by omega
   have hnN':=hid hnN
   clear hn hnN hol
   go_wp2
   go_loop [5,18] (λx i=>∃ j:Nat,j≤3∧i=.int .i64 j∧x=.int .i64 (bigN rest j)) (λ_ i=>3 - (intOf i).toNat)
   case atStart=>exact⟨0,by omega,rfl,rfl⟩
   case round =>
    obtain⟨j,hj,rfl,rfl⟩:=hrel
    obtain⟨m,hm⟩:∃ m,bigN rest j=m:=⟨_,rfl⟩
    have hm':=hid hm
    rw[hm]
    by_cases hj3:j<3
    ·have hj3I:(j:Int)<3:=by omega
     have hml:m<256 ^ 2:=Nat.lt_of_lt_of_le (hm▸bigN_lt rest j) (Nat.pow_le_pow_right (by decide) (by omega))
     have hmI:(m:Int)≤65535:=by omega
     by_cases hjn:j<n
     ·have hjnI:(j:Int)<n:=by omega
      have hjl:j<rest.length:=((hnN'.out j).1 hjn).2
      obtain⟨c,hc⟩:∃ c,(⟨rest.toArray⟩:ByteArray)[j]'(by rw[size_mk];exact hjl)=c:=⟨_,rfl⟩
      have hb:=hid (show byteN rest j=c.toNat by unfold byteN;rw[List.getD_eq_getElem?_getD,List.getElem?_eq_getElem hjl];exact congrArg UInt8.toNat hc)
      have hor:=i64_join (m:=m) (c:=c.toNat) (by omega) c.toNat_lt
      have hc255:(c.toNat:Int)≤255:=by have:=c.toNat_lt;omega
      clear hm hml
      go_wp2
      go_round
      case rel=>exact⟨j+1,by omega,by go_num,by rw[bigN,hm'.out,hb.out];go_num⟩
      case measure=>simp[intOf];omega
     ·have hjnI:¬(j:Int)<n:=by omega
      have hb:=hid (show byteN rest j=0 by
       have:¬(j<3∧j<rest.length):=λh=>hjn ((hnN'.out j).2 h)
       unfold byteN;rw[List.getD_eq_getElem?_getD,List.getElem?_eq_none (by omega)];rfl)
      clear hm hml
      go_wp2
      go_round
      case rel=>exact⟨j+1,by omega,by go_num,by rw[bigN,hm'.out,hb.out];go_num⟩
      case measure=>simp[intOf];omega
    ·obtain rfl:j=3:=by omega
     obtain rfl:bigN rest 3=m:=hm
     obtain⟨X,hX⟩:∃ X,bigN rest 3=X:=⟨_,rfl⟩
     have hXl:X<16777216:=by have:=bigN_lt rest 3;rw[hX] at this;exact this
     have hXI:(X:Int)<16777216:=by omega
     rw[hX]
     have hX':=hid hX
     clear hX
     go_wp2
     go_loopw [33] (λi wx=>∃ j:Nat,j≤4∧i=.int .i64 j∧Bld b b (Lib.byteCells (out++grpN n X j)) wx∧Gr w wx) (λi _=>4 - (intOf i).toNat)
     case atStart=>exact⟨0,by omega,rfl,by simpa[grpN] using hbl'.out,hg'.out⟩
     case round =>
      obtain⟨j,hj,rfl,hb2,hgx⟩:=hrel
      have hgx':=hid hgx
      have hout2:=hid (show (out++grpN n X j).length+1≤140737488355328 by rw[List.length_append,grpN_len];omega)
      have hbs:=hid (show b≤wr.heap.size by have:=Below.size hgx;have:=hB.out;omega)
      have hb2':=hid hb2
      clear hb2 hgx
      have hj':j=0∨j=1∨j=2∨j=3∨j=4:=by omega
      rcases hj' with rfl | rfl | rfl | rfl | rfl
      ·-- letter 0
       have hj4I:((0:Nat):Int)<4:=by decide
       by_cases hjn:0≤n
       ·have hjnI:(0:Int)≤n:=by omega
        obtain⟨d,hd⟩:∃ d,X / 262144 % 64=d:=⟨_,rfl⟩
        have hd64:d<64:=by omega
        have hand:bits .and .i64 ((X:Int) / 262144) 63=(d:Int):=by
         have:=i64_low6 (m:=X / 262144) (by omega)
         rw[hd,Int.natCast_ediv] at this;exact this
        have hand2:bits .and .i64 (X:Int) 63=(((X % 64:Nat)):Int):=i64_low6 (by omega)
        have hdx:=let_tab ⟨d,hd64⟩
        dsimp only at hdx
        have hlet:=hid (show grpB n X 0=letB d by unfold grpB;rw[if_pos hjn,←hd])
        clear hd hand2
        go_wp2_with fail
        refine (writeByte_any b b _ (letB d).toNat wr hb2'.out (by rw[byteCells_len];exact hout2.out) hbs.out).mono ?_
        rintro e w3⟨rfl,hb3,hg3⟩
        have hb3':=hid hb3
        have hg3':=hid (Below.trans hgx'.out (hB.out▸hg3))
        clear hb3 hg3
        go_wp2
        go_roundw
        case rel=>exact⟨1,by decide,by go_num,by rw[bcat,List.append_assoc,←hlet.out] at hb3';exact hb3'.out,hg3'.out⟩
        case measure=>simp[intOf]
       ·exact absurd hjn (by omega)
      ·-- letter 1
       have hj4I:((1:Nat):Int)<4:=by decide
       by_cases hjn:1≤n
       ·have hjnI:(1:Int)≤n:=by omega
        obtain⟨d,hd⟩:∃ d,X / 4096 % 64=d:=⟨_,rfl⟩
        have hd64:d<64:=by omega
        have hand:bits .and .i64 ((X:Int) / 4096) 63=(d:Int):=by
         have:=i64_low6 (m:=X / 4096) (by omega)
         rw[hd,Int.natCast_ediv] at this;exact this
        have hand2:bits .and .i64 (X:Int) 63=(((X % 64:Nat)):Int):=i64_low6 (by omega)
        have hdx:=let_tab ⟨d,hd64⟩
        dsimp only at hdx
        have hlet:=hid (show grpB n X 1=letB d by unfold grpB;rw[if_pos hjn,←hd])
        clear hd hand2
        go_wp2_with fail
        refine (writeByte_any b b _ (letB d).toNat wr hb2'.out (by rw[byteCells_len];exact hout2.out) hbs.out).mono ?_
        rintro e w3⟨rfl,hb3,hg3⟩
        have hb3':=hid hb3
        have hg3':=hid (Below.trans hgx'.out (hB.out▸hg3))
        clear hb3 hg3
        go_wp2
        go_roundw
        case rel=>exact⟨2,by decide,by go_num,by rw[bcat,List.append_assoc,←hlet.out] at hb3';exact hb3'.out,hg3'.out⟩
        case measure=>simp[intOf]
       ·exact absurd hjn (by omega)
      ·-- letter 2
       have hj4I:((2:Nat):Int)<4:=by decide
       by_cases hjn:2≤n
       ·have hjnI:(2:Int)≤n:=by omega
        obtain⟨d,hd⟩:∃ d,X / 64 % 64=d:=⟨_,rfl⟩
        have hd64:d<64:=by omega
        have hand:bits .and .i64 ((X:Int) / 64) 63=(d:Int):=by
         have:=i64_low6 (m:=X / 64) (by omega)
         rw[hd,Int.natCast_ediv] at this;exact this
        have hand2:bits .and .i64 (X:Int) 63=(((X % 64:Nat)):Int):=i64_low6 (by omega)
        have hdx:=let_tab ⟨d,hd64⟩
        dsimp only at hdx
        have hlet:=hid (show grpB n X 2=letB d by unfold grpB;rw[if_pos hjn,←hd])
        clear hd hand2
        go_wp2_with fail
        refine (writeByte_any b b _ (letB d).toNat wr hb2'.out (by rw[byteCells_len];exact hout2.out) hbs.out).mono ?_
        rintro e w3⟨rfl,hb3,hg3⟩
        have hb3':=hid hb3
        have hg3':=hid (Below.trans hgx'.out (hB.out▸hg3))
        clear hb3 hg3
        go_wp2
        go_roundw
        case rel=>exact⟨3,by decide,by go_num,by rw[bcat,List.append_assoc,←hlet.out] at hb3';exact hb3'.out,hg3'.out⟩
        case measure=>simp[intOf]
       ·have hjnI:¬(2:Int)≤n:=by omega
        have hlet:=hid (show grpB n X 2=61 by unfold grpB;rw[if_neg hjn])
        go_wp2_with fail
        refine (writeByte_any b b _ 61 wr hb2'.out (by rw[byteCells_len];exact hout2.out) hbs.out).mono ?_
        rintro e w3⟨rfl,hb3,hg3⟩
        have hb3':=hid (show Bld b b (Lib.byteCells (out++grpN n X 2++[(61:UInt8)])) w3 from (bcat (out++grpN n X 2) 61)▸hb3)
        have hg3':=hid (Below.trans hgx'.out (hB.out▸hg3))
        clear hb3 hg3
        go_wp2
        go_roundw
        case rel=>exact⟨3,by decide,by go_num,by rw[List.append_assoc,←hlet.out] at hb3';exact hb3'.out,hg3'.out⟩
        case measure=>simp[intOf]
      ·-- letter 3
       have hj4I:((3:Nat):Int)<4:=by decide
       by_cases hjn:3≤n
       ·have hjnI:(3:Int)≤n:=by omega
        obtain⟨d,hd⟩:∃ d,X / 1 % 64=d:=⟨_,rfl⟩
        have hd64:d<64:=by omega
        have hand:bits .and .i64 ((X:Int) / 1) 63=(d:Int):=by
         have:=i64_low6 (m:=X / 1) (by omega)
         rw[hd,Int.natCast_ediv] at this;exact this
        have hand2:bits .and .i64 (X:Int) 63=(((X % 64:Nat)):Int):=i64_low6 (by omega)
        have hdx:=let_tab ⟨d,hd64⟩
        dsimp only at hdx
        have hlet:=hid (show grpB n X 3=letB d by unfold grpB;rw[if_pos hjn,←hd])
        have hd3:X % 64=d:=by rw[←hd,Nat.div_one]
        rw[hd3] at hand2
        clear hd hd3 hand
        go_wp2_with fail
        refine (writeByte_any b b _ (letB d).toNat wr hb2'.out (by rw[byteCells_len];exact hout2.out) hbs.out).mono ?_
        rintro e w3⟨rfl,hb3,hg3⟩
        have hb3':=hid hb3
        have hg3':=hid (Below.trans hgx'.out (hB.out▸hg3))
        clear hb3 hg3
        go_wp2
        go_roundw
        case rel=>exact⟨4,by decide,by go_num,by rw[bcat,List.append_assoc,←hlet.out] at hb3';exact hb3'.out,hg3'.out⟩
        case measure=>simp[intOf]
       ·have hjnI:¬(3:Int)≤n:=by omega
        have hlet:=hid (show grpB n X 3=61 by unfold grpB;rw[if_neg hjn])
        go_wp2_with fail
        refine (writeByte_any b b _ 61 wr hb2'.out (by rw[byteCells_len];exact hout2.out) hbs.out).mono ?_
        rintro e w3⟨rfl,hb3,hg3⟩
        have hb3':=hid (show Bld b b (Lib.byteCells (out++grpN n X 3++[(61:UInt8)])) w3 from (bcat (out++grpN n X 3) 61)▸hb3)
        have hg3':=hid (Below.trans hgx'.out (hB.out▸hg3))
        clear hb3 hg3
        go_wp2
        go_roundw
        case rel=>exact⟨4,by decide,by go_num,by rw[List.append_assoc,←hlet.out] at hb3';exact hb3'.out,hg3'.out⟩
        case measure=>simp[intOf]
      ·have hfull:=hid (show out++grpN n X 4++encL (rest.drop 3)=R by
        rw[←hout'.out,hstep.out,List.append_assoc]
        unfold encG;rw[hn'.out,hX'.out])
       obtain⟨rb,hrb⟩:∃ l,rest.drop 3=l:=⟨_,rfl⟩
       rw[hrb] at hx2 hdl hdl2 hfull
       clear hrb
       go_wp2
       go_roundw
       case rel=>exact⟨rb,out++grpN n X 4,rfl,hdl.out,hfull.out,hb2'.out,hgx'.out⟩
       case measure=>(show (⟨rb.toArray⟩:ByteArray).size<(⟨rest.toArray⟩:ByteArray).size);rw[size_mk,size_mk];exact hdl2.out
  ·have hr1:rest=[]:=List.eq_nil_of_length_eq_zero (by omega)
   subst hr1
   have hfin:=hid (show out=R by rw[←hout'.out,encL_nil,List.append_nil])
   have hbs:=hid (show b≤wr.heap.size by have:=Below.size hg'.out;have:=hB.out;omega)
   go_wp2_with fail
   refine (Tryz.Builder_String_any b b out wr hbl'.out hbs.out).mono ?_
   rintro e w3⟨rfl,hg3⟩
   have hg3':=hid (Below.trans hg'.out (hB.out▸hg3))
   clear hg3
   go_wp2
   go_ret
   exact⟨by rw[←hfin.out];rfl,hg3'.out⟩
