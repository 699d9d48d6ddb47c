/-
  Walks over package sha: numbers as bytes, bytes as numbers, the first words.
-/
import Derived.Test.YtadobobfjnmdlaaGreatDoorP51
import Derived.Deep.MidRow
import Derived.Tactics
set_option linter.unnecessarySimpa false
set_option linter.unusedVariables false
set_option linter.unusedSimpArgs false
set_option maxHeartbeats 16000000
set_option maxRecDepth 100000
open Go.Lib (hid)
namespace Go.Proofs.YtadobobfjnmdlaaGreatDoor
open Go.RowKit
attribute [local go_sem] Oper.semAt_some
def w5V (x:W5):Value:=.agg #[.int .u32 x.a,.int .u32 x.b,.int .u32 x.c,.int .u32 x.d,.int .u32 x.e]
theorem shafirst_any (w:World):Calls Tryz.prog 246 #[] w fun e w'=>e=.returned (w5V first5)∧Gr w w':=by
 go_enter Tryz.func246,Tryz.ntmps246
 go_wp2
 refine bodyPost_ret (v:=w5V first5) (by simp[results,Tryz.results246,go_sem,w5V,first5]) rfl ⟨rfl,Gr.alloc _ _⟩
theorem getBig_any (s:List UInt8) (hs:4≤s.length) (hl:s.length≤1000000) (w:World):Calls Tryz.prog 278 #[.string ⟨s.toArray⟩,.int .i64 4] w fun e w'=>e=.returned (.int .u64 (bigN s 4))∧w=w':=by
 go_enter Tryz.func278,Tryz.ntmps278
 go_wp2
 go_loop [4,7] (fun x i=>∃ k:Nat,k≤4∧i=.int .i64 k∧x=.int .u64 (bigN s k)) (fun _ i=>4 - (intOf i).toNat)
 case atStart=>exact⟨0,by omega,rfl,rfl⟩
 case round =>
  obtain⟨k,hk,rfl,rfl⟩:=hrel
  obtain⟨m,hm⟩:∃ m,bigN s k=m:=⟨_,rfl⟩
  have hm':=hid hm
  rw[hm]
  by_cases hk4:k<4
  ·have hkI:(k:Int)<4:=by omega
   obtain⟨c,hc⟩:∃ c,(⟨s.toArray⟩:ByteArray)[k]'(by rw[size_mk];omega)=c:=⟨_,rfl⟩
   have hb:byteN s k=c.toNat:=by unfold byteN;rw[List.getD_eq_getElem?_getD,List.getElem?_eq_getElem (by omega)];exact congrArg UInt8.toNat hc
   have hb':=hid hb
   have hml:m<256 ^ 3:=Nat.lt_of_lt_of_le (hm▸bigN_lt s k) (Nat.pow_le_pow_right (by decide) (by omega))
   have hmI:(m:Int)≤16777215:=by omega
   have hor:bits .or .u64 ((m:Int)*256) (c.toNat:Int)=((m*256+c.toNat:Nat):Int):=by
    have h1:=Go.u64_or_nat (m*256) c.toNat (by omega) (by have:=c.toNat_lt;omega)
    rw[Go.nat_join 8 (m*256) c.toNat (by omega) (by have:=c.toNat_lt;omega)] at h1
    rw[←h1];rfl
   have hks:k<s.length:=by omega
   have hcw:IntKind.u64.wrap (c.toNat:Int)=c.toNat:=by rw[Go.IntKind.wrap_u64];have:=c.toNat_lt;omega
   clear hm hb hml
   go_wp2
   go_round
   case rel=>exact⟨k+1,by omega,by go_num,by rw[bigN,hm'.out,hb'.out];go_num⟩
   case measure=>simp[intOf];omega
  ·have hkI:¬(k:Int)<4:=by omega
   have h4:k=4:=by omega
   go_wp2
   go_ret
   exact⟨by rw[←hm'.out,h4];rfl,rfl⟩
theorem putBig_any (x n:Nat) (hn:n≤8) (hx:x<18446744073709551616) (w:World) :
  Calls Tryz.prog 249 #[.slice none 0 0,.int .u64 x,.int .i64 n] w fun e w'=>∃ v,e=.returned v∧OwnB w.heap.size w' v (beB x n)∧Gr w w':=by
 obtain⟨i0,hi,hz0,hz1,hz2⟩:=info_parts infoU8
 have hnI:(n:Int)≤8:=by omega
 have hx':=hid hx
 clear hx
 go_enter Tryz.func249,Tryz.ntmps249
 go_wp2
 go_loopw [0,7] (fun b i wr=>∃ (j:Nat) (acc:List UInt8),j+acc.length=n∧acc++beB x j=beB x n∧i=.int .i64 ((j:Int) - 1)∧OwnB w.heap.size wr b acc∧Gr w wr) (fun _ i _=>(intOf i+1).toNat)
 case atStart=>exact⟨n,[],by simp,rfl,rfl,OwnB.nil _ _,Gr.refl _⟩
 case round =>
  obtain⟨j,acc,hj,hacc,rfl,hown,hg⟩:=hrel
  have hown':=hid hown
  have hg':=hid hg
  have hacc':=hid hacc
  clear hown hg hacc
  cases j with
  | zero =>
   have hb:=hid (show acc=beB x n by have:=hacc'.out;simpa[beB] using this)
   go_wp2
   go_ret
   exact⟨_,rfl,hb.out▸hown'.out,hg'.out⟩
  | succ q =>
   have hq8:(q:Int)<8:=by omega
   obtain⟨d,hd⟩:∃ d,UInt8.ofNat (x / 256 ^ q)=d:=⟨_,rfl⟩
   have hdI:(x:Int) / 2 ^ (8*q) % 256=(d.toNat:Int):=by
    rw[←hd,UInt8.toNat_ofNat',show (256:Nat)=2 ^ 8 from rfl,←Nat.pow_mul,Int.natCast_emod,Int.natCast_ediv]
    simp
   have hacc2:=hid (show (acc++[d])++beB x q=beB x n by rw[←hacc'.out,←hd];simp[beB])
   obtain⟨p,cap,hv⟩:=hown'.out.slice
   subst hv
   have hal:acc.length≤8:=by omega
   clear hd hacc'
   go_wp2_with (at_builtin;refine wpList_append_own _ rfl _ _ 100 rfl w.heap.size 5 i0 (.int .u8 0) 1 1 Tryz.underlying100 hi hz0 hz1 hz2 rfl (by decide) _ _ _ rfl (World.ownsRow.alloc hown'.out _) ⟨wr.heap.size,0,none⟩ 1 1 [.int .u8 d.toNat] rfl rfl (cell_one_new _ _ _) (by simp[Value.oneCell']) (by unfold maxLen;omega) (by omega) (by have:=Below.size hg'.out;simp;omega) ?_;intro v' w1 hown2 hgrow _)
   have hown3:=hid (own_snoc hown2)
   have hg2:=hid (Below.grown (hg'.out.alloc1 _) hgrow (Below.size (hg'.out.alloc1 _)) (fun k e=>(hown'.out.lt k e).1))
   clear hown2 hgrow
   go_wp2
   go_roundw
   case rel=>exact⟨q,acc++[d],by simp;omega,hacc2.out,rfl,hown3.out,hg2.out⟩
   case measure=>simp[intOf]
end Go.Proofs.YtadobobfjnmdlaaGreatDoor
namespace Go
open Go.RowKit
theorem Gr.setCells {w:World} {b:Nat} (hb:w.heap.size≤b):∀ (vs:List Value) (o:Nat) {W:World},Gr w W→Gr w (W.setCells b o vs)
 | [],_,_,h=>h
 | v :: r,o,_,h=>Gr.setCells hb r (o+1) (h.setCell (p:=⟨b,o,none⟩) hb v)
theorem results_cell {P:Program} {fn:Func} {t:Tmp} {ty:TypeId} (h:fn.results=#[.cell t ty]) {tmps:Array Value} {a:Addr} {v:Value} {w:World} (hx:tmps.getD t undef=.pointer (some a)) (hr:(loadVar ty a).run P w=.ok v w) :
  (results fn tmps).run P w=.ok v w:=by
 rw[Array.getD_eq_getD_getElem?] at hx
 simp[results,h,hx,asAddr,hr]
theorem run_index_agg {P:Program} (w:World) {t e:TypeId} {n:Nat} (cs:Array Value) (k:IntKind) (i:Nat) {v:Value} (h:P.underlying t=some (.array n e)) (ha:(isAgg e).run P w=.ok false w) (hs:(sizeOf e).run P w=.ok 1 w) (hi:i<n) (hv:cs[i]?=some v) :
  (Instr.index t (.agg cs) (.int k i)).run P w=.ok v w:=by
 simp[Instr.index,run_underlying h,asIntOf,hi,part,ha,hs,hv]
end Go
namespace Go.Proofs.YtadobobfjnmdlaaGreatDoor
open Go.RowKit
attribute [local go_sem] Oper.semAt_some
def wordsV (s:List UInt8):Value:=.agg ((List.range 80).map fun j=>Value.int .u32 (wS s j)).toArray
theorem bigN_word (s:List UInt8) (t:Nat):bigN (s.drop (4*t)) 4=word0 s t:=by
 have e:∀ i,byteN (s.drop (4*t)) i=byteN s (4*t+i):=fun i=>by simp[byteN,List.getD_eq_getElem?_getD]
 simp only[bigN,e,word0]
 simp
theorem rot1_later (C:World→Prop) {x r:Nat} (hr:rotW 1 x=r) (hx:x<4294967296) (y:Later C) :
  Calls Tryz.prog 269 #[.int .u32 x,.int .i64 1] y.w fun e w'=>e=.returned (.int .u32 r)∧∃ z:Later C,w'=z.w :=
 Calls.later ((rot1_any x hx y.w).mono fun _ _ ⟨h1,h2⟩=>⟨hr▸h1,h2▸y.ok⟩)
theorem cells_step {wr:World} {b t W n:Nat} {f:Nat→Nat} (hc:∀ j,j<n→wr.cell? ⟨b,j,none⟩=some (.int .u32 ((if j<t then f j else 0:Nat):Int))) (ht:t<n) (hW:f t=W) :
  ∀ j,j<n→(wr.setCell ⟨b,t,none⟩ (.int .u32 W)).cell? ⟨b,j,none⟩=some (.int .u32 ((if j<t+1 then f j else 0:Nat):Int)):=fun j hj=>by
 by_cases h:j=t
 ·subst h;rw[if_pos (by omega),hW];exact cell_set_same (hc j hj)
 ·rw[cell_off (hc j hj) h]
  by_cases h2:j<t
  ·rw[if_pos h2,if_pos (by omega)]
  ·rw[if_neg h2,if_neg (by omega)]
theorem schedule_any (s:List UInt8) (hs:s.length=64) (w:World):Calls Tryz.prog 267 #[.string ⟨s.toArray⟩] w fun e w'=>e=.returned (wordsV s)∧Gr w w':=by
 have hs':=hid hs
 have hsl:s.length≤64:=by omega
 have hsg:64≤s.length:=by omega
 clear hs
 go_enter Tryz.func267,Tryz.ntmps267
 go_wp2
 obtain⟨b,hb⟩:∃ b,w.heap.size=b:=⟨_,rfl⟩
 have hb':=hid hb
 have h80:Tryz.zeroCells296=Array.replicate 80 (.int .u32 0):=by kernel_rfl
 have hcs:=hid (show ∀ j,j<80→(w.alloc (.cells Tryz.zeroCells296 296)).cell? ⟨b,j,none⟩=some (.int .u32 ((if j<0 then wS s j else 0:Nat):Int)) by
  intro j hj
  rw[←hb,h80]
  simp only[World.cell?,World.alloc_heap_new]
  rw[Array.getElem?_replicate,if_pos hj];rfl)
 have hfz:=hid (show ∀ j,(w.alloc (.cells Tryz.zeroCells296 296)).frozen? ⟨b,j,none⟩=false from hb▸fun j=>World.frozen?_alloc_at _ _ _ _ rfl)
 rw[hb]
 clear h80 hb
 go_loopw [4] (fun i wr=>∃ t:Nat,t≤80∧i=.int .i64 t∧(∀ j,j<80→wr.cell? ⟨b,j,none⟩=some (.int .u32 ((if j<t then wS s j else 0:Nat):Int)))∧(∀ j,wr.frozen? ⟨b,j,none⟩=false)∧Gr w wr) (fun i _=>80 - (intOf i).toNat)
 case atStart=>exact⟨0,by omega,rfl,hcs.out,hfz.out,Gr.alloc _ _⟩
 case round =>
  obtain⟨t,ht,rfl,hc,hf,hg⟩:=hrel
  have hc':=hid hc
  have hf':=hid hf
  have hg':=hid hg
  clear hc hf hg
  by_cases h80:t<80
  ·have h80I:(t:Int)<80:=by omega
   have hct:=hc'.out t h80
   have hft:=hf'.out t
   have hbl:b<wr.heap.size:=cell_lt hct
   by_cases h16:t<16
   ·have h16I:(t:Int)<16:=by omega
    have hx:(⟨s.toArray⟩:ByteArray).extract (4*t) s.length=⟨(s.drop (4*t)).toArray⟩:=by rw[extract_mk];simp
    obtain⟨v,hv⟩:∃ v,s.drop (4*t)=v:=⟨_,rfl⟩
    have hvl:=hid (show 4≤v.length by rw[←hv,List.length_drop];omega)
    have hvl2:=hid (show v.length≤1000000 by rw[←hv,List.length_drop];omega)
    have hw0:=hid (show bigN v 4=wS s t by rw[←hv,bigN_word,wS_low s h16])
    rw[hv] at hx
    obtain⟨W,hW⟩:∃ W,wS s t=W:=⟨_,rfl⟩
    have hWl:(W:Int)<4294967296:=by have:=wS_lt s t;omega
    have hWw:IntKind.u32.wrap (W:Int)=W:=by rw[Go.IntKind.wrap_u32'];omega
    rw[hW] at hw0
    have hW':=hid hW
    clear hv hW
    go_wp2_with fail
    refine (getBig_any v hvl.out hvl2.out _).mono ?_
    rintro e w1 ⟨he,rfl⟩
    rw[hw0.out] at he
    subst he
    go_wp2
    go_roundw
    case rel=>exact⟨t+1,by omega,by go_num,cells_step hc'.out h80 hW'.out,fun j=>frozen_set.trans (hf'.out j),hg'.out.setCell (Nat.le_of_eq hb'.out) _⟩
    case measure=>simp[intOf];omega
   ·have h16I:¬(t:Int)<16:=by omega
    have d1:=hc'.out (t - 3) (by omega)
    have d2:=hc'.out (t - 8) (by omega)
    have d3:=hc'.out (t - 14) (by omega)
    have d4:=hc'.out (t - 16) (by omega)
    rw[if_pos (by omega)] at d1 d2 d3 d4
    have hwr:=wS_high s h16
    have k1:=wS_lt s (t - 3)
    have k2:=wS_lt s (t - 8)
    have k3:=wS_lt s (t - 14)
    have k4:=wS_lt s (t - 16)
    obtain⟨x1,hx1⟩:∃ x,wS s (t - 3)=x:=⟨_,rfl⟩
    obtain⟨x2,hx2⟩:∃ x,wS s (t - 8)=x:=⟨_,rfl⟩
    obtain⟨x3,hx3⟩:∃ x,wS s (t - 14)=x:=⟨_,rfl⟩
    obtain⟨x4,hx4⟩:∃ x,wS s (t - 16)=x:=⟨_,rfl⟩
    rw[hx1] at d1 k1
    rw[hx2] at d2 k2
    rw[hx3] at d3 k3
    rw[hx4] at d4 k4
    rw[hx1,hx2,hx3,hx4] at hwr
    have y1:=xor32 k1 k2
    have y2:=xor32 (xor_lt32 k1 k2) k3
    have y3:=xor32 (xor_lt32 (xor_lt32 k1 k2) k3) k4
    have yl:=xor_lt32 (xor_lt32 (xor_lt32 k1 k2) k3) k4
    obtain⟨z1,hz1⟩:∃ z,x1^^^x2=z:=⟨_,rfl⟩
    rw[hz1] at y1 y2 y3 yl hwr
    obtain⟨z2,hz2⟩:∃ z,z1^^^x3=z:=⟨_,rfl⟩
    rw[hz2] at y2 y3 yl hwr
    obtain⟨z3,hz3⟩:∃ z,z2^^^x4=z:=⟨_,rfl⟩
    rw[hz3] at y3 yl hwr
    obtain⟨W,hW⟩:∃ W,wS s t=W:=⟨_,rfl⟩
    rw[hW] at hwr
    have hwr':=hid hwr.symm
    have yl':=hid yl
    have hW':=hid hW
    have e1:IntKind.i64.wrap ((t:Int) - 3)=(t:Int) - 3:=IntWalk.i64_in _ (by omega)
    have e2:IntKind.i64.wrap ((t:Int) - 8)=(t:Int) - 8:=IntWalk.i64_in _ (by omega)
    have e3:IntKind.i64.wrap ((t:Int) - 14)=(t:Int) - 14:=IntWalk.i64_in _ (by omega)
    have e4:IntKind.i64.wrap ((t:Int) - 16)=(t:Int) - 16:=IntWalk.i64_in _ (by omega)
    have p1:3≤(t:Int):=by omega
    have p2:8≤(t:Int):=by omega
    have p3:14≤(t:Int):=by omega
    have p4:16≤(t:Int):=by omega
    have n1:((t:Int) - 3).toNat=t - 3:=by omega
    have n2:((t:Int) - 8).toNat=t - 8:=by omega
    have n3:((t:Int) - 14).toNat=t - 14:=by omega
    have n4:((t:Int) - 16).toNat=t - 16:=by omega
    clear hx1 hx2 hx3 hx4 k1 k2 k3 k4 hz1 hz2 hz3 hwr hW yl
    have t1:∀ y:Later (Gr wr),y.w.cell? ⟨b,t - 3,none⟩=some (.int .u32 x1):=fun y=>y.ok.cell d1
    have t2:∀ y:Later (Gr wr),y.w.cell? ⟨b,t - 8,none⟩=some (.int .u32 x2):=fun y=>y.ok.cell d2
    have t3:∀ y:Later (Gr wr),y.w.cell? ⟨b,t - 14,none⟩=some (.int .u32 x3):=fun y=>y.ok.cell d3
    have t4:∀ y:Later (Gr wr),y.w.cell? ⟨b,t - 16,none⟩=some (.int .u32 x4):=fun y=>y.ok.cell d4
    haveI:Nonempty (Later (Gr wr)):=⟨⟨wr,Gr.refl wr⟩⟩
    go_upto_region 6 with (fail)
    refine wp_region_later_tail (C:=Gr wr) 22 (by kernel_rfl) (by kernel_rfl) (Gr.drew' _) ?_
    simp only[List.take_succ_cons,List.take_zero,List.drop_succ_cons,List.drop_zero]
    repeat (go_big_quiet_step (with_reducible exact rot1_later _ hwr'.out yl'.out _))
    refine wpQuiet_nil ?_
    intro w9 hg9
    have hc9:=hid (fun j (hj:j<80)=>hg9.cell (hc'.out j hj))
    have hf9:=hid (fun j=>(Below.frozen hg9 (p:=⟨b,j,none⟩) hbl).trans (hf'.out j))
    have hct9:=hc9.out t h80
    have hft9:=hf9.out t
    have hg9':=hid (hg'.out.trans hg9)
    clear hg9 t1 t2 t3 t4 hct hft d1 d2 d3 d4
    go_wp2
    go_roundw
    case rel=>exact⟨t+1,by omega,by go_num,cells_step hc9.out h80 hW'.out,fun j=>frozen_set.trans (hf9.out j),hg9'.out.setCell (Nat.le_of_eq hb'.out) _⟩
    case measure=>simp[intOf];omega
  ·obtain rfl:t=80:=by omega
   have hcs:∀ j v,((List.range 80).map fun j=>Value.int .u32 (wS s j))[j]?=some v→wr.cell? ⟨b,0+j,none⟩=some v:=fun j v hv=>by
    rw[List.getElem?_map] at hv
    obtain⟨k,hk,rfl⟩:=Option.map_eq_some_iff.1 hv
    obtain⟨hj,hjk⟩:=List.getElem?_eq_some_iff.1 hk
    rw[List.length_range] at hj
    rw[List.getElem_range] at hjk
    subst hjk
    rw[Nat.zero_add]
    have:=hc'.out j hj
    rw[if_pos hj] at this
    exact this
   have hcs':=hid hcs
   clear hcs
   go_upto_region 8 with (fail)
   refine wp_region_lit ?_
   have hsz:(Tryz.prog.info? 296).map (·.size)=some ((List.range 80).map fun j=>Value.int .u32 (wS s j)).length:=by rw[List.length_map,List.length_range];kernel_rfl
   have hth:wr.there b 0 80:=fun j hj=>by
    rw[Nat.zero_add]
    exact⟨by rw[hc'.out j hj];rfl,hf'.out j⟩
   obtain⟨cs,hcsd⟩:∃ cs,((List.range 80).map fun j=>Value.int .u32 (wS s j))=cs:=⟨_,rfl⟩
   have hone:∀ v∈cs,v.oneCell'=true:=by
    rw[←hcsd];intro v hv
    obtain⟨j,_,rfl⟩:=List.mem_map.1 hv
    rfl
   have hlen:cs.length=80:=by rw[←hcsd,List.length_map,List.length_range]
   have hV:wordsV s=.agg cs.toArray:=by rw[←hcsd];rfl
   rw[hcsd] at hcs' hsz
   refine wpList_load_mid rfl 296 _ rfl b 0 rfl cs _ hcs'.out Tryz.underlying296 rfl hsz ?_
   refine wpList_store_mid rfl 296 _ _ rfl b 0 cs.toArray rfl rfl (by simpa[hlen] using hth) (by simpa using hsz) (all_oneCell_toArray hone) ?_
   have hV':=hid hV
   have hsz':=hid hsz
   have hat:=hid (World.rangeAt_setCells_same wr b 0 cs (by rw[hlen];exact hth))
   have hg9:=hid (Gr.setCells (Nat.le_of_eq hb'.out) cs 0 hg'.out)
   clear hV hsz hcsd hone hlen hth
   simp only[List.toList_toArray]
   generalize wr.setCells b 0 cs=w9 at hat hg9 ⊢
   go_wp2
   refine bodyPost_ret (results_cell rfl rfl (run_loadVar_mid w9 b 0 296 cs _ hat.out Tryz.underlying296 rfl hsz'.out)) rfl ⟨by rw[hV'.out],hg9.out⟩
structure St5 (W:World) (k:Nat) (x:W5):Prop where
 c0:W.cell? ⟨k,0,none⟩=some (.int .u32 x.a)
 c1:W.cell? ⟨k,1,none⟩=some (.int .u32 x.b)
 c2:W.cell? ⟨k,2,none⟩=some (.int .u32 x.c)
 c3:W.cell? ⟨k,3,none⟩=some (.int .u32 x.d)
 c4:W.cell? ⟨k,4,none⟩=some (.int .u32 x.e)
 fz:∀ o,W.frozen? ⟨k,o,none⟩=false
theorem St5.gr {W W':World} {k:Nat} {x:W5} (h:St5 W k x) (hg:Gr W W'):St5 W' k x :=
 ⟨hg.cell h.c0,hg.cell h.c1,hg.cell h.c2,hg.cell h.c3,hg.cell h.c4,fun o=>(Below.frozen hg (p:=⟨k,o,none⟩) (show k<_ from cell_lt h.c0)).trans (h.fz o)⟩
theorem St5.fresh (W:World) (x:W5) (t:TypeId):St5 (W.alloc (.cells #[.int .u32 x.a,.int .u32 x.b,.int .u32 x.c,.int .u32 x.d,.int .u32 x.e] t)) W.heap.size x :=
 ⟨cell_new7 _ [.int .u32 x.a,.int .u32 x.b,.int .u32 x.c,.int .u32 x.d,.int .u32 x.e] _ 0 _ rfl,cell_new7 _ [.int .u32 x.a,.int .u32 x.b,.int .u32 x.c,.int .u32 x.d,.int .u32 x.e] _ 1 _ rfl,cell_new7 _ [.int .u32 x.a,.int .u32 x.b,.int .u32 x.c,.int .u32 x.d,.int .u32 x.e] _ 2 _ rfl,cell_new7 _ [.int .u32 x.a,.int .u32 x.b,.int .u32 x.c,.int .u32 x.d,.int .u32 x.e] _ 3 _ rfl,cell_new7 _ [.int .u32 x.a,.int .u32 x.b,.int .u32 x.c,.int .u32 x.d,.int .u32 x.e] _ 4 _ rfl,fun o=>World.frozen?_alloc_at _ _ _ _ rfl⟩
theorem St5.range {W:World} {k:Nat} {x:W5} (h:St5 W k x):W.rangeAt k 0 [.int .u32 x.a,.int .u32 x.b,.int .u32 x.c,.int .u32 x.d,.int .u32 x.e]:=fun j v hv=>by
 rw[Nat.zero_add]
 match j,hv with
 | 0,hv=>exact h.c0.trans hv
 | 1,hv=>exact h.c1.trans hv
 | 2,hv=>exact h.c2.trans hv
 | 3,hv=>exact h.c3.trans hv
 | 4,hv=>exact h.c4.trans hv
 | n+5,hv=>simp at hv
def W5.at (x:W5):Nat→Nat
 | 0=>x.a | 1=>x.b | 2=>x.c | 3=>x.d | _=>x.e
theorem St5.at {W:World} {k:Nat} {x:W5} (h:St5 W k x):∀ j,j<5→W.cell? ⟨k,j,none⟩=some (.int .u32 (x.at j))
 | 0,_=>h.c0 | 1,_=>h.c1 | 2,_=>h.c2 | 3,_=>h.c3 | 4,_=>h.c4
 | n+5,hn=>by omega
theorem rot5_later (C:World→Prop) {x r:Nat} (hr:rotW 5 x=r) (hx:x<4294967296) (y:Later C) :
  Calls Tryz.prog 269 #[.int .u32 x,.int .i64 5] y.w fun e w'=>e=.returned (.int .u32 r)∧∃ z:Later C,w'=z.w :=
 Calls.later ((rot5_any x hx y.w).mono fun _ _ ⟨h1,h2⟩=>⟨hr▸h1,h2▸y.ok⟩)
theorem rot30_later (C:World→Prop) {x r:Nat} (hr:rotW 30 x=r) (hx:x<4294967296) (y:Later C) :
  Calls Tryz.prog 269 #[.int .u32 x,.int .i64 30] y.w fun e w'=>e=.returned (.int .u32 r)∧∃ z:Later C,w'=z.w :=
 Calls.later ((rot30_any x hx y.w).mono fun _ _ ⟨h1,h2⟩=>⟨hr▸h1,h2▸y.ok⟩)
theorem addI (a b:Nat):((a:Int)+b) % 4294967296=(addW a b:Int):=by unfold addW;rw[Int.natCast_emod];rfl
theorem addV (a b:Nat):IntKind.u32.wrap ((a:Int)+b)=(addW a b:Int):=by rw[Go.IntKind.wrap_u32',addI]
theorem cells_plus {wr:World} {b n z m:Nat} {f g:Nat→Nat} (hc:∀ j,j<m→wr.cell? ⟨b,j,none⟩=some (.int .u32 ((if j<n then addW (f j) (g j) else f j:Nat):Int))) (hn:n<m) (hz:addW (f n) (g n)=z) :
  ∀ j,j<m→(wr.setCell ⟨b,n,none⟩ (.int .u32 z)).cell? ⟨b,j,none⟩=some (.int .u32 ((if j<n+1 then addW (f j) (g j) else f j:Nat):Int)):=fun j hj=>by
 by_cases h:j=n
 ·subst h;rw[if_pos (by omega),hz];exact cell_set_same (hc j hj)
 ·rw[cell_off (hc j hj) h]
  by_cases h2:j<n
  ·rw[if_pos h2,if_pos (by omega)]
  ·rw[if_neg h2,if_neg (by omega)]
theorem St5.set {W:World} {k:Nat} {x:W5} (h:St5 W k x) (y:W5):St5 (((((W.setCell ⟨k,0,none⟩ (.int .u32 y.a)).setCell ⟨k,1,none⟩ (.int .u32 y.b)).setCell ⟨k,2,none⟩ (.int .u32 y.c)).setCell ⟨k,3,none⟩ (.int .u32 y.d)).setCell ⟨k,4,none⟩ (.int .u32 y.e)) k y:=by
 refine⟨?_,?_,?_,?_,?_,fun o=>frozen_set.trans (frozen_set.trans (frozen_set.trans (frozen_set.trans (frozen_set.trans (h.fz o)))))⟩
 ·exact cell_off (cell_off (cell_off (cell_off (cell_set_same h.c0) (by decide)) (by decide)) (by decide)) (by decide)
 ·exact cell_off (cell_off (cell_off (cell_set_same (cell_off h.c1 (by decide))) (by decide)) (by decide)) (by decide)
 ·exact cell_off (cell_off (cell_set_same (cell_off (cell_off h.c2 (by decide)) (by decide))) (by decide)) (by decide)
 ·exact cell_off (cell_set_same (cell_off (cell_off (cell_off h.c3 (by decide)) (by decide)) (by decide))) (by decide)
 ·exact cell_set_same (cell_off (cell_off (cell_off (cell_off h.c4 (by decide)) (by decide)) (by decide)) (by decide))
theorem St5.apart {W:World} {k:Nat} {x:W5} (h:St5 W k x) {a:Addr} (ha:a.block≠k) (v:Value):St5 (W.setCell a v) k x :=
 ⟨cell_set_other h.c0 ha,cell_set_other h.c1 ha,cell_set_other h.c2 ha,cell_set_other h.c3 ha,cell_set_other h.c4 ha,fun o=>frozen_set.trans (h.fz o)⟩
theorem after_any (x:W5) (s:List UInt8) (hs:s.length=64) (hx:x.ok) (w:World) :
  Calls Tryz.prog 247 #[w5V x,.string ⟨s.toArray⟩] w fun e w'=>e=.returned (w5V (comp5 x s))∧Gr w w':=by
 have hs':=hid hs
 have hx':=hid hx
 clear hs hx
 unfold w5V
 obtain⟨xa,xb,xc,xd,xe⟩:=x
 dsimp only
 go_enter Tryz.func247,Tryz.ntmps247
 go_wp2_with fail
 refine (schedule_any s hs'.out _).mono ?_
 rintro e w1 ⟨rfl,hg⟩
 have q0:=hid ((((St5.fresh w ⟨xa,xb,xc,xd,xe⟩ 277).gr (Gr.alloc _ _)).gr (Gr.alloc _ _)).gr hg)
 have q1:=hid (((St5.fresh (w.alloc (.cells #[.int .u32 xa,.int .u32 xb,.int .u32 xc,.int .u32 xd,.int .u32 xe] 277)) ⟨0,0,0,0,0⟩ 277).gr (Gr.alloc _ _)).gr hg)
 have q2:=hid ((St5.fresh ((w.alloc (.cells #[.int .u32 xa,.int .u32 xb,.int .u32 xc,.int .u32 xd,.int .u32 xe] 277)).alloc (.cells #[.int .u32 (0:Nat),.int .u32 (0:Nat),.int .u32 (0:Nat),.int .u32 (0:Nat),.int .u32 (0:Nat)] 277)) ⟨xa,xb,xc,xd,xe⟩ 277).gr hg)
 have g1:=hid (((((Gr.refl w).alloc1 _).alloc1 _).alloc1 _).trans hg)
 clear hg
 simp only[World.size_alloc] at q1 q2
 obtain⟨b0,hb0⟩:∃ b,w.heap.size=b:=⟨_,rfl⟩
 rw[hb0] at q0 q1 q2
 obtain⟨b1,hb1⟩:∃ b,b0+1=b:=⟨_,rfl⟩
 rw[hb1] at q1 q2
 obtain⟨b2,hb2⟩:∃ b,b1+1=b:=⟨_,rfl⟩
 rw[hb2] at q2
 have hb0':=hid hb0
 have hb1':=hid hb1
 have hb2':=hid hb2
 obtain⟨x,hxx⟩:∃ x:W5,⟨xa,xb,xc,xd,xe⟩=x:=⟨_,rfl⟩
 rw[hxx] at hx' q0 q2
 go_wp2
 clear hb0 hb1 hb2
 go_loopw [14] (fun i wr=>∃ t:Nat,t≤80∧i=.int .i64 t∧St5 wr b2 (roundsW s x t)∧St5 wr b0 x∧St5 wr b1 ⟨0,0,0,0,0⟩∧Gr w wr) (fun i _=>80 - (intOf i).toNat)
 case atStart=>exact⟨0,by omega,rfl,q2.out,q0.out,q1.out,g1.out⟩
 case round =>
  obtain⟨t,ht,rfl,hr,h0,h1,hg⟩:=hrel
  have hr':=hid hr
  have h0':=hid h0
  have h1':=hid h1
  have hg':=hid hg
  clear hr h0 h1 hg
  by_cases h80:t<80
  ·have h80I:(t:Int)<80:=by omega
   obtain⟨W,hW⟩:∃ W,wS s t=W:=⟨_,rfl⟩
   have hidx:(Instr.index 296 (wordsV s) (.int .i64 t)).run Tryz.prog wr=.ok (.int .u32 W) wr :=
    run_index_agg wr _ _ _ Tryz.underlying296 (Tryz.isAgg234 wr) (Tryz.sizeOf234 wr) h80 (by simp[h80,hW])
   obtain⟨r,hrr⟩:∃ r,roundsW s x t=r:=⟨_,rfl⟩
   have hok:=rounds_ok s hx'.out t
   rw[hrr] at hr' hok
   have hnext:roundsW s x (t+1)=roundW t W r:=by rw[roundsW,hrr,hW]
   obtain⟨ra,rb,rc,rd,re⟩:=r
   obtain⟨ok1,ok2,ok3,ok4,ok5⟩:=hok
   dsimp only at ok1 ok2 ok3 ok4 ok5
   obtain⟨F,hF⟩:∃ F,mixF t rb rc rd=F:=⟨_,rfl⟩
   obtain⟨K,hK⟩:∃ K,mixK t=K:=⟨_,rfl⟩
   obtain⟨A,hA⟩:∃ A,rotW 5 ra=A:=⟨_,rfl⟩
   obtain⟨B,hB⟩:∃ B,rotW 30 rb=B:=⟨_,rfl⟩
   obtain⟨s1,hs1⟩:∃ q,addW A F=q:=⟨_,rfl⟩
   obtain⟨s2,hs2⟩:∃ q,addW s1 re=q:=⟨_,rfl⟩
   obtain⟨s3,hs3⟩:∃ q,addW s2 K=q:=⟨_,rfl⟩
   obtain⟨s4,hs4⟩:∃ q,addW s3 W=q:=⟨_,rfl⟩
   have hnext':=hid (show roundsW s x (t+1)=⟨s4,ra,B,rc,rd⟩ by rw[hnext];unfold roundW;rw[hA,hF,hs1,hs2,hK,hs3,hs4,hB])
   have u1:IntKind.u32.wrap ((A:Int)+F)=s1:=by rw[addV,hs1]
   have u2:IntKind.u32.wrap ((s1:Int)+re)=s2:=by rw[addV,hs2]
   have u3:IntKind.u32.wrap ((s2:Int)+K)=s3:=by rw[addV,hs3]
   have u4:IntKind.u32.wrap ((s3:Int)+W)=s4:=by rw[addV,hs4]
   have hA':=hid hA
   have hB':=hid hB
   have hmix:=hid (fun w0=>mixed_any t rb rc rd h80 ok2 ok3 ok4 w0)
   rw[hF,hK] at hmix
   have ok1':=hid ok1
   have ok2':=hid ok2
   have e0:=hr'.out.c0
   have e1:=hr'.out.c1
   have e2:=hr'.out.c2
   have e3:=hr'.out.c3
   have e4:=hr'.out.c4
   dsimp only at e0 e1 e2 e3 e4
   clear hW hrr hnext hF hK hA hB hs1 hs2 hs3 hs4 ok1 ok2 ok3 ok4 ok5
   go_wp2_with fail
   refine (hmix.out _).mono ?_
   rintro e w2 ⟨rfl,rfl⟩
   go_upto_region 6 with (fail)
   have t0:∀ y:Later (Gr wr),y.w.cell? ⟨b2,0,none⟩=some (.int .u32 ra):=fun y=>y.ok.cell e0
   have t1:∀ y:Later (Gr wr),y.w.cell? ⟨b2,1,none⟩=some (.int .u32 rb):=fun y=>y.ok.cell e1
   have t2:∀ y:Later (Gr wr),y.w.cell? ⟨b2,2,none⟩=some (.int .u32 rc):=fun y=>y.ok.cell e2
   have t3:∀ y:Later (Gr wr),y.w.cell? ⟨b2,3,none⟩=some (.int .u32 rd):=fun y=>y.ok.cell e3
   have t4:∀ y:Later (Gr wr),y.w.cell? ⟨b2,4,none⟩=some (.int .u32 re):=fun y=>y.ok.cell e4
   haveI:Nonempty (Later (Gr wr)):=⟨⟨wr,Gr.refl wr⟩⟩
   refine wp_region_later_tail (C:=Gr wr) 22 (by kernel_rfl) (by kernel_rfl) (Gr.drew' _) ?_
   simp only[List.take_succ_cons,List.take_zero,List.drop_succ_cons,List.drop_zero]
   repeat (go_big_quiet_step (first | with_reducible exact rot5_later _ hA'.out ok1'.out _ | with_reducible exact rot30_later _ hB'.out ok2'.out _))
   refine wpQuiet_nil ?_
   intro w9 hg9
   have hr9:=hid (hr'.out.gr hg9)
   have h09:=hid (h0'.out.gr hg9)
   have h19:=hid (h1'.out.gr hg9)
   have hg9':=hid (hg'.out.trans hg9)
   clear hg9 t0 t1 t2 t3 t4 e0 e1 e2 e3 e4 u1 u2 u3 u4
   have e0:=hr9.out.c0
   have e1:=hr9.out.c1
   have e2:=hr9.out.c2
   have e3:=hr9.out.c3
   have e4:=hr9.out.c4
   have f0:=hr9.out.fz 0
   have f1:=hr9.out.fz 1
   have f2:=hr9.out.fz 2
   have f3:=hr9.out.fz 3
   have f4:=hr9.out.fz 4
   dsimp only at e0 e1 e2 e3 e4
   have hne0:=hid (show b2≠b0 by have:=hb1'.out;have:=hb2'.out;omega)
   have hne1:=hid (show b2≠b1 by have:=hb2'.out;omega)
   have hbb:=hid (show w.heap.size≤b2 by have:=hb0'.out;have:=hb1'.out;have:=hb2'.out;omega)
   go_wp2
   go_roundw
   case rel =>
    refine⟨t+1,by omega,by go_num,?_,((((h09.out.apart hne0.out _).apart hne0.out _).apart hne0.out _).apart hne0.out _).apart hne0.out _,((((h19.out.apart hne1.out _).apart hne1.out _).apart hne1.out _).apart hne1.out _).apart hne1.out _,((((hg9'.out.setCell hbb.out _).setCell hbb.out _).setCell hbb.out _).setCell hbb.out _).setCell hbb.out _⟩
    rw[hnext'.out];exact hr9.out.set ⟨s4,ra,B,rc,rd⟩
   case measure=>simp[intOf];omega
  ·obtain rfl:t=80:=by omega
   obtain⟨y,hy⟩:∃ y,roundsW s x 80=y:=⟨_,rfl⟩
   rw[hy] at hr'
   have hcomp:=hid (show comp5 x s=plus5 x y by unfold comp5;rw[hy])
   clear hy
   go_wp2
   go_loopw [52] (fun i wx=>∃ n:Nat,n≤5∧i=.int .i64 n∧(∀ j,j<5→wx.cell? ⟨b0,j,none⟩=some (.int .u32 ((if j<n then addW (x.at j) (y.at j) else x.at j:Nat):Int)))∧(∀ o,wx.frozen? ⟨b0,o,none⟩=false)∧St5 wx b2 y∧St5 wx b1 ⟨0,0,0,0,0⟩∧Gr w wx) (fun i _=>5 - (intOf i).toNat)
   case atStart=>exact⟨0,by omega,rfl,h0'.out.at,h0'.out.fz,hr'.out,h1'.out,hg'.out⟩
   case round =>
    obtain⟨n,hn,rfl,k0,k1,k2,k3,k4⟩:=hrel
    have k0':=hid k0
    have k1':=hid k1
    have k2':=hid k2
    have k3':=hid k3
    have k4':=hid k4
    clear k0 k1 k2 k3 k4
    by_cases hn5:n<5
    ·have hn5I:(n:Int)<5:=by omega
     have e0:=k0'.out n hn5
     rw[if_neg (by omega)] at e0
     have e2:=k2'.out.at n hn5
     have hbl:b0<wr.heap.size:=cell_lt e0
     obtain⟨p,hp⟩:∃ p,x.at n=p:=⟨_,rfl⟩
     obtain⟨q,hq⟩:∃ q,y.at n=q:=⟨_,rfl⟩
     obtain⟨z,hz⟩:∃ z,addW p q=z:=⟨_,rfl⟩
     rw[hp] at e0
     rw[hq] at e2
     have u1:IntKind.u32.wrap ((p:Int)+q)=z:=by rw[addV,hz]
     have hzz:=hid (show addW (x.at n) (y.at n)=z by rw[hp,hq,hz])
     clear hp hq hz
     go_upto_region 11 with (fail)
     have t0:∀ v:Later (Gr wr),v.w.cell? ⟨b0,n,none⟩=some (.int .u32 p):=fun v=>v.ok.cell e0
     have t2:∀ v:Later (Gr wr),v.w.cell? ⟨b2,n,none⟩=some (.int .u32 q):=fun v=>v.ok.cell e2
     haveI:Nonempty (Later (Gr wr)):=⟨⟨wr,Gr.refl wr⟩⟩
     refine wp_region_later_tail (C:=Gr wr) 8 (by kernel_rfl) (by kernel_rfl) (Gr.drew' _) ?_
     simp only[List.take_succ_cons,List.take_zero,List.drop_succ_cons,List.drop_zero]
     repeat (go_big_quiet_step (fail))
     refine wpQuiet_nil ?_
     intro w9 hg9
     have hc9:=hid (fun j (hj:j<5)=>hg9.cell (k0'.out j hj))
     have hf9:=hid (fun j=>(Below.frozen hg9 (p:=⟨b0,j,none⟩) hbl).trans (k1'.out j))
     have h29:=hid (k2'.out.gr hg9)
     have h19:=hid (k3'.out.gr hg9)
     have hg9':=hid (k4'.out.trans hg9)
     have e9:=hg9.cell e0
     have f9:=hf9.out n
     have hne0:=hid (show b0≠b2 by have:=hb1'.out;have:=hb2'.out;omega)
     have hne1:=hid (show b0≠b1 by have:=hb1'.out;omega)
     clear hg9 t0 t2 e0 e2 u1
     go_wp2
     go_roundw
     case rel=>exact⟨n+1,by omega,by go_num,cells_plus hc9.out hn5 hzz.out,fun j=>frozen_set.trans (hf9.out j),h29.out.apart hne0.out _,h19.out.apart hne1.out _,hg9'.out.setCell (Nat.le_of_eq hb0'.out) _⟩
     case measure=>simp[intOf];omega
    ·obtain rfl:n=5:=by omega
     have e0:=k0'.out 0 (by decide)
     have e1:=k0'.out 1 (by decide)
     have e2:=k0'.out 2 (by decide)
     have e3:=k0'.out 3 (by decide)
     have e4:=k0'.out 4 (by decide)
     rw[if_pos (by decide)] at e0 e1 e2 e3 e4
     obtain⟨p0,hp0⟩:∃ p,addW (x.at 0) (y.at 0)=p:=⟨_,rfl⟩
     obtain⟨p1,hp1⟩:∃ p,addW (x.at 1) (y.at 1)=p:=⟨_,rfl⟩
     obtain⟨p2,hp2⟩:∃ p,addW (x.at 2) (y.at 2)=p:=⟨_,rfl⟩
     obtain⟨p3,hp3⟩:∃ p,addW (x.at 3) (y.at 3)=p:=⟨_,rfl⟩
     obtain⟨p4,hp4⟩:∃ p,addW (x.at 4) (y.at 4)=p:=⟨_,rfl⟩
     rw[hp0] at e0
     rw[hp1] at e1
     rw[hp2] at e2
     rw[hp3] at e3
     rw[hp4] at e4
     have hres:=hid (show w5V (comp5 x s)=.agg #[.int .u32 p0,.int .u32 p1,.int .u32 p2,.int .u32 p3,.int .u32 p4] by rw[hcomp.out,←hp0,←hp1,←hp2,←hp3,←hp4];rfl)
     clear hp0 hp1 hp2 hp3 hp4
     have r0:=k3'.out.c0
     have r1:=k3'.out.c1
     have r2:=k3'.out.c2
     have r3:=k3'.out.c3
     have r4:=k3'.out.c4
     have f0:=k3'.out.fz 0
     have f1:=k3'.out.fz 1
     have f2:=k3'.out.fz 2
     have f3:=k3'.out.fz 3
     have f4:=k3'.out.fz 4
     dsimp only at r0 r1 r2 r3 r4
     have hbb:=hid (show w.heap.size≤b1 by have:=hb0'.out;have:=hb1'.out;omega)
     go_wp2
     have hfin:=k3'.out.set ⟨p0,p1,p2,p3,p4⟩
     refine bodyPost_ret (results_cell rfl rfl (run_loadVar_mid _ b1 0 277 _ _ hfin.range Tryz.underlying277 rfl (by kernel_rfl))) rfl ⟨?_,((((k4'.out.setCell hbb.out _).setCell hbb.out _).setCell hbb.out _).setCell hbb.out _).setCell hbb.out _⟩
     show Ending.returned _=Ending.returned (w5V (comp5 ⟨xa,xb,xc,xd,xe⟩ s))
     rw[hxx,hres.out]
end Go.Proofs.YtadobobfjnmdlaaGreatDoor
