/-
  A frame's head in memory.
-/
import Derived.Test.YtadobobfjnmdlaaGreatDoorQo
import Derived.Lib.LazyBuf
import Derived.Lib.BufferWrite
set_option linter.unnecessarySimpa false
set_option linter.unusedVariables false
set_option linter.unusedSimpArgs false
set_option maxHeartbeats 16000000
set_option maxRecDepth 100000
open Go.Lib (hid)
open Go.Proofs.Tryz
namespace Go.Proofs.YtadobobfjnmdlaaGreatDoor
open Go.RowKit Go.Shelf
attribute [local go_sem] Oper.semAt_some
def Hd.V (h:Hd):Value:=.agg #[.bool h.fin,.int .i64 h.rsv,.int .i64 h.op,.bool h.masked,.int .u8 h.k0.toNat,.int .u8 h.k1.toNat,.int .u8 h.k2.toNat,.int .u8 h.k3.toNat,.int .u64 h.len,.bool h.least]
def headV (s:List UInt8):Value:=match headH s with
 | none=>.tuple #[hd0.V,.int .i64 0,.bool false]
 | some (h,n)=>.tuple #[h.V,.int .i64 n,.bool true]
theorem rhead_short (s:List UInt8) (h:s.length<2) (W:World):Calls prog 224 #[.string ⟨s.toArray⟩] W λe w'=>e=.returned (.tuple #[hd0.V,.int .i64 0,.bool false])∧Gr W w':=by
 have hI:(s.length:Int)<2:=by omega
 go_enter func224,ntmps224
 go_wp2
 refine bodyPost_ret (v:=.tuple #[hd0.V,.int .i64 0,.bool false]) (by simp[results,results224,go_sem,Hd.V,hd0]) rfl ⟨rfl,Gr.alloc _ _⟩
structure HdC (rb:Nat) (W:World) (h:Hd):Prop where
 c0:W.cell? ⟨rb,0,none⟩=some (.bool h.fin)
 c1:W.cell? ⟨rb,1,none⟩=some (.int .i64 h.rsv)
 c2:W.cell? ⟨rb,2,none⟩=some (.int .i64 h.op)
 c3:W.cell? ⟨rb,3,none⟩=some (.bool h.masked)
 c4:W.cell? ⟨rb,4,none⟩=some (.int .u8 h.k0.toNat)
 c5:W.cell? ⟨rb,5,none⟩=some (.int .u8 h.k1.toNat)
 c6:W.cell? ⟨rb,6,none⟩=some (.int .u8 h.k2.toNat)
 c7:W.cell? ⟨rb,7,none⟩=some (.int .u8 h.k3.toNat)
 c8:W.cell? ⟨rb,8,none⟩=some (.int .u64 h.len)
 c9:W.cell? ⟨rb,9,none⟩=some (.bool h.least)
 fz:∀ o,W.frozen? ⟨rb,o,none⟩=false
theorem HdC.lt {rb:Nat} {W:World} {h:Hd} (k:HdC rb W h):rb<W.heap.size:=cell_lt k.c0
theorem HdC.gr {rb:Nat} {W W':World} {h:Hd} (k:HdC rb W h) (g:Gr W W'):HdC rb W' h :=
 ⟨g.cell k.c0,g.cell k.c1,g.cell k.c2,g.cell k.c3,g.cell k.c4,g.cell k.c5,g.cell k.c6,g.cell k.c7,g.cell k.c8,g.cell k.c9,λo=>(Below.frozen g (p:=⟨rb,o,none⟩) k.lt).trans (k.fz o)⟩
theorem hdC_new (W:World) (t:TypeId):HdC W.heap.size (W.alloc (.cells #[.bool false,.int .i64 0,.int .i64 0,.bool false,.int .u8 0,.int .u8 0,.int .u8 0,.int .u8 0,.int .u64 0,.bool false] t)) hd0 :=
 ⟨cell_new7 _ _ _ 0 _ rfl,cell_new7 _ _ _ 1 _ rfl,cell_new7 _ _ _ 2 _ rfl,cell_new7 _ _ _ 3 _ rfl,cell_new7 _ _ _ 4 _ rfl,cell_new7 _ _ _ 5 _ rfl,cell_new7 _ _ _ 6 _ rfl,cell_new7 _ _ _ 7 _ rfl,cell_new7 _ _ _ 8 _ rfl,cell_new7 _ _ _ 9 _ rfl,λ_=>World.frozen?_alloc_at _ _ _ _ rfl⟩
theorem and7_i64:∀ n:Fin 256,bits .and .i64 ((n.val:Int) / 16) 7=((n.val / 16 % 8:Nat):Int):=by decide +kernel
theorem not128_u8:∀ n:Fin 256,bits .andNot .u8 (n.val:Int) 128=((n.val % 128:Nat):Int):=by decide +kernel
theorem shr4_and7:∀ n:Fin 256,((UInt8.ofNat n.val >>> 4)&&&7).toNat=n.val / 16 % 8:=by decide +kernel
theorem and15_u8:∀ n:Fin 256,(UInt8.ofNat n.val&&&15).toNat=n.val % 16:=by decide +kernel
theorem and127_u8:∀ n:Fin 256,(UInt8.ofNat n.val&&&127).toNat=n.val % 128:=by decide +kernel
theorem moreH_le (n:Nat):moreH n≤8:=by unfold moreH;split <;> (try split) <;> omega
theorem HdC.put10 {rb:Nat} {W:World} {h h':Hd} (k:HdC rb W h) (v0 v1 v2 v3 v4 v5 v6 v7 v8 v9:Value) (e0:v0=.bool h'.fin) (e1:v1=.int .i64 h'.rsv) (e2:v2=.int .i64 h'.op) (e3:v3=.bool h'.masked) (e4:v4=.int .u8 h'.k0.toNat) (e5:v5=.int .u8 h'.k1.toNat) (e6:v6=.int .u8 h'.k2.toNat) (e7:v7=.int .u8 h'.k3.toNat) (e8:v8=.int .u64 h'.len) (e9:v9=.bool h'.least) :
  HdC rb ((((((((((W.setCell ⟨rb,0,none⟩ v0).setCell ⟨rb,1,none⟩ v1).setCell ⟨rb,2,none⟩ v2).setCell ⟨rb,3,none⟩ v3).setCell ⟨rb,4,none⟩ v4).setCell ⟨rb,5,none⟩ v5).setCell ⟨rb,6,none⟩ v6).setCell ⟨rb,7,none⟩ v7).setCell ⟨rb,8,none⟩ v8).setCell ⟨rb,9,none⟩ v9) h':=by
 subst e0 e1 e2 e3 e4 e5 e6 e7 e8 e9
 constructor
 ·simp[go_sem,k.c0]
 ·simp[go_sem,k.c1]
 ·simp[go_sem,k.c2]
 ·simp[go_sem,k.c3]
 ·simp[go_sem,k.c4]
 ·simp[go_sem,k.c5]
 ·simp[go_sem,k.c6]
 ·simp[go_sem,k.c7]
 ·simp[go_sem,k.c8]
 ·simp[go_sem,k.c9]
 ·intro o
  simp only[frozen_set]
  exact k.fz o
theorem HdC.setLen {rb:Nat} {W:World} {h:Hd} (k:HdC rb W h) (n:Nat):HdC rb (W.setCell ⟨rb,8,none⟩ (.int .u64 n)) { h with len:=n } :=
 ⟨cell_off k.c0 (by decide),cell_off k.c1 (by decide),cell_off k.c2 (by decide),cell_off k.c3 (by decide),cell_off k.c4 (by decide),cell_off k.c5 (by decide),cell_off k.c6 (by decide),cell_off k.c7 (by decide),cell_set_same k.c8,cell_off k.c9 (by decide),λo=>by rw[frozen_set];exact k.fz o⟩
theorem HdC.setLeast {rb:Nat} {W:World} {h:Hd} (k:HdC rb W h) (v:Bool):HdC rb (W.setCell ⟨rb,9,none⟩ (.bool v)) { h with least:=v } :=
 ⟨cell_off k.c0 (by decide),cell_off k.c1 (by decide),cell_off k.c2 (by decide),cell_off k.c3 (by decide),cell_off k.c4 (by decide),cell_off k.c5 (by decide),cell_off k.c6 (by decide),cell_off k.c7 (by decide),cell_off k.c8 (by decide),cell_set_same k.c9,λo=>by rw[frozen_set];exact k.fz o⟩
theorem HdC.setKeys {rb:Nat} {W:World} {h:Hd} (k:HdC rb W h) (x0 x1 x2 x3:UInt8):HdC rb ((((W.setCell ⟨rb,4,none⟩ (.int .u8 x0.toNat)).setCell ⟨rb,5,none⟩ (.int .u8 x1.toNat)).setCell ⟨rb,6,none⟩ (.int .u8 x2.toNat)).setCell ⟨rb,7,none⟩ (.int .u8 x3.toNat)) { h with k0:=x0,k1:=x1,k2:=x2,k3:=x3 }:=by
 constructor
 ·simp[go_sem,k.c0]
 ·simp[go_sem,k.c1]
 ·simp[go_sem,k.c2]
 ·simp[go_sem,k.c3]
 ·simp[go_sem,k.c4]
 ·simp[go_sem,k.c5]
 ·simp[go_sem,k.c6]
 ·simp[go_sem,k.c7]
 ·simp[go_sem,k.c8]
 ·simp[go_sem,k.c9]
 ·intro o
  simp only[frozen_set]
  exact k.fz o
theorem gr10 {w W:World} {rb:Nat} (g:Gr w W) (h:w.heap.size≤rb) (v0 v1 v2 v3 v4 v5 v6 v7 v8 v9:Value) :
  Gr w ((((((((((W.setCell ⟨rb,0,none⟩ v0).setCell ⟨rb,1,none⟩ v1).setCell ⟨rb,2,none⟩ v2).setCell ⟨rb,3,none⟩ v3).setCell ⟨rb,4,none⟩ v4).setCell ⟨rb,5,none⟩ v5).setCell ⟨rb,6,none⟩ v6).setCell ⟨rb,7,none⟩ v7).setCell ⟨rb,8,none⟩ v8).setCell ⟨rb,9,none⟩ v9) :=
 (((((((((g.setCell h v0).setCell h v1).setCell h v2).setCell h v3).setCell h v4).setCell h v5).setCell h v6).setCell h v7).setCell h v8).setCell h v9
theorem headH_eq (a b:UInt8) (t s:List UInt8) (hs:a :: b :: t=s) (n sm lv:Nat) (mk lb:Bool) (hsm:b.toNat % 128=sm) (hn:moreH sm+2=n) (hmk:decide (128≤b.toNat)=mk)
  (hlv:(if 2<n then bigH ((s.take n).drop 2) else sm)=lv) (hlb:((leastH lv:Int)==((moreH sm:Nat):Int))=lb) :
  headH s=if s.length<(if mk then n+4 else n) then none else some (⟨decide (128≤(a.toNat:Int)),a.toNat / 16 % 8,a.toNat % 16,mk,if mk then s.getD n 0 else 0,if mk then s.getD (n+1) 0 else 0,if mk then s.getD (n+2) 0 else 0,if mk then s.getD (n+3) 0 else 0,lv,lb⟩,if mk then n+4 else n):=by
 have g0:s.getD 0 0=a:=by rw[←hs];rfl
 have g1:s.getD 1 0=b:=by rw[←hs];rfl
 have hl:2≤s.length:=by rw[←hs];simp
 have f127:(b&&&127).toNat=sm:=by have:=and127_u8 ⟨b.toNat,b.toNat_lt⟩;simpa[hsm] using this
 have f15:(a&&&15).toNat=a.toNat % 16:=by have:=and15_u8 ⟨a.toNat,a.toNat_lt⟩;simpa using this
 have f7:((a >>> 4)&&&7).toNat=a.toNat / 16 % 8:=by have:=shr4_and7 ⟨a.toNat,a.toNat_lt⟩;simpa using this
 have hz:sizeH s=n:=by unfold sizeH;rw[g1,f127];omega
 have hb:(128≤b)=(mk=true):=by rw[←hmk];simp[UInt8.le_iff_toNat_le]
 have ha:decide (128≤a)=decide (128≤(a.toNat:Int)):=by simp only[decide_eq_decide,UInt8.le_iff_toNat_le];constructor <;> intro h <;> (have h':(128:UInt8).toNat=128:=rfl) <;> omega
 have hb2:decide (128≤b)=mk:=by simp only[hb];cases mk <;> rfl
 have hlen:lenH s=lv:=by unfold lenH;rw[hz,g1,f127];exact hlv
 have hnd:needH s=if mk then n+4 else n:=by unfold needH;rw[g1,hz];simp only[hb]
 have hle:(leastH lv==n - 2)=lb:=by
  rw[←hlb,show n - 2=moreH sm by omega]
  cases h:(leastH lv==moreH sm)
  ·have:=beq_eq_false_iff_ne.1 h
   exact (beq_eq_false_iff_ne.2 (by omega)).symm
  ·have:=eq_of_beq h
   rw[this];simp
 unfold headH
 rw[hnd]
 by_cases hc:s.length<(if mk then n+4 else n)
 ·rw[if_pos (.inr hc),if_pos hc]
 ·rw[if_neg (by rintro (h | h) <;> omega),if_neg hc]
  unfold mkH maskK
  rw[g0,g1,hlen,hz,f7,f15,hle,ha,hb2]
  simp only[hb,Nat.add_zero]
theorem rh_results (tmps:Array Value) (rb:Nat) (W:World) (h:Hd) (n:Int) (k:HdC rb W h) (t2:tmps[2]?=some (.pointer (some ⟨rb,0,none⟩))) (t3:tmps[3]?=some (.int .i64 n)) (t4:tmps[4]?=some (.bool true)) :
  (results Tryz.f224 tmps).run prog W=.ok (.tuple #[h.V,.int .i64 n,.bool true]) W:=by
 obtain⟨z0,z1,z2,z3,z4,z5,z6,z7,z8,z9,zf⟩:=k
 simp[results,results224,go_sem,Hd.V,z0,z1,z2,z3,z4,z5,z6,z7,z8,z9,t2,t3,t4]
theorem rhead_long (a b:UInt8) (t:List UInt8) (W:World) (ht:t.length≤4611686018427387900) :
  Calls prog 224 #[.string ⟨(a :: b :: t).toArray⟩] W λe w'=>e=.returned (headV (a :: b :: t))∧Gr W w':=by
 obtain⟨s,hs⟩:∃ s,(a :: b :: t)=s:=⟨_,rfl⟩
 have hl:s.length=t.length+2:=by rw[←hs];rfl
 have h0:(⟨s.toArray⟩:ByteArray)[0]'(by rw[size_mk];omega)=a:=by subst hs;rfl
 have h1:(⟨s.toArray⟩:ByteArray)[1]'(by rw[size_mk];omega)=b:=by subst hs;rfl
 have ha:=a.toNat_lt
 have hb:=b.toNat_lt
 have haI:(a.toNat:Int)<256:=by omega
 have hbI:(b.toNat:Int)<256:=by omega
 have hl2:(2:Int)≤s.length:=by omega
 have hl2':¬(s.length:Int)<2:=by omega
 have hand:=and7_i64 ⟨a.toNat,ha⟩
 have hnot:=not128_u8 ⟨b.toNat,hb⟩
 dsimp only at hand hnot
 obtain⟨w1,hw1⟩:∃ w1,W.alloc (.cells #[.bool false,.int .i64 0,.int .i64 0,.bool false,.int .u8 0,.int .u8 0,.int .u8 0,.int .u8 0,.int .u64 0,.bool false] 152)=w1:=⟨_,rfl⟩
 have hz1:=hid (hw1▸hdC_new W 152:HdC W.heap.size w1 hd0)
 have hg1:=hid (hw1▸Gr.alloc W _:Gr W w1)
 haveI:Nonempty (Later (Gr w1)):=⟨⟨_,Gr.refl _⟩⟩
 obtain⟨rv,hrv⟩:∃ rv,a.toNat / 16 % 8=rv:=⟨_,rfl⟩
 obtain⟨opv,hopv⟩:∃ opv,a.toNat % 16=opv:=⟨_,rfl⟩
 have hopI:(a.toNat:Int) % 16=(opv:Int):=by omega
 rw[hrv] at hand
 obtain⟨sm,hsm⟩:∃ sm,b.toNat % 128=sm:=⟨_,rfl⟩
 have hsmI:(b.toNat:Int) % 128=(sm:Int):=by omega
 rw[hsm] at hnot
 rw[hs]
 go_enter func224,ntmps224
 go_upto_region 3 with (fail)
 go_cut [] (λwx=>HdC W.heap.size wx ⟨decide (128≤(a.toNat:Int)),rv,opv,decide (128≤(b.toNat:Int)),0,0,0,0,0,false⟩∧Gr W wx)
 case first =>
  refine wp_region_later_tail (C:=Gr w1) 16 (by kernel_rfl) (by kernel_rfl) (Gr.drew' _) ?_
  simp only[List.take_succ_cons,List.take_zero,List.drop_succ_cons,List.drop_zero]
  repeat (go_big_quiet_step (fail))
  refine wpQuiet_nil ?_
  intro w9 hg9
  have hz9:=hz1.out.gr hg9
  have hz9':=hid hz9
  have hg9':=hid (hg1.out.trans hg9)
  obtain⟨z0,z1,z2,z3,z4,z5,z6,z7,z8,z9,zf⟩:=hz9
  clear hg9
  go_wp2
  go_meet
  exact⟨hz9'.out.put10 _ _ _ _ _ _ _ _ _ _ rfl rfl rfl rfl rfl rfl rfl rfl rfl rfl,gr10 hg9'.out (Nat.le_refl _) _ _ _ _ _ _ _ _ _ _⟩
 case rest =>
  obtain⟨hH,hg⟩:=hcut
  have hH':=hid hH
  have hg':=hid hg
  obtain⟨z0,z1,z2,z3,z4,z5,z6,z7,z8,z9,zf⟩:=hH
  have hmo:=hid (fmore_any sm wc)
  obtain⟨m,hm⟩:∃ m,moreH sm=m:=⟨_,rfl⟩
  have hm8:m≤8:=hm▸moreH_le sm
  rw[hm] at hmo
  obtain⟨n,hn⟩:∃ n,m+2=n:=⟨_,rfl⟩
  have hnI:(2:Int)+(m:Int)=(n:Int):=by omega
  have hnI2:(n:Int) - 2=(m:Int):=by omega
  clear hg hand hw1 hz1 hg1 this
  go_wp2_with fail
  refine (hmo.out).mono ?_
  rintro e w2⟨rfl,rfl⟩
  obtain⟨al,hal⟩:∃ al,(if 128≤b.toNat then n+4 else n)=al:=⟨_,rfl⟩
  have hal14:al≤14∧n≤al:=by rw[←hal];split <;> omega
  have hbi:decide (128≤(b.toNat:Int))=decide (128≤b.toNat):=by simp only[decide_eq_decide];omega
  obtain⟨mk,hmk⟩:∃ mk,decide (128≤b.toNat)=mk:=⟨_,rfl⟩
  rw[hbi,hmk] at z3
  rw[hbi,hmk] at hH'
  have hmk':=hid hmk
  have halm:=hid (show al=if mk then n+4 else n by rw[←hal,←hmk];simp)
  clear hmk hbi hal hmo
  go_upto_if 36 with (fail)
  go_cut [6] (λv wx=>v=.int .i64 al∧wx=wc)
  case first =>
   cases mk with
   | true =>
    have ha1:=halm.out
    rw[if_pos rfl] at ha1
    clear hH'
    go_wp2
    go_meet
    exact⟨congrArg (Value.int .i64) (by omega),rfl⟩
   | false =>
    have ha1:=halm.out
    rw[if_neg (by decide)] at ha1
    clear hH'
    go_wp2
    go_meet
    exact⟨congrArg (Value.int .i64) (by omega),rfl⟩
  case rest =>
   obtain⟨rfl,rfl⟩:=hcut
   by_cases hsh:s.length<al
   ·have hshI:(s.length:Int)<al:=by omega
    go_wp2
    refine bodyPost_ret (v:=.tuple #[hd0.V,.int .i64 0,.bool false]) (by simp[results,results224,go_sem,Hd.V,hd0,z0,z1,z2,z3,z4,z5,z6,z7,z8,z9]) rfl ⟨?_,gr10 hg'.out (Nat.le_refl _) _ _ _ _ _ _ _ _ _ _⟩
    have hh:=headH_eq a b t s hs n sm _ mk _ hsm (hm▸hn) hmk'.out rfl rfl
    rw[←halm.out,if_pos hsh] at hh
    unfold headV
    rw[hh]
   ·have hshI:¬(s.length:Int)<al:=by omega
    obtain⟨lv,hlv⟩:∃ lv,(if 2<n then bigH ((s.take n).drop 2) else sm)=lv:=⟨_,rfl⟩
    have hlv':=hid hlv
    have hHz:=hH'.out.lt
    have hns:n≤s.length:=by omega
    have hbg:=hid (fbig_any ((s.take n).drop 2) (by simp;omega))
    have hx13:(⟨s.toArray⟩:ByteArray).extract 2 n=⟨((s.take n).drop 2).toArray⟩:=by rw[extract_mk]
    have hnt:n≤t.length+2:=by omega
    go_upto_if 48 with (fail)
    go_cut [] (λwx=>HdC W.heap.size wx ⟨decide (128≤(a.toNat:Int)),rv,opv,mk,0,0,0,0,lv,false⟩∧Gr W wx)
    case first =>
     by_cases hn2:2<n
     ·have hn2I:(2:Int)<n:=by omega
      rw[if_pos hn2] at hlv
      rw[hlv] at hbg
      clear hlv
      go_wp2_with fail
      refine (hbg.out _).mono ?_
      rintro e w3⟨rfl,rfl⟩
      go_wp2
      go_meet
      exact⟨(hH'.out.setLen sm).setLen lv,(hg'.out.setCell (Nat.le_refl _) _).setCell (Nat.le_refl _) _⟩
     ·have hn2I:¬(2:Int)<n:=by omega
      clear hlv
      go_wp2
      go_meet
      have e:=hlv'.out
      rw[if_neg hn2] at e
      subst e
      exact⟨hH'.out.setLen sm,hg'.out.setCell (Nat.le_refl _) _⟩
    case rest =>
     obtain⟨hH2,hg2⟩:=hcut
     have hH2':=hid hH2
     have hg2':=hid hg2
     have hls:=hid (fleast_any lv)
     obtain⟨lb,hlb⟩:∃ lb,((leastH lv:Int)==(m:Int))=lb:=⟨_,rfl⟩
     have hmw:IntKind.i64.wrap (m:Int)=m:=IntWalk.i64_in _ (by omega)
     clear z0 z1 z2 z3 z4 z5 z6 z7 z8 z9 zf hg' hlv hbg hH2 hg2
     obtain⟨z0,z1,z2,z3,z4,z5,z6,z7,z8,z9,zf⟩:=hH2'.out
     go_wp2_with fail
     refine (hls.out _).mono ?_
     rintro e w3⟨rfl,rfl⟩
     go_upto_region 15 with (fail)
     obtain⟨w5,hw5⟩:∃ w5,wc.setCell ⟨W.heap.size,9,none⟩ (.bool lb)=w5:=⟨_,rfl⟩
     rw[hw5]
     have hH3:=hid (hw5▸hH2'.out.setLeast lb:HdC W.heap.size w5 ⟨decide (128≤(a.toNat:Int)),rv,opv,mk,0,0,0,0,lv,lb⟩)
     have hg3:=hid (hw5▸hg2'.out.setCell (Nat.le_refl _) _:Gr W w5)
     haveI:Nonempty (Later (Gr w5)):=⟨⟨_,Gr.refl _⟩⟩
     have hals:al≤s.length:=by omega
     have halt:al≤t.length+2:=by omega
     have hnal:n≤al:=hal14.2
     clear z0 z1 z2 z3 z4 z5 z6 z7 z8 z9 zf hw5 hH2' hg2'
     refine wp_region_later_tail (C:=Gr w5) 6 (by kernel_rfl) (by kernel_rfl) (Gr.drew' _) ?_
     simp only[List.take_succ_cons,List.take_zero,List.drop_succ_cons,List.drop_zero]
     cases mk with
     | true =>
      have ha1:=halm.out
      rw[if_pos rfl] at ha1
      obtain⟨x0,e0⟩:∃ x,s.getD n 0=x:=⟨_,rfl⟩
      obtain⟨x1,e1⟩:∃ x,s.getD (n+1) 0=x:=⟨_,rfl⟩
      obtain⟨x2,e2⟩:∃ x,s.getD (n+2) 0=x:=⟨_,rfl⟩
      obtain⟨x3,e3⟩:∃ x,s.getD (n+3) 0=x:=⟨_,rfl⟩
      have hxk:(⟨s.toArray⟩:ByteArray).extract n (n+4)=⟨#[x0,x1,x2,x3]⟩:=by
       rw[extract_mk]
       have:(s.take (n+4)).drop n=[x0,x1,x2,x3]:=by
        apply List.ext_getElem
        ·simp;omega
        ·intro i h1 h2
         simp at h2
         rw[List.getElem_drop,List.getElem_take]
         have hi:i=0∨i=1∨i=2∨i=3:=by omega
         rcases hi with rfl | rfl | rfl | rfl
         ·rw[←e0];simp[List.getD_eq_getElem?_getD,List.getElem?_eq_getElem (show n<s.length by omega)]
         ·rw[←e1];simp[List.getD_eq_getElem?_getD,List.getElem?_eq_getElem (show n+1<s.length by omega)]
         ·rw[←e2];simp[List.getD_eq_getElem?_getD,List.getElem?_eq_getElem (show n+2<s.length by omega)]
         ·rw[←e3];simp[List.getD_eq_getElem?_getD,List.getElem?_eq_getElem (show n+3<s.length by omega)]
       rw[this]
      have e0':=hid e0
      have e1':=hid e1
      have e2':=hid e2
      have e3':=hid e3
      clear e0 e1 e2 e3
      repeat (go_big_quiet_step (fail))
      refine wpQuiet_nil ?_
      intro w9 hg9
      have hH9:=hH3.out.gr hg9
      have hH9':=hid hH9
      have hg9':=hid (hg3.out.trans hg9)
      obtain⟨z0,z1,z2,z3,z4,z5,z6,z7,z8,z9,zf⟩:=hH9
      have hcp:∀ ty,(Builtin.copy_ #[100,9] ty #[.slice (some ⟨W.heap.size,4,none⟩) 4 4,.string ⟨#[x0,x1,x2,x3]⟩]).run prog w9=.ok (goInt 4) ((((w9.setCell ⟨W.heap.size,4,none⟩ (.int .u8 x0.toNat)).setCell ⟨W.heap.size,5,none⟩ (.int .u8 x1.toNat)).setCell ⟨W.heap.size,6,none⟩ (.int .u8 x2.toNat)).setCell ⟨W.heap.size,7,none⟩ (.int .u8 x3.toNat)):=λty=>by
       have h:=run_copy_string (P:=prog) w9 100 9 ty 5 W.heap.size 4 4 4 ⟨#[x0,x1,x2,x3]⟩ underlying100 (by intro w;rfl) (Nat.le_refl 4) (λj hj=>by
        have hj':j<4:=hj
        have hi:j=0∨j=1∨j=2∨j=3:=by omega
        rcases hi with rfl | rfl | rfl | rfl
        ·rw[z4];rfl
        ·rw[z5];rfl
        ·rw[z6];rfl
        ·rw[z7];rfl) (λj _=>zf _)
       exact h
      go_wp2
      refine bodyPost_ret (v:=.tuple #[(⟨decide (128≤(a.toNat:Int)),rv,opv,true,x0,x1,x2,x3,lv,lb⟩:Hd).V,.int .i64 ((n:Int)+4),.bool true]) ?hr rfl ⟨?_,?_⟩
      case hr=>exact rh_results _ W.heap.size _ _ _ ((hH9'.out.setKeys x0 x1 x2 x3).put10 _ _ _ _ _ _ _ _ _ _ rfl rfl rfl rfl rfl rfl rfl rfl rfl rfl) rfl rfl rfl
      ·have hh:=headH_eq a b t s hs n sm lv true lb hsm (hm▸hn) hmk'.out hlv'.out (hm▸hlb)
       rw[if_pos rfl,if_neg (by omega)] at hh
       unfold headV
       rw[hh]
       simp only[if_true,e0'.out,e1'.out,e2'.out,e3'.out,hrv,hopv]
       simp
      ·exact gr10 ((((hg9'.out.setCell (Nat.le_refl _) _).setCell (Nat.le_refl _) _).setCell (Nat.le_refl _) _).setCell (Nat.le_refl _) _) (Nat.le_refl _) _ _ _ _ _ _ _ _ _ _
     | false =>
      have ha1:=halm.out
      rw[if_neg (by decide)] at ha1
      have hxk:(⟨s.toArray⟩:ByteArray).extract n n=⟨#[]⟩:=by
       rw[extract_mk]
       have:(s.take n).drop n=[]:=by apply List.drop_eq_nil_of_le;simp;omega
       rw[this]
      repeat (go_big_quiet_step (fail))
      refine wpQuiet_nil ?_
      intro w9 hg9
      have hH9:=hH3.out.gr hg9
      have hH9':=hid hH9
      have hg9':=hid (hg3.out.trans hg9)
      obtain⟨z0,z1,z2,z3,z4,z5,z6,z7,z8,z9,zf⟩:=hH9
      have hcp:∀ ty,(Builtin.copy_ #[100,9] ty #[.slice (some ⟨W.heap.size,4,none⟩) 4 4,.string ByteArray.empty]).run prog w9=.ok (goInt 0) w9:=λty =>
       Lib.run_copy_empty_string (P:=prog) w9 100 9 ty 5 _ 4 4 ByteArray.empty underlying100 (by rfl) rfl
      go_wp2
      refine bodyPost_ret (v:=.tuple #[(⟨decide (128≤(a.toNat:Int)),rv,opv,false,0,0,0,0,lv,lb⟩:Hd).V,.int .i64 n,.bool true]) ?hr rfl ⟨?_,?_⟩
      case hr=>exact rh_results _ W.heap.size _ _ _ (hH9'.out.put10 _ _ _ _ _ _ _ _ _ _ rfl rfl rfl rfl rfl rfl rfl rfl rfl rfl) rfl rfl rfl
      ·have hh:=headH_eq a b t s hs n sm lv false lb hsm (hm▸hn) hmk'.out hlv'.out (hm▸hlb)
       simp only[Bool.false_eq_true,if_false] at hh
       rw[if_neg (by omega)] at hh
       unfold headV
       rw[hh]
       simp[hrv,hopv]
      ·exact gr10 hg9'.out (Nat.le_refl _) _ _ _ _ _ _ _ _ _ _
theorem rhead_any2 (s:List UInt8) (W:World) (hs:s.length≤4611686018427387900) :
  Calls prog 224 #[.string ⟨s.toArray⟩] W λe w'=>e=.returned (headV s)∧Gr W w':=by
 match s,hs with
 | [],_=>exact rhead_short [] (by decide) W
 | [a],_=>exact rhead_short [a] (by simp) W
 | a :: b :: t,h=>exact rhead_long a b t W (by simp at h;omega)
def pt (h:Hd) (a:Nat) (s:List UInt8) (k j:Nat):UInt8:=if j<k then s.getD j 0^^^keyH h (a % 4+j) else s.getD j 0
theorem pt_all (h:Hd) (a:Nat) (s:List UInt8) (j:Nat) (hj:j<(maskH h a s).length):(maskH h a s)[j]=pt h a s s.length j:=by
 have hj':j<s.length:=by rwa [maskH_len] at hj
 unfold pt
 rw[if_pos hj']
 simp[maskH,List.getD_eq_getElem?_getD,List.getElem?_eq_getElem hj']
structure MkF (h:Hd) (a:Nat) (s:List UInt8) (kb R:Nat) (k:Nat) (W w:World):Prop where
 gr:Gr W w
 row:∀ j,j<s.length→w.cell? ⟨R,j,none⟩=some (.int .u8 (pt h a s k j).toNat)
 fz:∀ j,j<s.length→w.frozen? ⟨R,j,none⟩=false
 key:∀ i,i<4→w.cell? ⟨kb,i,none⟩=some (.int .u8 (keyH h i).toNat)
theorem keyH_mod (h:Hd) (i:Nat):keyH h (i % 4)=keyH h i:=by unfold keyH;simp
theorem conv_fz (w:World) (e:TypeId) (s:List UInt8) (j:Nat) (hj:j<s.length):(Lib.bytesWorld w e ⟨s.toArray⟩).frozen? ⟨w.heap.size,j,none⟩=false:=by
 have h:=Lib.bytesWorld_at_new w e ⟨s.toArray⟩
 have hz:s.length≤(Lib.bytesCells w e ⟨s.toArray⟩).size:=by simp[Lib.bytesCells]
 simp only[World.frozen?,h,Bool.and_eq_false_iff,decide_eq_false_iff_not]
 omega
theorem fmask_any (h:Hd) (a:Nat) (s:List UInt8) (W:World) (hs:s.length≤4611686018427387900) :
  Calls prog 78 #[.agg #[.int .u8 h.k0.toNat,.int .u8 h.k1.toNat,.int .u8 h.k2.toNat,.int .u8 h.k3.toNat],.int .i64 a,.string ⟨s.toArray⟩] W λe w'=>e=.returned (.string ⟨(maskH h a s).toArray⟩)∧Gr W w':=by
 have hcv:∀ W:World,(convert 9 100 (.string ⟨s.toArray⟩)).run prog W=.ok (.slice (some ⟨W.heap.size,0,none⟩) (ByteArray.size ⟨s.toArray⟩) (grownCap W (ByteArray.size ⟨s.toArray⟩) 0 5)) (Lib.bytesWorld W 5 ⟨s.toArray⟩):=λW =>
  Lib.run_convert_string_bytes W _ _ 5 _ underlying9 underlying100 underlying5
 have ha0:¬(a:Int)<0:=by omega
 obtain⟨W1,hW1⟩:∃ W1,W.alloc (.cells #[.int .u8 h.k0.toNat,.int .u8 h.k1.toNat,.int .u8 h.k2.toNat,.int .u8 h.k3.toNat] 54)=W1:=⟨_,rfl⟩
 have g1:Gr W W1:=hW1▸Gr.alloc _ _
 have hk1:∀ i,i<4→W1.cell? ⟨W.heap.size,i,none⟩=some (.int .u8 (keyH h i).toNat):=λi hi=>by
  rw[←hW1]
  match i,hi with
  | 0,_=>exact cell_new7 _ _ _ 0 _ rfl
  | 1,_=>exact cell_new7 _ _ _ 1 _ rfl
  | 2,_=>exact cell_new7 _ _ _ 2 _ rfl
  | 3,_=>exact cell_new7 _ _ _ 3 _ rfl
 obtain⟨W2,hW2⟩:∃ W2,Lib.bytesWorld W1 5 ⟨s.toArray⟩=W2:=⟨_,rfl⟩
 have g2:Gr W1 W2:=hW2▸Lib.bytesWorld_below W1 5 ⟨s.toArray⟩
 obtain⟨cap,hcap⟩:∃ cap,grownCap W1 s.length 0 5=cap:=⟨_,rfl⟩
 have hst:=hid (show MkF h a s W.heap.size W1.heap.size 0 W W2 from⟨g1.trans g2,λj hj=>by
   rw[←hW2,Lib.bytesWorld_cell W1 _ _ j (by rw[size_mk];exact hj)]
   unfold pt
   rw[if_neg (Nat.not_lt_zero _)],λj hj=>hW2▸conv_fz W1 _ s j hj,λi hi=>g2.cell (hk1 i hi)⟩)
 have hRk:=hid (show W.heap.size≠W1.heap.size by rw[←hW1];simp)
 have hWR:=hid (Below.size g1)
 clear g1 g2 hk1
 go_enter func78,ntmps78
 go_wp2
 clear hcv hW1 hW2 hcap
 go_loopw [8,16] (λ_ i wr=>∃ k:Nat,k≤s.length∧i=.int .i64 k∧MkF h a s W.heap.size W1.heap.size k W wr) (λ_ i _=>s.length - (intOf i).toNat)
 case atStart=>exact⟨0,Nat.zero_le _,rfl,hst.out⟩
 case round =>
  obtain⟨k,hk,rfl,hM⟩:=hrel
  have hM':=hid hM
  by_cases hlt:k<s.length
  ·have r0:=hM.row k hlt
   have z0:=hM.fz k hlt
   obtain⟨c,hc⟩:∃ c,pt h a s k k=c:=⟨_,rfl⟩
   rw[hc] at r0
   obtain⟨q,hq⟩:∃ q,(a % 4+k) % 4=q:=⟨_,rfl⟩
   have hq4:q<4:=by omega
   have r1:=hM.key q hq4
   obtain⟨kk,hkk⟩:∃ kk,keyH h q=kk:=⟨_,rfl⟩
   rw[hkk] at r1
   have hqI:((a:Int) % 4+k) % 4=q:=by omega
   have hkI:(k:Int)<s.length:=by omega
   have hx:bits .xor .u8 (c.toNat:Int) (kk.toNat:Int)=((c^^^kk).toNat:Int):=by
    rw[Go.u8_xor_nat c.toNat kk.toNat c.toNat_lt kk.toNat_lt,UInt8.toNat_xor]
   haveI:Nonempty (Later (Gr wr)):=⟨⟨wr,Gr.refl wr⟩⟩
   have t0:∀ y:Later (Gr wr),y.w.cell? ⟨W1.heap.size,k,none⟩=some (.int .u8 c.toNat):=λy=>y.ok.cell r0
   have t1:∀ y:Later (Gr wr),y.w.cell? ⟨W.heap.size,q,none⟩=some (.int .u8 kk.toNat):=λy=>y.ok.cell r1
   have hw1:IntKind.i64.wrap ((a:Int) % 4+k)=(a:Int) % 4+k:=IntWalk.i64_in _ (by omega)
   have hw0:((a:Int).tmod 4)=(a:Int) % 4:=Int.tmod_eq_emod_of_nonneg (by omega)
   have hw2:(((a:Int) % 4+k).tmod 4)=((a:Int) % 4+k) % 4:=Int.tmod_eq_emod_of_nonneg (by omega)
   have hc':=hid hc
   have hkk':=hid hkk
   have hq':=hid hq
   clear hM hc hkk hq
   go_upto_region 7 with (fail)
   refine wp_region_later_tail (C:=Gr wr) 13 (by kernel_rfl) (by kernel_rfl) (Gr.drew' _) ?_
   simp only[List.take_succ_cons,List.take_zero,List.drop_succ_cons,List.drop_zero]
   repeat (go_big_quiet_step (fail))
   refine wpQuiet_nil ?_
   intro w9 hg9
   have hR:W1.heap.size<wr.heap.size:=cell_lt r0
   have s0:=hg9.cell r0
   have sz:w9.frozen? ⟨W1.heap.size,k,none⟩=false:=(Below.frozen hg9 (p:=⟨W1.heap.size,k,none⟩) hR).trans z0
   have hg9':=hid hg9
   clear t0 t1 hg9 r0 r1 z0
   go_wp2
   go_round
   case rel =>
    refine⟨k+1,hlt,by go_num,⟨(hM'.out.gr.trans hg9'.out).setCell hWR.out _,λj hj=>?_,λj hj=>?_,λi hi=>?_⟩⟩
    ·by_cases hjk:j=k
     ·subst hjk
      rw[cell_set_same s0]
      have e:pt h a s (j+1) j=c^^^kk:=by
       rw[←hc'.out,←hkk'.out,←hq'.out,keyH_mod]
       unfold pt
       rw[if_pos (Nat.lt_succ_self j),if_neg (Nat.lt_irrefl j)]
      rw[e,UInt8.toNat_xor]
     ·have e:pt h a s (k+1) j=pt h a s k j:=by
       unfold pt
       by_cases h1:j<k
       ·rw[if_pos (by omega),if_pos h1]
       ·rw[if_neg (by omega),if_neg h1]
      rw[e]
      exact cell_off (hg9'.out.cell (hM'.out.row j hj)) hjk
    ·rw[frozen_set]
     exact (Below.frozen hg9'.out (p:=⟨W1.heap.size,j,none⟩) hR).trans (hM'.out.fz j hj)
    ·exact cell_set_other (hg9'.out.cell (hM'.out.key i hi)) (λe=>hRk.out e.symm)
   case measure=>simp[intOf];omega
  ·obtain rfl:k=s.length:=by omega
   have hcb:(convert 100 9 (.slice (some ⟨W1.heap.size,0,none⟩) s.length cap)).run prog wr=.ok (.string ⟨(maskH h a s).toArray⟩) wr:=by
    have hh:=run_convert_bytes_back (P:=prog) wr 100 9 5 ⟨W1.heap.size,0,none⟩ cap (maskH h a s) underlying100 underlying5 underlying9 (λj hj=>by
     have hj':j<s.length:=by rwa [maskH_len] at hj
     rw[Addr.add_mid,Nat.zero_add,hM.row j hj',pt_all])
    rwa [maskH_len] at hh
   clear hM
   go_wp2
   go_ret
   exact⟨rfl,hM'.out.gr⟩
structure HdO (b o:Nat) (W:World) (h:Hd):Prop where
 c0:W.cell? ⟨b,o,none⟩=some (.bool h.fin)
 c1:W.cell? ⟨b,o+1,none⟩=some (.int .i64 h.rsv)
 c2:W.cell? ⟨b,o+2,none⟩=some (.int .i64 h.op)
 c3:W.cell? ⟨b,o+3,none⟩=some (.bool h.masked)
 c4:W.cell? ⟨b,o+4,none⟩=some (.int .u8 h.k0.toNat)
 c5:W.cell? ⟨b,o+5,none⟩=some (.int .u8 h.k1.toNat)
 c6:W.cell? ⟨b,o+6,none⟩=some (.int .u8 h.k2.toNat)
 c7:W.cell? ⟨b,o+7,none⟩=some (.int .u8 h.k3.toNat)
 c8:W.cell? ⟨b,o+8,none⟩=some (.int .u64 h.len)
 c9:W.cell? ⟨b,o+9,none⟩=some (.bool h.least)
structure FrS (b:Nat) (W:World) (r:Fr):Prop where
 c0:W.cell? ⟨b,0,none⟩=some (.bool true)
 c1:W.cell? ⟨b,1,none⟩=some (.int .i64 r.st)
 c2:W.cell? ⟨b,2,none⟩=some (.string ⟨r.inp.toArray⟩)
 h:HdO b 3 W r.h
 c13:W.cell? ⟨b,13,none⟩=some (.int .i64 r.told)
 fz:∀ o,W.frozen? ⟨b,o,none⟩=false
theorem FrS.lt {b:Nat} {W:World} {r:Fr} (k:FrS b W r):b<W.heap.size:=cell_lt k.c0
theorem HdO.ch {b o:Nat} {T:Nat→Prop} {W W':World} {h:Hd} (k:HdO b o W h) (hc:Ch T W W') (hT:¬T b):HdO b o W' h :=
 have cc:∀ {j v},W.cell? ⟨b,j,none⟩=some v→W'.cell? ⟨b,j,none⟩=some v:=fun {j v} hh=>(hc.cell (p:=⟨b,j,none⟩) (cell_lt hh) hT).trans hh
 ⟨cc k.c0,cc k.c1,cc k.c2,cc k.c3,cc k.c4,cc k.c5,cc k.c6,cc k.c7,cc k.c8,cc k.c9⟩
theorem HdO.off {b o i:Nat} {W:World} {h:Hd} {v:Value} (k:HdO b o W h) (hi:i<o∨o+10≤i):HdO b o (W.setCell ⟨b,i,none⟩ v) h :=
 ⟨cell_off k.c0 (by omega),cell_off k.c1 (by omega),cell_off k.c2 (by omega),cell_off k.c3 (by omega),cell_off k.c4 (by omega),cell_off k.c5 (by omega),cell_off k.c6 (by omega),cell_off k.c7 (by omega),cell_off k.c8 (by omega),cell_off k.c9 (by omega)⟩
theorem FrS.ch {b:Nat} {T:Nat→Prop} {W W':World} {r:Fr} (k:FrS b W r) (hc:Ch T W W') (hT:¬T b):FrS b W' r :=
 have cc:∀ {j v},W.cell? ⟨b,j,none⟩=some v→W'.cell? ⟨b,j,none⟩=some v:=fun {j v} hh=>(hc.cell (p:=⟨b,j,none⟩) (cell_lt hh) hT).trans hh
 ⟨cc k.c0,cc k.c1,cc k.c2,k.h.ch hc hT,cc k.c13,λo=>(hc.frozen (p:=⟨b,o,none⟩) k.lt hT).trans (k.fz o)⟩
theorem FrS.gr {b:Nat} {W W':World} {r:Fr} (k:FrS b W r) (g:Gr W W'):FrS b W' r:=k.ch (g.to_ch (λ_=>False)) id
theorem FrS.setSt {b:Nat} {W:World} {r:Fr} (k:FrS b W r) (n:Nat):FrS b (W.setCell ⟨b,1,none⟩ (.int .i64 n)) { r with st:=n } :=
 ⟨cell_off k.c0 (by decide),cell_set_same k.c1,cell_off k.c2 (by decide),k.h.off (by omega),cell_off k.c13 (by decide),λo=>by rw[frozen_set];exact k.fz o⟩
theorem FrS.setInp {b:Nat} {W:World} {r:Fr} (k:FrS b W r) (s:List UInt8):FrS b (W.setCell ⟨b,2,none⟩ (.string ⟨s.toArray⟩)) { r with inp:=s } :=
 ⟨cell_off k.c0 (by decide),cell_off k.c1 (by decide),cell_set_same k.c2,k.h.off (by omega),cell_off k.c13 (by decide),λo=>by rw[frozen_set];exact k.fz o⟩
theorem FrS.setTold {b:Nat} {W:World} {r:Fr} (k:FrS b W r) (n:Nat):FrS b (W.setCell ⟨b,13,none⟩ (.int .i64 n)) { r with told:=n } :=
 ⟨cell_off k.c0 (by decide),cell_off k.c1 (by decide),cell_off k.c2 (by decide),k.h.off (by omega),cell_set_same k.c13,λo=>by rw[frozen_set];exact k.fz o⟩
def FrOk (r:Fr):Prop:=r.inp.length≤4611686018427387900∧r.h.len≤9223372036854775807∧r.told≤r.h.len∧r.st≤2
theorem frnew_any (W:World):Calls prog 65 #[.bool true] W λe w'=>e=.returned (.pointer (some ⟨W.heap.size,0,none⟩))∧FrS W.heap.size w' fr0∧Gr W w'∧w'.heap.size=W.heap.size+1:=by
 go_enter func65,ntmps65
 go_wp2
 go_ret
 refine⟨rfl,⟨cell_new7 _ _ _ 0 _ rfl,cell_new7 _ _ _ 1 _ rfl,cell_new7 _ _ _ 2 _ rfl,⟨cell_new7 _ _ _ 3 _ rfl,cell_new7 _ _ _ 4 _ rfl,cell_new7 _ _ _ 5 _ rfl,cell_new7 _ _ _ 6 _ rfl,cell_new7 _ _ _ 7 _ rfl,cell_new7 _ _ _ 8 _ rfl,cell_new7 _ _ _ 9 _ rfl,cell_new7 _ _ _ 10 _ rfl,cell_new7 _ _ _ 11 _ rfl,cell_new7 _ _ _ 12 _ rfl⟩,cell_new7 _ _ _ 13 _ rfl,λ_=>World.frozen?_alloc_at _ _ _ _ rfl⟩,Gr.alloc _ _,by simp⟩
theorem frfeed_any (b:Nat) (W:World) (r:Fr) (s:List UInt8) (k:FrS b W r) (hs:r.inp.length+s.length≤4611686018427387900) :
  Calls prog 66 #[.pointer (some ⟨b,0,none⟩),.string ⟨s.toArray⟩] W λe w'=>e=.returned (.tuple #[])∧FrS b w' (frFeed r s)∧Ch (λj=>j=b) W w':=by
 have k':=hid k
 have c1:=k.c1
 have c2:=k.c2
 have fz:=k.fz
 clear k
 by_cases h:r.st=2
 ·have hv:=hid (show frFeed r s=r by unfold frFeed;rw[if_pos h])
  rw[h] at c1
  go_enter func66,ntmps66
  go_wp2
  go_end0
  exact⟨rfl,by rw[hv.out];exact k'.out,Ch.refl _ _⟩
 ·have hv:=hid (show frFeed r s={ r with inp:=r.inp++s } by unfold frFeed;rw[if_neg h])
  have hz:((r.st:Int)==2)=false:=beq_eq_false_iff_ne.2 (by omega)
  obtain⟨p,hp⟩:∃ p,r.inp=p:=⟨_,rfl⟩
  rw[hp] at c2 hs hv
  have hcat:(⟨p.toArray⟩:ByteArray)++(⟨s.toArray⟩:ByteArray)=⟨(p++s).toArray⟩:=cat_mk _ _
  go_enter func66,ntmps66
  go_wp2
  go_end0
  exact⟨rfl,by rw[hv.out];exact k'.out.setInp _,Ch.setCell (T:=λj=>j=b) _ (a:=⟨b,2,none⟩) rfl _⟩
