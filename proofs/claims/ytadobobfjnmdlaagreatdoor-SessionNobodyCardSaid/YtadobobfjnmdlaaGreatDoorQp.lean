/-
  A close's data in memory: what they say, what they are.
-/
import Derived.Test.YtadobobfjnmdlaaGreatDoorQa
import Derived.Test.YtadobobfjnmdlaaGreatDoorP19
import Derived.BigQuiet
import Derived.Lib.LazyBuf
import Derived.Lib.BufferWrite
set_option linter.unusedVariables false
set_option linter.unusedSimpArgs false
set_option maxHeartbeats 16000000
set_option maxRecDepth 100000
open Go.Lib (hid)
namespace Go.Proofs.YtadobobfjnmdlaaGreatDoor
open Go.RowKit Go.Shelf
attribute [local go_sem] Oper.semAt_some
theorem i64_or8 (a b:Nat) (ha:a<256) (hb:b<256):bits .or .i64 ((a:Int)*256) (b:Int)=((a*256+b:Nat):Int):=by
 have h:=bits_join .i64 63 (by decide) (fun n h0 h1=>IntWalk.i64_in n (by omega)) 8 ((a:Int)*256) (b:Int) (by omega) (by omega) (by omega) (by omega) (by omega) (by omega)
 rw [h]
 omega
def CrdPost (s:List UInt8) (W:World) (e:Ending) (W':World):Prop:=(∃ r:List UInt8,e=.returned (.tuple #[.int .i64 (readC s).1,.string ⟨r.toArray⟩,.int .i64 (readC s).2]))∧Gr W W'
theorem cread_0 (W:World):Calls Tryz.prog 148 #[.string ⟨[].toArray⟩] W (CrdPost [] W):=by
 go_enter Tryz.func148,Tryz.ntmps148
 go_wp2
 refine bodyPost_ret (v:=.tuple #[.int .i64 1005,.string ⟨#[]⟩,.int .i64 0]) (by simp [results,Tryz.results148,go_sem]) rfl ⟨⟨[],rfl⟩,Gr.refl _⟩
theorem cread_1 (a:UInt8) (W:World):Calls Tryz.prog 148 #[.string ⟨[a].toArray⟩] W (CrdPost [a] W):=by
 go_enter Tryz.func148,Tryz.ntmps148
 go_wp2
 refine bodyPost_ret (v:=.tuple #[.int .i64 0,.string ⟨#[]⟩,.int .i64 1002]) (by simp [results,Tryz.results148,go_sem]) rfl ⟨⟨[],rfl⟩,Gr.refl _⟩
theorem cread_2 (a b:UInt8) (t:List UInt8) (W:World) (ht:t.length≤4611686018427387900):Calls Tryz.prog 148 #[.string ⟨(a :: b :: t).toArray⟩] W (CrdPost (a :: b :: t) W):=by
 obtain ⟨s,hs⟩:∃ s,(a :: b :: t)=s:=⟨_,rfl⟩
 have hl:s.length=t.length+2:=by rw [←hs];rfl
 obtain ⟨n,hn⟩:∃ n,s.length=n:=⟨_,rfl⟩
 have h0:(⟨s.toArray⟩:ByteArray)[0]'(by rw [size_mk];omega)=a:=by subst hs;rfl
 have h1:(⟨s.toArray⟩:ByteArray)[1]'(by rw [size_mk];omega)=b:=by subst hs;rfl
 have hx:(⟨s.toArray⟩:ByteArray).extract 2 (t.length+2)=⟨t.toArray⟩:=by rw [extract_mk,←hs];simp
 have ha:=a.toNat_lt
 have hb:=b.toNat_lt
 obtain ⟨c,hc⟩:∃ c,a.toNat*256+b.toNat=c:=⟨_,rfl⟩
 have hor:=i64_or8 a.toNat b.toNat ha hb
 rw [hc] at hor
 have hz0:((s.length:Int)==0)=false:=beq_eq_false_iff_ne.2 (by omega)
 have hz1:((s.length:Int)==1)=false:=beq_eq_false_iff_ne.2 (by omega)
 have hl2:(2:Int)≤s.length:=by omega
 have hm:=cmay_any c
 obtain ⟨m,hmd⟩:∃ m,mayC c=m:=⟨_,rfl⟩
 rw [hmd] at hm
 have hm':=hid hm
 have hu0:=fun w=>uvalid_any t w (by omega)
 obtain ⟨v,hv⟩:∃ v,validU t=v:=⟨_,rfl⟩
 rw [hv] at hu0
 have hu:=hid hu0
 have hr:=hid (show readC (a :: b :: t)=if (!m)=true then (0,1002) else if (!v)=true then (0,1007) else (c,0) by
  unfold readC
  rw [if_neg (by simp),if_neg (by simp)]
  show (if (!mayC (a.toNat*256+b.toNat))=true then _ else if (!validU t)=true then _ else (a.toNat*256+b.toNat,0))=_
  rw [hc,hmd,hv])
 unfold CrdPost
 rw [hs] at hr ⊢
 clear hs hm hmd hu0 hv hc
 have haI:(a.toNat:Int)<256:=by omega
 have hbI:(b.toNat:Int)<256:=by omega
 have hw:IntKind.i64.wrap ((a.toNat:Int)*256)=(a.toNat:Int)*256:=IntWalk.i64_in _ (by omega)
 go_enter Tryz.func148,Tryz.ntmps148
 go_upto_region 6 with (fail)
 go_quiet (fail)
 have hgd:Gr W (W.drewN nq):=below_drewNm _ _
 have hgd:=hid hgd
 go_wp2_with (fail)
 refine (hm'.out _).mono ?_
 rintro e w1 ⟨rfl,rfl⟩
 cases m with
 | false =>
  rw [if_pos (by decide)] at hr
  go_wp2
  refine bodyPost_ret (v:=.tuple #[.int .i64 0,.string ⟨#[]⟩,.int .i64 1002]) (by simp [results,Tryz.results148,go_sem]) rfl ⟨⟨[],by rw [hr.out];rfl⟩,hgd.out⟩
 | true =>
  rw [if_neg (by decide)] at hr
  go_wp2_with (fail)
  refine (hu.out _).mono ?_
  rintro e w1 ⟨rfl,hg⟩
  have hg':=hid (hgd.out.trans hg)
  cases v with
  | false =>
   rw [if_pos (by decide)] at hr
   go_wp2
   refine bodyPost_ret (v:=.tuple #[.int .i64 0,.string ⟨#[]⟩,.int .i64 1007]) (by simp [results,Tryz.results148,go_sem]) rfl ⟨⟨[],by rw [hr.out];rfl⟩,hg'.out⟩
  | true =>
   rw [if_neg (by decide)] at hr
   go_wp2
   refine bodyPost_ret (v:=.tuple #[.int .i64 c,.string ⟨t.toArray⟩,.int .i64 0]) (by simp [results,Tryz.results148,go_sem]) rfl ⟨⟨t,by rw [hr.out];rfl⟩,hg'.out⟩
theorem cread_any (s:List UInt8) (W:World) (hs:s.length≤4611686018427387900):Calls Tryz.prog 148 #[.string ⟨s.toArray⟩] W (CrdPost s W):=by
 match s,hs with
 | [],_=>exact cread_0 W
 | [a],_=>exact cread_1 a W
 | a :: b :: t,h=>exact cread_2 a b t W (by simp at h;omega)
theorem cbytes_any (c:Nat) (W:World) (hc:c≤65535) :
  Calls Tryz.prog 88 #[.int .i64 c,.string ⟨[].toArray⟩] W fun e w'=>(∃ n:Int,e=.returned (.tuple #[.string ⟨(closW c).toArray⟩,.int .i64 n]))∧Gr W w':=by
 by_cases h5:c=1005
 ·subst h5
  go_enter Tryz.func88,Tryz.ntmps88
  go_wp2
  go_ret2
  exact ⟨⟨0,rfl⟩,Gr.refl _⟩
 ·have hq:((c:Int)==1005)=false:=beq_eq_false_iff_ne.2 (by omega)
  have hm:=cmay_any c
  obtain ⟨m,hmd⟩:∃ m,mayC c=m:=⟨_,rfl⟩
  have hv:=hid (show closW c=if m=true then [UInt8.ofNat (c / 256),UInt8.ofNat c] else [] by unfold closW;rw [if_neg h5,hmd])
  rw [hmd] at hm
  have hm':=hid hm
  have hu:=hid (fun w=>uvalid_any [] w (by simp))
  have e0:validU []=true:=by decide
  rw [e0] at hu
  clear hm hmd e0
  cases m with
  | false =>
   rw [if_neg (by decide)] at hv
   go_enter Tryz.func88,Tryz.ntmps88
   go_wp2_with (fail)
   refine (hm'.out _).mono ?_
   rintro e w1 ⟨rfl,rfl⟩
   go_wp2
   refine bodyPost_ret (v:=.tuple #[.string ⟨#[]⟩,.int .i64 1]) (by simp [results,Tryz.results88,go_sem]) rfl ⟨⟨1,by rw [hv.out]⟩,Gr.refl _⟩
  | true =>
   rw [if_pos rfl] at hv
   go_enter Tryz.func88,Tryz.ntmps88
   go_wp2_with (fail)
   refine (hm'.out _).mono ?_
   rintro e w1 ⟨rfl,rfl⟩
   go_wp2_with (fail)
   refine (hu.out _).mono ?_
   rintro e w1 ⟨rfl,hg⟩
   have hg':=hid hg
   clear hg
   have q1:((UInt8.ofNat (c / 256)).toNat:Int)=(c:Int) / 256:=by simp [UInt8.toNat_ofNat'];omega
   have q2:((UInt8.ofNat c).toNat:Int)=(c:Int) % 256:=by simp [UInt8.toNat_ofNat']
   have hcv:(convert 100 9 (.slice (some ⟨w1.heap.size,0,none⟩) 2 2)).run Tryz.prog (w1.alloc (.cells #[.int .u8 ((c:Int) / 256),.int .u8 ((c:Int) % 256)] 5))=.ok (.string ⟨#[UInt8.ofNat (c / 256),UInt8.ofNat c]⟩) (w1.alloc (.cells #[.int .u8 ((c:Int) / 256),.int .u8 ((c:Int) % 256)] 5)) :=
    run_convert_bytes_back (P:=Tryz.prog) (w1.alloc (.cells #[.int .u8 ((c:Int) / 256),.int .u8 ((c:Int) % 256)] 5)) 100 9 5 ⟨w1.heap.size,0,none⟩ 2 [UInt8.ofNat (c / 256),UInt8.ofNat c] Tryz.underlying100 Tryz.underlying5 Tryz.underlying9 (fun j hj=>by
     match j,hj with
     | 0,_=>simp only [List.getElem_cons_zero,q1];simp [Addr.add,go_sem]
     | 1,_=>simp only [List.getElem_cons_succ,List.getElem_cons_zero,q2];simp [Addr.add,go_sem])
   clear q1 q2
   have hcat:(⟨#[UInt8.ofNat (c / 256),UInt8.ofNat c]⟩:ByteArray)++(⟨#[]⟩:ByteArray)=⟨#[UInt8.ofNat (c / 256),UInt8.ofNat c]⟩:=cat_mk [UInt8.ofNat (c / 256),UInt8.ofNat c] []
   go_wp2
   refine bodyPost_ret (v:=.tuple #[.string ⟨#[UInt8.ofNat (c / 256),UInt8.ofNat c]⟩,.int .i64 0]) (by simp [results,Tryz.results88,go_sem]) rfl ⟨⟨0,by rw [hv.out]⟩,hg'.out.alloc1 _⟩
def Hd.V (h:Hd):Value:=.agg #[.bool h.fin,.int .i64 h.rsv,.int .i64 h.op,.bool h.masked,.int .u8 h.k0.toNat,.int .u8 h.k1.toNat,.int .u8 h.k2.toNat,.int .u8 h.k3.toNat,.int .u64 h.len,.bool h.least]
def headV (s:List UInt8):Value:=match headH s with
 | none=>.tuple #[hd0.V,.int .i64 0,.bool false]
 | some (h,n)=>.tuple #[h.V,.int .i64 n,.bool true]
theorem rhead_short (s:List UInt8) (h:s.length<2) (W:World):Calls Tryz.prog 224 #[.string ⟨s.toArray⟩] W fun e w'=>e=.returned (.tuple #[hd0.V,.int .i64 0,.bool false])∧Gr W w':=by
 have hI:(s.length:Int)<2:=by omega
 go_enter Tryz.func224,Tryz.ntmps224
 go_wp2
 refine bodyPost_ret (v:=.tuple #[hd0.V,.int .i64 0,.bool false]) (by simp [results,Tryz.results224,go_sem,Hd.V,hd0]) rfl ⟨rfl,Gr.alloc _ _⟩
structure HdC (rb:Nat) (W:World) (h:Hd):Prop where
 c0:W.cell? ⟨rb,0,none⟩=some (.bool h.fin)
 c1:W.cell? ⟨rb,1,none⟩=some (.int .i64 h.rsv)
 c2:W.cell? ⟨rb,2,none⟩=some (.int .i64 h.op)
 c3:W.cell? ⟨rb,3,none⟩=some (.bool h.masked)
 c4:W.cell? ⟨rb,4,none⟩=some (.int .u8 h.k0.toNat)
 c5:W.cell? ⟨rb,5,none⟩=some (.int .u8 h.k1.toNat)
 c6:W.cell? ⟨rb,6,none⟩=some (.int .u8 h.k2.toNat)
 c7:W.cell? ⟨rb,7,none⟩=some (.int .u8 h.k3.toNat)
 c8:W.cell? ⟨rb,8,none⟩=some (.int .u64 h.len)
 c9:W.cell? ⟨rb,9,none⟩=some (.bool h.least)
 fz:∀ o,W.frozen? ⟨rb,o,none⟩=false
theorem HdC.lt {rb:Nat} {W:World} {h:Hd} (k:HdC rb W h):rb<W.heap.size:=cell_lt k.c0
theorem HdC.gr {rb:Nat} {W W':World} {h:Hd} (k:HdC rb W h) (g:Gr W W'):HdC rb W' h :=
 ⟨g.cell k.c0,g.cell k.c1,g.cell k.c2,g.cell k.c3,g.cell k.c4,g.cell k.c5,g.cell k.c6,g.cell k.c7,g.cell k.c8,g.cell k.c9,fun o=>(Below.frozen g (p:=⟨rb,o,none⟩) k.lt).trans (k.fz o)⟩
theorem hdC_new (W:World) (t:TypeId):HdC W.heap.size (W.alloc (.cells #[.bool false,.int .i64 0,.int .i64 0,.bool false,.int .u8 0,.int .u8 0,.int .u8 0,.int .u8 0,.int .u64 0,.bool false] t)) hd0 :=
 ⟨cell_new7 _ _ _ 0 _ rfl,cell_new7 _ _ _ 1 _ rfl,cell_new7 _ _ _ 2 _ rfl,cell_new7 _ _ _ 3 _ rfl,cell_new7 _ _ _ 4 _ rfl,cell_new7 _ _ _ 5 _ rfl,cell_new7 _ _ _ 6 _ rfl,cell_new7 _ _ _ 7 _ rfl,cell_new7 _ _ _ 8 _ rfl,cell_new7 _ _ _ 9 _ rfl,fun _=>World.frozen?_alloc_at _ _ _ _ rfl⟩
theorem and7_i64:∀ n:Fin 256,bits .and .i64 ((n.val:Int) / 16) 7=((n.val / 16 % 8:Nat):Int):=by decide +kernel
theorem not128_u8:∀ n:Fin 256,bits .andNot .u8 (n.val:Int) 128=((n.val % 128:Nat):Int):=by decide +kernel
theorem shr4_and7:∀ n:Fin 256,((UInt8.ofNat n.val >>> 4)&&&7).toNat=n.val / 16 % 8:=by decide +kernel
theorem and15_u8:∀ n:Fin 256,(UInt8.ofNat n.val&&&15).toNat=n.val % 16:=by decide +kernel
theorem and127_u8:∀ n:Fin 256,(UInt8.ofNat n.val&&&127).toNat=n.val % 128:=by decide +kernel
theorem moreH_le (n:Nat):moreH n≤8:=by unfold moreH;split <;> (try split) <;> omega
theorem HdC.put10 {rb:Nat} {W:World} {h h':Hd} (k:HdC rb W h) (v0 v1 v2 v3 v4 v5 v6 v7 v8 v9:Value) (e0:v0=.bool h'.fin) (e1:v1=.int .i64 h'.rsv) (e2:v2=.int .i64 h'.op) (e3:v3=.bool h'.masked) (e4:v4=.int .u8 h'.k0.toNat) (e5:v5=.int .u8 h'.k1.toNat) (e6:v6=.int .u8 h'.k2.toNat) (e7:v7=.int .u8 h'.k3.toNat) (e8:v8=.int .u64 h'.len) (e9:v9=.bool h'.least) :
  HdC rb ((((((((((W.setCell ⟨rb,0,none⟩ v0).setCell ⟨rb,1,none⟩ v1).setCell ⟨rb,2,none⟩ v2).setCell ⟨rb,3,none⟩ v3).setCell ⟨rb,4,none⟩ v4).setCell ⟨rb,5,none⟩ v5).setCell ⟨rb,6,none⟩ v6).setCell ⟨rb,7,none⟩ v7).setCell ⟨rb,8,none⟩ v8).setCell ⟨rb,9,none⟩ v9) h':=by
 subst e0 e1 e2 e3 e4 e5 e6 e7 e8 e9
 constructor
 ·simp [go_sem,k.c0]
 ·simp [go_sem,k.c1]
 ·simp [go_sem,k.c2]
 ·simp [go_sem,k.c3]
 ·simp [go_sem,k.c4]
 ·simp [go_sem,k.c5]
 ·simp [go_sem,k.c6]
 ·simp [go_sem,k.c7]
 ·simp [go_sem,k.c8]
 ·simp [go_sem,k.c9]
 ·intro o
  simp only [frozen_set]
  exact k.fz o
theorem HdC.setLen {rb:Nat} {W:World} {h:Hd} (k:HdC rb W h) (n:Nat):HdC rb (W.setCell ⟨rb,8,none⟩ (.int .u64 n)) { h with len:=n } :=
 ⟨cell_off k.c0 (by decide),cell_off k.c1 (by decide),cell_off k.c2 (by decide),cell_off k.c3 (by decide),cell_off k.c4 (by decide),cell_off k.c5 (by decide),cell_off k.c6 (by decide),cell_off k.c7 (by decide),cell_set_same k.c8,cell_off k.c9 (by decide),fun o=>by rw [frozen_set];exact k.fz o⟩
theorem HdC.setLeast {rb:Nat} {W:World} {h:Hd} (k:HdC rb W h) (v:Bool):HdC rb (W.setCell ⟨rb,9,none⟩ (.bool v)) { h with least:=v } :=
 ⟨cell_off k.c0 (by decide),cell_off k.c1 (by decide),cell_off k.c2 (by decide),cell_off k.c3 (by decide),cell_off k.c4 (by decide),cell_off k.c5 (by decide),cell_off k.c6 (by decide),cell_off k.c7 (by decide),cell_off k.c8 (by decide),cell_set_same k.c9,fun o=>by rw [frozen_set];exact k.fz o⟩
theorem HdC.setKeys {rb:Nat} {W:World} {h:Hd} (k:HdC rb W h) (x0 x1 x2 x3:UInt8):HdC rb ((((W.setCell ⟨rb,4,none⟩ (.int .u8 x0.toNat)).setCell ⟨rb,5,none⟩ (.int .u8 x1.toNat)).setCell ⟨rb,6,none⟩ (.int .u8 x2.toNat)).setCell ⟨rb,7,none⟩ (.int .u8 x3.toNat)) { h with k0:=x0,k1:=x1,k2:=x2,k3:=x3 }:=by
 constructor
 ·simp [go_sem,k.c0]
 ·simp [go_sem,k.c1]
 ·simp [go_sem,k.c2]
 ·simp [go_sem,k.c3]
 ·simp [go_sem,k.c4]
 ·simp [go_sem,k.c5]
 ·simp [go_sem,k.c6]
 ·simp [go_sem,k.c7]
 ·simp [go_sem,k.c8]
 ·simp [go_sem,k.c9]
 ·intro o
  simp only [frozen_set]
  exact k.fz o
theorem gr10 {w W:World} {rb:Nat} (g:Gr w W) (h:w.heap.size≤rb) (v0 v1 v2 v3 v4 v5 v6 v7 v8 v9:Value) :
  Gr w ((((((((((W.setCell ⟨rb,0,none⟩ v0).setCell ⟨rb,1,none⟩ v1).setCell ⟨rb,2,none⟩ v2).setCell ⟨rb,3,none⟩ v3).setCell ⟨rb,4,none⟩ v4).setCell ⟨rb,5,none⟩ v5).setCell ⟨rb,6,none⟩ v6).setCell ⟨rb,7,none⟩ v7).setCell ⟨rb,8,none⟩ v8).setCell ⟨rb,9,none⟩ v9) :=
 (((((((((g.setCell h v0).setCell h v1).setCell h v2).setCell h v3).setCell h v4).setCell h v5).setCell h v6).setCell h v7).setCell h v8).setCell h v9
theorem headH_eq (a b:UInt8) (t s:List UInt8) (hs:a :: b :: t=s) (n sm lv:Nat) (mk lb:Bool) (hsm:b.toNat % 128=sm) (hn:moreH sm+2=n) (hmk:decide (128≤b.toNat)=mk)
  (hlv:(if 2<n then bigH ((s.take n).drop 2) else sm)=lv) (hlb:((leastH lv:Int)==((moreH sm:Nat):Int))=lb) :
  headH s=if s.length<(if mk then n+4 else n) then none else some (⟨decide (128≤(a.toNat:Int)),a.toNat / 16 % 8,a.toNat % 16,mk,if mk then s.getD n 0 else 0,if mk then s.getD (n+1) 0 else 0,if mk then s.getD (n+2) 0 else 0,if mk then s.getD (n+3) 0 else 0,lv,lb⟩,if mk then n+4 else n):=by
 have g0:s.getD 0 0=a:=by rw [←hs];rfl
 have g1:s.getD 1 0=b:=by rw [←hs];rfl
 have hl:2≤s.length:=by rw [←hs];simp
 have f127:(b&&&127).toNat=sm:=by have:=and127_u8 ⟨b.toNat,b.toNat_lt⟩;simpa [hsm] using this
 have f15:(a&&&15).toNat=a.toNat % 16:=by have:=and15_u8 ⟨a.toNat,a.toNat_lt⟩;simpa using this
 have f7:((a >>> 4)&&&7).toNat=a.toNat / 16 % 8:=by have:=shr4_and7 ⟨a.toNat,a.toNat_lt⟩;simpa using this
 have hz:sizeH s=n:=by unfold sizeH;rw [g1,f127];omega
 have hb:(128≤b)=(mk=true):=by rw [←hmk];simp [UInt8.le_iff_toNat_le]
 have ha:decide (128≤a)=decide (128≤(a.toNat:Int)):=by simp only [decide_eq_decide,UInt8.le_iff_toNat_le];constructor <;> intro h <;> (have h':(128:UInt8).toNat=128:=rfl) <;> omega
 have hb2:decide (128≤b)=mk:=by simp only [hb];cases mk <;> rfl
 have hlen:lenH s=lv:=by unfold lenH;rw [hz,g1,f127];exact hlv
 have hnd:needH s=if mk then n+4 else n:=by unfold needH;rw [g1,hz];simp only [hb]
 have hle:(leastH lv==n - 2)=lb:=by
  rw [←hlb,show n - 2=moreH sm by omega]
  cases h:(leastH lv==moreH sm)
  ·have:=beq_eq_false_iff_ne.1 h
   exact (beq_eq_false_iff_ne.2 (by omega)).symm
  ·have:=eq_of_beq h
   rw [this];simp
 unfold headH
 rw [hnd]
 by_cases hc:s.length<(if mk then n+4 else n)
 ·rw [if_pos (.inr hc),if_pos hc]
 ·rw [if_neg (by rintro (h | h) <;> omega),if_neg hc]
  unfold mkH maskK
  rw [g0,g1,hlen,hz,f7,f15,hle,ha,hb2]
  simp only [hb,Nat.add_zero]
theorem rh_results (tmps:Array Value) (rb:Nat) (W:World) (h:Hd) (n:Int) (k:HdC rb W h) (t2:tmps[2]?=some (.pointer (some ⟨rb,0,none⟩))) (t3:tmps[3]?=some (.int .i64 n)) (t4:tmps[4]?=some (.bool true)) :
  (results Tryz.f224 tmps).run Tryz.prog W=.ok (.tuple #[h.V,.int .i64 n,.bool true]) W:=by
 obtain ⟨z0,z1,z2,z3,z4,z5,z6,z7,z8,z9,zf⟩:=k
 simp [results,Tryz.results224,go_sem,Hd.V,z0,z1,z2,z3,z4,z5,z6,z7,z8,z9,t2,t3,t4]
theorem rhead_long (a b:UInt8) (t:List UInt8) (W:World) (ht:t.length≤4611686018427387900) :
  Calls Tryz.prog 224 #[.string ⟨(a :: b :: t).toArray⟩] W fun e w'=>e=.returned (headV (a :: b :: t))∧Gr W w':=by
 obtain ⟨s,hs⟩:∃ s,(a :: b :: t)=s:=⟨_,rfl⟩
 have hl:s.length=t.length+2:=by rw [←hs];rfl
 have h0:(⟨s.toArray⟩:ByteArray)[0]'(by rw [size_mk];omega)=a:=by subst hs;rfl
 have h1:(⟨s.toArray⟩:ByteArray)[1]'(by rw [size_mk];omega)=b:=by subst hs;rfl
 have ha:=a.toNat_lt
 have hb:=b.toNat_lt
 have haI:(a.toNat:Int)<256:=by omega
 have hbI:(b.toNat:Int)<256:=by omega
 have hl2:(2:Int)≤s.length:=by omega
 have hl2':¬(s.length:Int)<2:=by omega
 have hand:=and7_i64 ⟨a.toNat,ha⟩
 have hnot:=not128_u8 ⟨b.toNat,hb⟩
 dsimp only at hand hnot
 obtain ⟨w1,hw1⟩:∃ w1,W.alloc (.cells #[.bool false,.int .i64 0,.int .i64 0,.bool false,.int .u8 0,.int .u8 0,.int .u8 0,.int .u8 0,.int .u64 0,.bool false] 152)=w1:=⟨_,rfl⟩
 have hz1:=hid (hw1▸hdC_new W 152:HdC W.heap.size w1 hd0)
 have hg1:=hid (hw1▸Gr.alloc W _:Gr W w1)
 haveI:Nonempty (Later (Gr w1)):=⟨⟨_,Gr.refl _⟩⟩
 obtain ⟨rv,hrv⟩:∃ rv,a.toNat / 16 % 8=rv:=⟨_,rfl⟩
 obtain ⟨opv,hopv⟩:∃ opv,a.toNat % 16=opv:=⟨_,rfl⟩
 have hopI:(a.toNat:Int) % 16=(opv:Int):=by omega
 rw [hrv] at hand
 obtain ⟨sm,hsm⟩:∃ sm,b.toNat % 128=sm:=⟨_,rfl⟩
 have hsmI:(b.toNat:Int) % 128=(sm:Int):=by omega
 rw [hsm] at hnot
 rw [hs]
 go_enter Tryz.func224,Tryz.ntmps224
 go_upto_region 3 with (fail)
 go_cut [] (fun wx=>HdC W.heap.size wx ⟨decide (128≤(a.toNat:Int)),rv,opv,decide (128≤(b.toNat:Int)),0,0,0,0,0,false⟩∧Gr W wx)
 case first =>
  refine wp_region_later_tail (C:=Gr w1) 16 (by kernel_rfl) (by kernel_rfl) (Gr.drew' _) ?_
  simp only [List.take_succ_cons,List.take_zero,List.drop_succ_cons,List.drop_zero]
  repeat (go_big_quiet_step (fail))
  refine wpQuiet_nil ?_
  intro w9 hg9
  have hz9:=hz1.out.gr hg9
  have hz9':=hid hz9
  have hg9':=hid (hg1.out.trans hg9)
  obtain ⟨z0,z1,z2,z3,z4,z5,z6,z7,z8,z9,zf⟩:=hz9
  clear hg9
  go_wp2
  go_meet
  exact ⟨hz9'.out.put10 _ _ _ _ _ _ _ _ _ _ rfl rfl rfl rfl rfl rfl rfl rfl rfl rfl,gr10 hg9'.out (Nat.le_refl _) _ _ _ _ _ _ _ _ _ _⟩
 case rest =>
  obtain ⟨hH,hg⟩:=hcut
  have hH':=hid hH
  have hg':=hid hg
  obtain ⟨z0,z1,z2,z3,z4,z5,z6,z7,z8,z9,zf⟩:=hH
  have hmo:=hid (fmore_any sm wc)
  obtain ⟨m,hm⟩:∃ m,moreH sm=m:=⟨_,rfl⟩
  have hm8:m≤8:=hm▸moreH_le sm
  rw [hm] at hmo
  obtain ⟨n,hn⟩:∃ n,m+2=n:=⟨_,rfl⟩
  have hnI:(2:Int)+(m:Int)=(n:Int):=by omega
  have hnI2:(n:Int) - 2=(m:Int):=by omega
  clear hg hand hw1 hz1 hg1 this
  go_wp2_with (fail)
  refine (hmo.out).mono ?_
  rintro e w2 ⟨rfl,rfl⟩
  obtain ⟨al,hal⟩:∃ al,(if 128≤b.toNat then n+4 else n)=al:=⟨_,rfl⟩
  have hal14:al≤14∧n≤al:=by rw [←hal];split <;> omega
  have hbi:decide (128≤(b.toNat:Int))=decide (128≤b.toNat):=by simp only [decide_eq_decide];omega
  obtain ⟨mk,hmk⟩:∃ mk,decide (128≤b.toNat)=mk:=⟨_,rfl⟩
  rw [hbi,hmk] at z3
  rw [hbi,hmk] at hH'
  have hmk':=hid hmk
  have halm:=hid (show al=if mk then n+4 else n by rw [←hal,←hmk];simp)
  clear hmk hbi hal hmo
  go_upto_if 36 with (fail)
  go_cut [6] (fun v wx=>v=.int .i64 al∧wx=wc)
  case first =>
   cases mk with
   | true =>
    have ha1:=halm.out
    rw [if_pos rfl] at ha1
    clear hH'
    go_wp2
    go_meet
    exact ⟨congrArg (Value.int .i64) (by omega),rfl⟩
   | false =>
    have ha1:=halm.out
    rw [if_neg (by decide)] at ha1
    clear hH'
    go_wp2
    go_meet
    exact ⟨congrArg (Value.int .i64) (by omega),rfl⟩
  case rest =>
   obtain ⟨rfl,rfl⟩:=hcut
   by_cases hsh:s.length<al
   ·have hshI:(s.length:Int)<al:=by omega
    go_wp2
    refine bodyPost_ret (v:=.tuple #[hd0.V,.int .i64 0,.bool false]) (by simp [results,Tryz.results224,go_sem,Hd.V,hd0,z0,z1,z2,z3,z4,z5,z6,z7,z8,z9]) rfl ⟨?_,gr10 hg'.out (Nat.le_refl _) _ _ _ _ _ _ _ _ _ _⟩
    have hh:=headH_eq a b t s hs n sm _ mk _ hsm (hm▸hn) hmk'.out rfl rfl
    rw [←halm.out,if_pos hsh] at hh
    unfold headV
    rw [hh]
   ·have hshI:¬(s.length:Int)<al:=by omega
    obtain ⟨lv,hlv⟩:∃ lv,(if 2<n then bigH ((s.take n).drop 2) else sm)=lv:=⟨_,rfl⟩
    have hlv':=hid hlv
    have hHz:=hH'.out.lt
    have hns:n≤s.length:=by omega
    have hbg:=hid (fbig_any ((s.take n).drop 2) (by simp;omega))
    have hx13:(⟨s.toArray⟩:ByteArray).extract 2 n=⟨((s.take n).drop 2).toArray⟩:=by rw [extract_mk]
    have hnt:n≤t.length+2:=by omega
    go_upto_if 48 with (fail)
    go_cut [] (fun wx=>HdC W.heap.size wx ⟨decide (128≤(a.toNat:Int)),rv,opv,mk,0,0,0,0,lv,false⟩∧Gr W wx)
    case first =>
     by_cases hn2:2<n
     ·have hn2I:(2:Int)<n:=by omega
      rw [if_pos hn2] at hlv
      rw [hlv] at hbg
      clear hlv
      go_wp2_with (fail)
      refine (hbg.out _).mono ?_
      rintro e w3 ⟨rfl,rfl⟩
      go_wp2
      go_meet
      exact ⟨(hH'.out.setLen sm).setLen lv,(hg'.out.setCell (Nat.le_refl _) _).setCell (Nat.le_refl _) _⟩
     ·have hn2I:¬(2:Int)<n:=by omega
      clear hlv
      go_wp2
      go_meet
      have e:=hlv'.out
      rw [if_neg hn2] at e
      subst e
      exact ⟨hH'.out.setLen sm,hg'.out.setCell (Nat.le_refl _) _⟩
    case rest =>
     obtain ⟨hH2,hg2⟩:=hcut
     have hH2':=hid hH2
     have hg2':=hid hg2
     have hls:=hid (fleast_any lv)
     obtain ⟨lb,hlb⟩:∃ lb,((leastH lv:Int)==(m:Int))=lb:=⟨_,rfl⟩
     have hmw:IntKind.i64.wrap (m:Int)=m:=IntWalk.i64_in _ (by omega)
     clear z0 z1 z2 z3 z4 z5 z6 z7 z8 z9 zf hg' hlv hbg hH2 hg2
     obtain ⟨z0,z1,z2,z3,z4,z5,z6,z7,z8,z9,zf⟩:=hH2'.out
     go_wp2_with (fail)
     refine (hls.out _).mono ?_
     rintro e w3 ⟨rfl,rfl⟩
     go_upto_region 15 with (fail)
     obtain ⟨w5,hw5⟩:∃ w5,wc.setCell ⟨W.heap.size,9,none⟩ (.bool lb)=w5:=⟨_,rfl⟩
     rw [hw5]
     have hH3:=hid (hw5▸hH2'.out.setLeast lb:HdC W.heap.size w5 ⟨decide (128≤(a.toNat:Int)),rv,opv,mk,0,0,0,0,lv,lb⟩)
     have hg3:=hid (hw5▸hg2'.out.setCell (Nat.le_refl _) _:Gr W w5)
     haveI:Nonempty (Later (Gr w5)):=⟨⟨_,Gr.refl _⟩⟩
     have hals:al≤s.length:=by omega
     have halt:al≤t.length+2:=by omega
     have hnal:n≤al:=hal14.2
     clear z0 z1 z2 z3 z4 z5 z6 z7 z8 z9 zf hw5 hH2' hg2'
     refine wp_region_later_tail (C:=Gr w5) 6 (by kernel_rfl) (by kernel_rfl) (Gr.drew' _) ?_
     simp only [List.take_succ_cons,List.take_zero,List.drop_succ_cons,List.drop_zero]
     cases mk with
     | true =>
      have ha1:=halm.out
      rw [if_pos rfl] at ha1
      obtain ⟨x0,e0⟩:∃ x,s.getD n 0=x:=⟨_,rfl⟩
      obtain ⟨x1,e1⟩:∃ x,s.getD (n+1) 0=x:=⟨_,rfl⟩
      obtain ⟨x2,e2⟩:∃ x,s.getD (n+2) 0=x:=⟨_,rfl⟩
      obtain ⟨x3,e3⟩:∃ x,s.getD (n+3) 0=x:=⟨_,rfl⟩
      have hxk:(⟨s.toArray⟩:ByteArray).extract n (n+4)=⟨#[x0,x1,x2,x3]⟩:=by
       rw [extract_mk]
       have:(s.take (n+4)).drop n=[x0,x1,x2,x3]:=by
        apply List.ext_getElem
        ·simp;omega
        ·intro i h1 h2
         simp at h2
         rw [List.getElem_drop,List.getElem_take]
         have hi:i=0∨i=1∨i=2∨i=3:=by omega
         rcases hi with rfl | rfl | rfl | rfl
         ·rw [←e0];simp [List.getD_eq_getElem?_getD,List.getElem?_eq_getElem (show n<s.length by omega)]
         ·rw [←e1];simp [List.getD_eq_getElem?_getD,List.getElem?_eq_getElem (show n+1<s.length by omega)]
         ·rw [←e2];simp [List.getD_eq_getElem?_getD,List.getElem?_eq_getElem (show n+2<s.length by omega)]
         ·rw [←e3];simp [List.getD_eq_getElem?_getD,List.getElem?_eq_getElem (show n+3<s.length by omega)]
       rw [this]
      have e0':=hid e0
      have e1':=hid e1
      have e2':=hid e2
      have e3':=hid e3
      clear e0 e1 e2 e3
      repeat (go_big_quiet_step (fail))
      refine wpQuiet_nil ?_
      intro w9 hg9
      have hH9:=hH3.out.gr hg9
      have hH9':=hid hH9
      have hg9':=hid (hg3.out.trans hg9)
      obtain ⟨z0,z1,z2,z3,z4,z5,z6,z7,z8,z9,zf⟩:=hH9
      have hcp:∀ ty,(Builtin.copy_ #[100,9] ty #[.slice (some ⟨W.heap.size,4,none⟩) 4 4,.string ⟨#[x0,x1,x2,x3]⟩]).run Tryz.prog w9=.ok (goInt 4) ((((w9.setCell ⟨W.heap.size,4,none⟩ (.int .u8 x0.toNat)).setCell ⟨W.heap.size,5,none⟩ (.int .u8 x1.toNat)).setCell ⟨W.heap.size,6,none⟩ (.int .u8 x2.toNat)).setCell ⟨W.heap.size,7,none⟩ (.int .u8 x3.toNat)):=fun ty=>by
       have h:=run_copy_string (P:=Tryz.prog) w9 100 9 ty 5 W.heap.size 4 4 4 ⟨#[x0,x1,x2,x3]⟩ Tryz.underlying100 (by intro w;rfl) (Nat.le_refl 4) (fun j hj=>by
        have hj':j<4:=hj
        have hi:j=0∨j=1∨j=2∨j=3:=by omega
        rcases hi with rfl | rfl | rfl | rfl
        ·rw [z4];rfl
        ·rw [z5];rfl
        ·rw [z6];rfl
        ·rw [z7];rfl) (fun j _=>zf _)
       exact h
      go_wp2
      refine bodyPost_ret (v:=.tuple #[(⟨decide (128≤(a.toNat:Int)),rv,opv,true,x0,x1,x2,x3,lv,lb⟩:Hd).V,.int .i64 ((n:Int)+4),.bool true]) ?hr rfl ⟨?_,?_⟩
      case hr=>exact rh_results _ W.heap.size _ _ _ ((hH9'.out.setKeys x0 x1 x2 x3).put10 _ _ _ _ _ _ _ _ _ _ rfl rfl rfl rfl rfl rfl rfl rfl rfl rfl) rfl rfl rfl
      ·have hh:=headH_eq a b t s hs n sm lv true lb hsm (hm▸hn) hmk'.out hlv'.out (hm▸hlb)
       rw [if_pos rfl,if_neg (by omega)] at hh
       unfold headV
       rw [hh]
       simp only [if_true,e0'.out,e1'.out,e2'.out,e3'.out,hrv,hopv]
       simp
      ·exact gr10 ((((hg9'.out.setCell (Nat.le_refl _) _).setCell (Nat.le_refl _) _).setCell (Nat.le_refl _) _).setCell (Nat.le_refl _) _) (Nat.le_refl _) _ _ _ _ _ _ _ _ _ _
     | false =>
      have ha1:=halm.out
      rw [if_neg (by decide)] at ha1
      have hxk:(⟨s.toArray⟩:ByteArray).extract n n=⟨#[]⟩:=by
       rw [extract_mk]
       have:(s.take n).drop n=[]:=by apply List.drop_eq_nil_of_le;simp;omega
       rw [this]
      repeat (go_big_quiet_step (fail))
      refine wpQuiet_nil ?_
      intro w9 hg9
      have hH9:=hH3.out.gr hg9
      have hH9':=hid hH9
      have hg9':=hid (hg3.out.trans hg9)
      obtain ⟨z0,z1,z2,z3,z4,z5,z6,z7,z8,z9,zf⟩:=hH9
      have hcp:∀ ty,(Builtin.copy_ #[100,9] ty #[.slice (some ⟨W.heap.size,4,none⟩) 4 4,.string ByteArray.empty]).run Tryz.prog w9=.ok (goInt 0) w9:=fun ty =>
       Lib.run_copy_empty_string (P:=Tryz.prog) w9 100 9 ty 5 _ 4 4 ByteArray.empty Tryz.underlying100 (by rfl) rfl
      go_wp2
      refine bodyPost_ret (v:=.tuple #[(⟨decide (128≤(a.toNat:Int)),rv,opv,false,0,0,0,0,lv,lb⟩:Hd).V,.int .i64 n,.bool true]) ?hr rfl ⟨?_,?_⟩
      case hr=>exact rh_results _ W.heap.size _ _ _ (hH9'.out.put10 _ _ _ _ _ _ _ _ _ _ rfl rfl rfl rfl rfl rfl rfl rfl rfl rfl) rfl rfl rfl
      ·have hh:=headH_eq a b t s hs n sm lv false lb hsm (hm▸hn) hmk'.out hlv'.out (hm▸hlb)
       simp only [Bool.false_eq_true,if_false] at hh
       rw [if_neg (by omega)] at hh
       unfold headV
       rw [hh]
       simp [hrv,hopv]
      ·exact gr10 hg9'.out (Nat.le_refl _) _ _ _ _ _ _ _ _ _ _
theorem rhead_any2 (s:List UInt8) (W:World) (hs:s.length≤4611686018427387900) :
  Calls Tryz.prog 224 #[.string ⟨s.toArray⟩] W fun e w'=>e=.returned (headV s)∧Gr W w':=by
 match s,hs with
 | [],_=>exact rhead_short [] (by decide) W
 | [a],_=>exact rhead_short [a] (by simp) W
 | a :: b :: t,h=>exact rhead_long a b t W (by simp at h;omega)
end Go.Proofs.YtadobobfjnmdlaaGreatDoor
