/-
  A close's data in memory: what they say, what they are.
-/
import Derived.Test.YtadobobfjnmdlaaGreatDoorUv
import Derived.Lib.LazyBuf
import Derived.Lib.BufferWrite
set_option linter.unnecessarySimpa false
set_option linter.unusedVariables false
set_option linter.unusedSimpArgs false
set_option maxHeartbeats 16000000
set_option maxRecDepth 100000
open Go.Proofs.Tryz
namespace Go.Proofs.YtadobobfjnmdlaaGreatDoor
open Go.RowKit Go.Shelf
attribute [local go_sem] Oper.semAt_some
theorem Ep (a b:Nat)(d:a<256)(e:b<256):bits .or .i64 ((a:Int)*256) (b:Int)=((a*256+b:Nat):Int):=by
 have h:=bits_join .i64 63 (by decide) (λn h0 c=>IntWalk.i64_in n (by omega)) 8 ((a:Int)*256) (b:Int) (by omega) (by omega) (by omega) (by omega) (by omega) (by omega);rw[h];omega
def kH (s:List UInt8)(W:World)(e:Ending)(W':World):Prop:=(∃r:List UInt8,e=.returned (.tuple #[.int .i64 (dg s).1,.string ⟨r.toArray⟩,.int .i64 (dg s).2]))∧Gr W W'
theorem Er (W:World):Calls prog 148 #[.string ⟨[].toArray⟩] W (kH [] W):=by
 go_enter func148,ntmps148;go_wp2;refine bodyPost_ret (v:=.tuple #[.int .i64 1005,.string ⟨#[]⟩,.int .i64 0]) (by simp[results,results148,go_sem]) rfl ⟨⟨[],rfl⟩,Gr.refl _⟩
theorem Es (a:UInt8)(W:World):Calls prog 148 #[.string ⟨[a].toArray⟩] W (kH [a] W):=by
 go_enter func148,ntmps148;go_wp2;refine bodyPost_ret (v:=.tuple #[.int .i64 0,.string ⟨#[]⟩,.int .i64 1002]) (by simp[results,results148,go_sem]) rfl ⟨⟨[],rfl⟩,Gr.refl _⟩
theorem Et (a b:UInt8)(t:List UInt8)(W:World)(E:t.length≤4611686018427387900):Calls prog 148 #[.string ⟨(a :: b :: t).toArray⟩] W (kH (a :: b :: t) W):=by
 obtain⟨s,hs⟩:∃s,(a :: b :: t)=s:=⟨_,rfl⟩;have hl:s.length=t.length+2:=by rw[←hs];rfl
 obtain⟨n,hn⟩:∃n,s.length=n:=⟨_,rfl⟩;have h0:(⟨s.toArray⟩:ByteArray)[0]'(by rw[aj];omega)=a:=by subst hs;rfl
 have D:(⟨s.toArray⟩:ByteArray)[1]'(by rw[aj];omega)=b:=by subst hs;rfl
 have H:(⟨s.toArray⟩:ByteArray).extract 2 (t.length+2)=⟨t.toArray⟩:=by rw[av,←hs];simp
 have p:=a.toNat_lt;have r:=b.toNat_lt;obtain⟨c,j⟩:∃c,a.toNat*256+b.toNat=c:=⟨_,rfl⟩;have l:=Ep a.toNat b.toNat p r;rw[j]at l;have A:((s.length:Int)==0)=false:=qk.2 (by omega);have B:((s.length:Int)==1)=false:=qk.2 (by omega);have y:(2:Int)≤s.length:=by omega
 have hm:=tU c;obtain⟨m,g⟩:∃m,eo c=m:=⟨_,rfl⟩;rw[g]at hm;have k:=qq hm;have h:=λw=>ov t w (by omega);obtain⟨v,o⟩:∃v,jn t=v:=⟨_,rfl⟩;rw[o]at h;have z:=qq h;have f:=qq (show dg (a :: b :: t)=if (!m)=true then(0,1002) else if (!v)=true then(0,1007) else(c,0) by
  unfold dg;rw[if_neg (by simp),if_neg (by simp)];show(if (!eo (a.toNat*256+b.toNat))=true then _ else if (!jn t)=true then _ else(a.toNat*256+b.toNat,0))=_;rw[j,g,o])
 unfold kH;rw[hs]at f ⊢;clear hs hm g h o j;have q:(a.toNat:Int)<256:=by omega
 have u:(b.toNat:Int)<256:=by omega
 have F:IntKind.i64.wrap ((a.toNat:Int)*256)=(a.toNat:Int)*256:=IntWalk.i64_in _ (by omega);go_enter func148,ntmps148;go_upto_region 6 with(fail);go_quiet (fail);have d:Gr W (W.drewN nq):=below_drewNm _ _;have d:=qq d;go_wp2_with fail;refine(k.out _).mono ?_;rintro e C⟨rfl,rfl⟩;cases m with
 | false =>
  rw[if_pos (by decide)]at f;go_wp2;refine bodyPost_ret (v:=.tuple #[.int .i64 0,.string ⟨#[]⟩,.int .i64 1002]) (by simp[results,results148,go_sem]) rfl ⟨⟨[],by rw[f.out];rfl⟩,d.out⟩
 | true =>
  rw[if_neg (by decide)]at f;go_wp2_with fail;refine(z.out _).mono ?_;rintro e C⟨rfl,x⟩;have i:=qq (d.out.trans x);cases v with
  | false =>
   rw[if_pos (by decide)]at f;go_wp2;refine bodyPost_ret (v:=.tuple #[.int .i64 0,.string ⟨#[]⟩,.int .i64 1007]) (by simp[results,results148,go_sem]) rfl ⟨⟨[],by rw[f.out];rfl⟩,i.out⟩
  | true =>
   rw[if_neg (by decide)]at f;go_wp2;refine bodyPost_ret (v:=.tuple #[.int .i64 c,.string ⟨t.toArray⟩,.int .i64 0]) (by simp[results,results148,go_sem]) rfl ⟨⟨t,by rw[f.out];rfl⟩,i.out⟩
theorem pR (s:List UInt8)(W:World)(hs:s.length≤4611686018427387900):Calls prog 148 #[.string ⟨s.toArray⟩] W (kH s W):=by
 match s,hs with
 | [],_=>exact Er W
 | [a],_=>exact Es a W
 | a :: b :: t,h=>exact Et a b t W (by simp at h;omega)
theorem ws (c:Nat)(W:World)(s:c≤65535) :
  Calls prog 88 #[.int .i64 c,.string ⟨[].toArray⟩] W λe w'=>(∃n:Int,e=.returned (.tuple #[.string ⟨(i7 c).toArray⟩,.int .i64 n]))∧Gr W w':=by
 by_cases h:c=1005
 ·subst h;go_enter func88,ntmps88;go_wp2;go_ret2;exact⟨⟨0,rfl⟩,Gr.refl _⟩
 ·have t:((c:Int)==1005)=false:=qk.2 (by omega);have hm:=tU c;obtain⟨m,a⟩:∃m,eo c=m:=⟨_,rfl⟩;have f:=qq (show i7 c=if m=true then [UInt8.ofNat (c / 256),UInt8.ofNat c] else [] by unfold i7;rw[if_neg h,a]);rw[a]at hm;have d:=qq hm;have l:=qq (λw=>ov [] w (by simp));have e0:jn []=true:=by decide
  rw[e0]at l;clear hm a e0;cases m with
  | false =>
   rw[if_neg (by decide)]at f;go_enter func88,ntmps88;go_wp2_with fail;refine(d.out _).mono ?_;rintro e b⟨rfl,rfl⟩;go_wp2;refine bodyPost_ret (v:=.tuple #[.string ⟨#[]⟩,.int .i64 1]) (by simp[results,results88,go_sem]) rfl ⟨⟨1,by rw[f.out]⟩,Gr.refl _⟩
  | true =>
   rw[if_pos rfl]at f;go_enter func88,ntmps88;go_wp2_with fail;refine(d.out _).mono ?_;rintro e b⟨rfl,rfl⟩;go_wp2_with fail;refine(l.out _).mono ?_;rintro e b⟨rfl,k⟩;have g:=qq k;clear k;have o:((UInt8.ofNat (c / 256)).toNat:Int)=(c:Int) / 256:=(by simp[UInt8.toNat_ofNat'];omega);have p:((UInt8.ofNat c).toNat:Int)=(c:Int) % 256:=(by simp[UInt8.toNat_ofNat']);have q:(convert 100 9 (.slice (some ⟨b.heap.size,0,none⟩) 2 2)).run prog (b.alloc (.cells #[.int .u8 ((c:Int) / 256),.int .u8 ((c:Int) % 256)] 5))=.ok (.string ⟨#[UInt8.ofNat (c / 256),UInt8.ofNat c]⟩) (b.alloc (.cells #[.int .u8 ((c:Int) / 256),.int .u8 ((c:Int) % 256)] 5)) :=
    run_convert_bytes_back (P:=prog) (b.alloc (.cells #[.int .u8 ((c:Int) / 256),.int .u8 ((c:Int) % 256)] 5)) 100 9 5 ⟨b.heap.size,0,none⟩ 2 [UInt8.ofNat (c / 256),UInt8.ofNat c] underlying100 underlying5 underlying9 (λj r=>by
     match j,r with
     | 0,_=>simp only[List.getElem_cons_zero,o];simp[Addr.add,go_sem]
     | 1,_=>simp only[List.getElem_cons_succ,List.getElem_cons_zero,p];simp[Addr.add,go_sem])
   clear o p;have i:(⟨#[UInt8.ofNat (c / 256),UInt8.ofNat c]⟩:ByteArray)++(⟨#[]⟩:ByteArray)=⟨#[UInt8.ofNat (c / 256),UInt8.ofNat c]⟩:=aL [UInt8.ofNat (c / 256),UInt8.ofNat c] [];go_wp2;refine bodyPost_ret (v:=.tuple #[.string ⟨#[UInt8.ofNat (c / 256),UInt8.ofNat c]⟩,.int .i64 0]) (by simp[results,results88,go_sem]) rfl ⟨⟨0,by rw[f.out]⟩,g.out.alloc1 _⟩
def Hd.V (h:Hd):Value:=.agg #[.bool h.fin,.int .i64 h.rsv,.int .i64 h.op,.bool h.masked,.int .u8 h.k0.toNat,.int .u8 h.k1.toNat,.int .u8 h.k2.toNat,.int .u8 h.k3.toNat,.int .u64 h.len,.bool h.least]
def l9 (s:List UInt8):Value:=match ej s with
 | none=>.tuple #[hd0.V,.int .i64 0,.bool false]
 | some (h,n)=>.tuple #[h.V,.int .i64 n,.bool true]
theorem ma (s:List UInt8)(h:s.length<2)(W:World):Calls prog 224 #[.string ⟨s.toArray⟩] W λe w'=>e=.returned (.tuple #[hd0.V,.int .i64 0,.bool false])∧Gr W w':=by
 have a:(s.length:Int)<2:=by omega
 go_enter func224,ntmps224;go_wp2;refine bodyPost_ret (v:=.tuple #[hd0.V,.int .i64 0,.bool false]) (by simp[results,results224,go_sem,Hd.V,hd0]) rfl ⟨rfl,Gr.alloc _ _⟩
structure HdC (rb:Nat)(W:World)(h:Hd):Prop where
 c0:W.cell? ⟨rb,0,none⟩=some (.bool h.fin)
 c1:W.cell? ⟨rb,1,none⟩=some (.int .i64 h.rsv)
 c2:W.cell? ⟨rb,2,none⟩=some (.int .i64 h.op)
 c3:W.cell? ⟨rb,3,none⟩=some (.bool h.masked)
 c4:W.cell? ⟨rb,4,none⟩=some (.int .u8 h.k0.toNat)
 c5:W.cell? ⟨rb,5,none⟩=some (.int .u8 h.k1.toNat)
 c6:W.cell? ⟨rb,6,none⟩=some (.int .u8 h.k2.toNat)
 c7:W.cell? ⟨rb,7,none⟩=some (.int .u8 h.k3.toNat)
 c8:W.cell? ⟨rb,8,none⟩=some (.int .u64 h.len)
 c9:W.cell? ⟨rb,9,none⟩=some (.bool h.least)
 fz:∀o,W.frozen? ⟨rb,o,none⟩=false
theorem HdC.lt {rb:Nat}{W:World}{h:Hd}(k:HdC rb W h):rb<W.heap.size:=ae k.c0
theorem HdC.gr {rb:Nat}{W a:World}{h:Hd}(k:HdC rb W h)(g:Gr W a):HdC rb a h :=
 ⟨g.cell k.c0,g.cell k.c1,g.cell k.c2,g.cell k.c3,g.cell k.c4,g.cell k.c5,g.cell k.c6,g.cell k.c7,g.cell k.c8,g.cell k.c9,λo=>(Below.frozen g (p:=⟨rb,o,none⟩) k.lt).trans (k.fz o)⟩
theorem Eu (W:World)(t:TypeId):HdC W.heap.size (W.alloc (.cells #[.bool false,.int .i64 0,.int .i64 0,.bool false,.int .u8 0,.int .u8 0,.int .u8 0,.int .u8 0,.int .u64 0,.bool false] t)) hd0 :=
 ⟨aa _ _ _ 0 _ rfl,aa _ _ _ 1 _ rfl,aa _ _ _ 2 _ rfl,aa _ _ _ 3 _ rfl,aa _ _ _ 4 _ rfl,aa _ _ _ 5 _ rfl,aa _ _ _ 6 _ rfl,aa _ _ _ 7 _ rfl,aa _ _ _ 8 _ rfl,aa _ _ _ 9 _ rfl,λ_=>World.frozen?_alloc_at _ _ _ _ rfl⟩
theorem Da:∀n:Fin 256,bits .and .i64 ((n.val:Int) / 16) 7=((n.val / 16 % 8:Nat):Int):=by decide +kernel
theorem Aj:∀n:Fin 256,bits .andNot .u8 (n.val:Int) 128=((n.val % 128:Nat):Int):=by decide +kernel
theorem Ak:∀n:Fin 256,((UInt8.ofNat n.val >>> 4)&&&7).toNat=n.val / 16 % 8:=by decide +kernel
theorem Db:∀n:Fin 256,(UInt8.ofNat n.val&&&15).toNat=n.val % 16:=by decide +kernel
theorem Al:∀n:Fin 256,(UInt8.ofNat n.val&&&127).toNat=n.val % 128:=by decide +kernel
theorem Dc (n:Nat):eV n≤8:=by unfold eV;split <;> (try split) <;> omega
theorem HdC.put10 {rb:Nat}{W:World}{h a:Hd}(k:HdC rb W h)(b c d e f g i j l m:Value)(e0:b=.bool a.fin)(e1:c=.int .i64 a.rsv)(e2:d=.int .i64 a.op)(e3:e=.bool a.masked)(e4:f=.int .u8 a.k0.toNat)(n:g=.int .u8 a.k1.toNat)(p:i=.int .u8 a.k2.toNat)(q:j=.int .u8 a.k3.toNat)(r:l=.int .u64 a.len)(s:m=.bool a.least) :
  HdC rb ((((((((((W.setCell ⟨rb,0,none⟩ b).setCell ⟨rb,1,none⟩ c).setCell ⟨rb,2,none⟩ d).setCell ⟨rb,3,none⟩ e).setCell ⟨rb,4,none⟩ f).setCell ⟨rb,5,none⟩ g).setCell ⟨rb,6,none⟩ i).setCell ⟨rb,7,none⟩ j).setCell ⟨rb,8,none⟩ l).setCell ⟨rb,9,none⟩ m) a:=by
 subst e0 e1 e2 e3 e4 n p q r s;constructor
 ·simp[go_sem,k.c0]
 ·simp[go_sem,k.c1]
 ·simp[go_sem,k.c2]
 ·simp[go_sem,k.c3]
 ·simp[go_sem,k.c4]
 ·simp[go_sem,k.c5]
 ·simp[go_sem,k.c6]
 ·simp[go_sem,k.c7]
 ·simp[go_sem,k.c8]
 ·simp[go_sem,k.c9]
 ·intro o;simp only[ag];exact k.fz o
theorem HdC.setLen {rb:Nat}{W:World}{h:Hd}(k:HdC rb W h)(n:Nat):HdC rb (W.setCell ⟨rb,8,none⟩ (.int .u64 n)) { h with len:=n } :=
 ⟨ac k.c0 (by decide),ac k.c1 (by decide),ac k.c2 (by decide),ac k.c3 (by decide),ac k.c4 (by decide),ac k.c5 (by decide),ac k.c6 (by decide),ac k.c7 (by decide),af k.c8,ac k.c9 (by decide),λo=>by rw[ag];exact k.fz o⟩
theorem HdC.setLeast {rb:Nat}{W:World}{h:Hd}(k:HdC rb W h)(v:Bool):HdC rb (W.setCell ⟨rb,9,none⟩ (.bool v)) { h with least:=v } :=
 ⟨ac k.c0 (by decide),ac k.c1 (by decide),ac k.c2 (by decide),ac k.c3 (by decide),ac k.c4 (by decide),ac k.c5 (by decide),ac k.c6 (by decide),ac k.c7 (by decide),ac k.c8 (by decide),af k.c9,λo=>by rw[ag];exact k.fz o⟩
theorem HdC.setKeys {rb:Nat}{W:World}{h:Hd}(k:HdC rb W h)(a b c d:UInt8):HdC rb ((((W.setCell ⟨rb,4,none⟩ (.int .u8 a.toNat)).setCell ⟨rb,5,none⟩ (.int .u8 b.toNat)).setCell ⟨rb,6,none⟩ (.int .u8 c.toNat)).setCell ⟨rb,7,none⟩ (.int .u8 d.toNat)) { h with k0:=a,k1:=b,k2:=c,k3:=d }:=by
 constructor
 ·simp[go_sem,k.c0]
 ·simp[go_sem,k.c1]
 ·simp[go_sem,k.c2]
 ·simp[go_sem,k.c3]
 ·simp[go_sem,k.c4]
 ·simp[go_sem,k.c5]
 ·simp[go_sem,k.c6]
 ·simp[go_sem,k.c7]
 ·simp[go_sem,k.c8]
 ·simp[go_sem,k.c9]
 ·intro o;simp only[ag];exact k.fz o
theorem Am {w W:World}{rb:Nat}(g:Gr w W)(h:w.heap.size≤rb)(a b c d e f i j k l:Value) :
  Gr w ((((((((((W.setCell ⟨rb,0,none⟩ a).setCell ⟨rb,1,none⟩ b).setCell ⟨rb,2,none⟩ c).setCell ⟨rb,3,none⟩ d).setCell ⟨rb,4,none⟩ e).setCell ⟨rb,5,none⟩ f).setCell ⟨rb,6,none⟩ i).setCell ⟨rb,7,none⟩ j).setCell ⟨rb,8,none⟩ k).setCell ⟨rb,9,none⟩ l) :=
 (((((((((g.setCell h a).setCell h b).setCell h c).setCell h d).setCell h e).setCell h f).setCell h i).setCell h j).setCell h k).setCell h l
theorem nX (a b:UInt8)(t s:List UInt8)(hs:a :: b :: t=s)(n sm lv:Nat)(mk u:Bool)(q:b.toNat % 128=sm)(hn:eV sm+2=n)(o:decide (128≤b.toNat)=mk)
  (m:(if 2<n then yc ((s.take n).drop 2) else sm)=lv) (k:((cB lv:Int)==((eV sm:Nat):Int))=u) :
  ej s=if s.length<(if mk then n+4 else n) then none else some (⟨decide (128≤(a.toNat:Int)),a.toNat / 16 % 8,a.toNat % 16,mk,if mk then s.getD n 0 else 0,if mk then s.getD (n+1) 0 else 0,if mk then s.getD (n+2) 0 else 0,if mk then s.getD (n+3) 0 else 0,lv,u⟩,if mk then n+4 else n):=by
 have w:s.getD 0 0=a:=by rw[←hs];rfl
 have e:s.getD 1 0=b:=by rw[←hs];rfl
 have hl:2≤s.length:=by rw[←hs];simp
 have c:(b&&&127).toNat=sm:=by have:=Al ⟨b.toNat,b.toNat_lt⟩;simpa[q]using this
 have f:(a&&&15).toNat=a.toNat % 16:=by have:=Db ⟨a.toNat,a.toNat_lt⟩;simpa using this
 have v:((a >>> 4)&&&7).toNat=a.toNat / 16 % 8:=by have:=Ak ⟨a.toNat,a.toNat_lt⟩;simpa using this
 have r:fL s=n:=by unfold fL;rw[e,c];omega
 have g:(128≤b)=(mk=true):=by rw[←o];simp[UInt8.le_iff_toNat_le]
 have x:decide (128≤a)=decide (128≤(a.toNat:Int)):=by simp only[decide_eq_decide,UInt8.le_iff_toNat_le];constructor <;> intro h <;> (have y:(128:UInt8).toNat=128:=rfl) <;> omega
 have i:decide (128≤b)=mk:=by simp only[g];cases mk <;> rfl
 have d:ug s=lv:=by unfold ug;rw[r,e,c];exact m
 have p:jW s=if mk then n+4 else n:=by unfold jW;rw[e,r];simp only[g]
 have l:(cB lv==n - 2)=u:=by
  rw[←k,show n - 2=eV sm by omega];cases h:(cB lv==eV sm)
  ·have:=qk.1 h;exact(qk.2 (by omega)).symm
  ·have:=eq_of_beq h;rw[this];simp
 unfold ej;rw[p];by_cases j:s.length<(if mk then n+4 else n)
 ·rw[if_pos (.inr j),if_pos j]
 ·rw[if_neg (by rintro (h | h) <;> omega),if_neg j];unfold mkH lH;rw[w,e,d,r,v,f,l,x,i];simp only[g,Nat.add_zero]
theorem nY (tmps:Array Value)(rb:Nat)(W:World)(h:Hd)(n:Int)(k:HdC rb W h)(a:tmps[2]?=some (.pointer (some ⟨rb,0,none⟩)))(b:tmps[3]?=some (.int .i64 n))(c:tmps[4]?=some (.bool true)) :
  (results Tryz.f224 tmps).run prog W=.ok (.tuple #[h.V,.int .i64 n,.bool true]) W:=by
 obtain⟨d,e,g,i,j,l,m,o,p,q,r⟩:=k;simp[results,results224,go_sem,Hd.V,d,e,g,i,j,l,m,o,p,q,a,b,c]
theorem wt (a b:UInt8)(t:List UInt8)(W:World)(ht:t.length≤4611686018427387900) :
  Calls prog 224 #[.string ⟨(a :: b :: t).toArray⟩] W λe w'=>e=.returned (l9 (a :: b :: t))∧Gr W w':=by
 obtain⟨s,hs⟩:∃s,(a :: b :: t)=s:=⟨_,rfl⟩;have hl:s.length=t.length+2:=by rw[←hs];rfl
 have h0:(⟨s.toArray⟩:ByteArray)[0]'(by rw[aj];omega)=a:=by subst hs;rfl
 have h1:(⟨s.toArray⟩:ByteArray)[1]'(by rw[aj];omega)=b:=by subst hs;rfl
 have ha:=a.toNat_lt;have hb:=b.toNat_lt;have d3:(a.toNat:Int)<256:=by omega
 have d4:(b.toNat:Int)<256:=by omega
 have d6:(2:Int)≤s.length:=by omega
 have c6:¬(s.length:Int)<2:=by omega
 have y:=Da ⟨a.toNat,ha⟩;have L:=Aj ⟨b.toNat,hb⟩;dsimp only at y L;obtain⟨w1,a3⟩:∃w1,W.alloc (.cells #[.bool false,.int .i64 0,.int .i64 0,.bool false,.int .u8 0,.int .u8 0,.int .u8 0,.int .u8 0,.int .u64 0,.bool false] 152)=w1:=⟨_,rfl⟩;have b3:=qq (a3▸Eu W 152:HdC W.heap.size w1 hd0);have a6:=qq (a3▸Gr.alloc W _:Gr W w1);haveI:Nonempty (Later (Gr w1)):=⟨⟨_,Gr.refl _⟩⟩;obtain⟨rv,a2⟩:∃rv,a.toNat / 16 % 8=rv:=⟨_,rfl⟩;obtain⟨g,M⟩:∃g,a.toNat % 16=g:=⟨_,rfl⟩;have c9:(a.toNat:Int) % 16=(g:Int):=by omega
 rw[a2]at y;obtain⟨sm,F⟩:∃sm,b.toNat % 128=sm:=⟨_,rfl⟩;have d0:(b.toNat:Int) % 128=(sm:Int):=by omega
 rw[F]at L;rw[hs];go_enter func224,ntmps224;go_upto_region 3 with(fail);go_cut [] (λwx=>HdC W.heap.size wx ⟨decide (128≤(a.toNat:Int)),rv,g,decide (128≤(b.toNat:Int)),0,0,0,0,0,false⟩∧Gr W wx)
 case first =>
  refine ak (C:=Gr w1) 16 (by kernel_rfl) (by kernel_rfl) (Gr.drew' _) ?_;simp only[List.take_succ_cons,List.take_zero,List.drop_succ_cons,List.drop_zero];repeat (go_big_quiet_step (fail))
  refine wpQuiet_nil ?_;intro N c;have b4:=b3.out.gr c;have b5:=qq b4;have f:=qq (a6.out.trans c);obtain⟨z0,z1,z2,O,R,S,T,U,z8,z9,zf⟩:=b4;clear c;go_wp2;go_meet;exact⟨b5.out.put10 _ _ _ _ _ _ _ _ _ _ rfl rfl rfl rfl rfl rfl rfl rfl rfl rfl,Am f.out (qv _) _ _ _ _ _ _ _ _ _ _⟩
 case rest =>
  obtain⟨hH,hg⟩:=hcut;have l:=qq hH;have D:=qq hg;obtain⟨z0,z1,z2,O,R,S,T,U,z8,z9,zf⟩:=hH;have a1:=qq (AA sm wc);obtain⟨m,hm⟩:∃m,eV sm=m:=⟨_,rfl⟩;have d7:m≤8:=hm▸Dc sm;rw[hm]at a1;obtain⟨n,hn⟩:∃n,m+2=n:=⟨_,rfl⟩;have d9:(2:Int)+(m:Int)=(n:Int):=by omega
  have c7:(n:Int) - 2=(m:Int):=by omega
  clear hg y a3 b3 a6 this;go_wp2_with fail;refine(a1.out).mono ?_;rintro e w2⟨rfl,rfl⟩;obtain⟨p,X⟩:∃p,(if 128≤b.toNat then n+4 else n)=p:=⟨_,rfl⟩;have Y:p≤14∧n≤p:=by rw[←X];split <;> omega
  have a0:decide (128≤(b.toNat:Int))=decide (128≤b.toNat):=by simp only[decide_eq_decide];omega
  obtain⟨mk,A⟩:∃mk,decide (128≤b.toNat)=mk:=⟨_,rfl⟩;rw[a0,A]at O;rw[a0,A]at l;have B:=qq A;have d:=qq (show p=if mk then n+4 else n by rw[←X,←A];simp);clear A a0 X a1;go_upto_if 36 with(fail);go_cut [6] (λv wx=>v=.int .i64 p∧wx=wc)
  case first =>
   cases mk with
   | true =>
    have k:=d.out;rw[if_pos rfl]at k;clear l;go_wp2;go_meet;exact⟨congrArg (Value.int .i64) (by omega),rfl⟩
   | false =>
    have k:=d.out;rw[if_neg (by decide)]at k;clear l;go_wp2;go_meet;exact⟨congrArg (Value.int .i64) (by omega),rfl⟩
  case rest =>
   obtain⟨rfl,rfl⟩:=hcut;by_cases c2:s.length<p
   ·have b2:(s.length:Int)<p:=(by omega);go_wp2;refine bodyPost_ret (v:=.tuple #[hd0.V,.int .i64 0,.bool false]) (by simp[results,results224,go_sem,Hd.V,hd0,z0,z1,z2,O,R,S,T,U,z8,z9]) rfl ⟨?_,Am D.out (qv _) _ _ _ _ _ _ _ _ _ _⟩;have E:=nX a b t s hs n sm _ mk _ F (hm▸hn) B.out rfl rfl;rw[←d.out,if_pos c2]at E;unfold l9;rw[E]
   ·have b2:¬(s.length:Int)<p:=(by omega);obtain⟨lv,o⟩:∃lv,(if 2<n then yc ((s.take n).drop 2) else sm)=lv:=⟨_,rfl⟩;have z:=qq o;have d2:=l.out.lt;have e4:n≤s.length:=(by omega);have Z:=qq (Dq ((s.take n).drop 2) (by simp;omega));have d1:(⟨s.toArray⟩:ByteArray).extract 2 n=⟨((s.take n).drop 2).toArray⟩:=(by rw[av]);have e5:n≤t.length+2:=(by omega);go_upto_if 48 with(fail);go_cut [] (λwx=>HdC W.heap.size wx ⟨decide (128≤(a.toNat:Int)),rv,g,mk,0,0,0,0,lv,false⟩∧Gr W wx)
    case first =>
     by_cases b0:2<n
     ·have b1:(2:Int)<n:=(by omega);rw[if_pos b0]at o;rw[o]at Z;clear o;go_wp2_with fail;refine(Z.out _).mono ?_;rintro e w3⟨rfl,rfl⟩;go_wp2;go_meet;exact⟨(l.out.setLen sm).setLen lv,(D.out.setCell (qv _) _).setCell (qv _) _⟩
     ·have b1:¬(2:Int)<n:=(by omega);clear o;go_wp2;go_meet;have e:=z.out;rw[if_neg b0]at e;subst e;exact⟨l.out.setLen sm,D.out.setCell (qv _) _⟩
    case rest =>
     obtain⟨a4,a7⟩:=hcut;have q:=qq a4;have J:=qq a7;have c1:=qq (jU lv);obtain⟨I,a9⟩:∃I,((cB lv:Int)==(m:Int))=I:=⟨_,rfl⟩;have d8:IntKind.i64.wrap (m:Int)=m:=IntWalk.i64_in _ (by omega);clear z0 z1 z2 O R S T U z8 z9 zf D o Z a4 a7;obtain⟨z0,z1,z2,O,R,S,T,U,z8,z9,zf⟩:=q.out;go_wp2_with fail;refine(c1.out _).mono ?_;rintro e w3⟨rfl,rfl⟩;go_upto_region 15 with(fail);obtain⟨w5,H⟩:∃w5,wc.setCell ⟨W.heap.size,9,none⟩ (.bool I)=w5:=⟨_,rfl⟩;rw[H];have a5:=qq (H▸q.out.setLeast I:HdC W.heap.size w5 ⟨decide (128≤(a.toNat:Int)),rv,g,mk,0,0,0,0,lv,I⟩);have a8:=qq (H▸J.out.setCell (qv _) _:Gr W w5);haveI:Nonempty (Later (Gr w5)):=⟨⟨_,Gr.refl _⟩⟩;have c4:p≤s.length:=(by omega);have c5:p≤t.length+2:=(by omega);have c8:n≤p:=Y.2;clear z0 z1 z2 O R S T U z8 z9 zf H q J;refine ak (C:=Gr w5) 6 (by kernel_rfl) (by kernel_rfl) (Gr.drew' _) ?_;simp only[List.take_succ_cons,List.take_zero,List.drop_succ_cons,List.drop_zero];cases mk with
     | true =>
      have k:=d.out;rw[if_pos rfl]at k;obtain⟨x0,e0⟩:∃x,s.getD n 0=x:=⟨_,rfl⟩;obtain⟨x1,e1⟩:∃x,s.getD (n+1) 0=x:=⟨_,rfl⟩;obtain⟨x2,e2⟩:∃x,s.getD (n+2) 0=x:=⟨_,rfl⟩;obtain⟨x3,e3⟩:∃x,s.getD (n+3) 0=x:=⟨_,rfl⟩;have c3:(⟨s.toArray⟩:ByteArray).extract n (n+4)=⟨#[x0,x1,x2,x3]⟩:=by
       rw[av];have:(s.take (n+4)).drop n=[x0,x1,x2,x3]:=by
        apply List.ext_getElem
        ·simp;omega
        ·intro i h1 h2;simp at h2;rw[List.getElem_drop,List.getElem_take];have hi:i=0∨i=1∨i=2∨i=3:=(by omega);rcases hi with rfl | rfl | rfl | rfl
         ·rw[←e0];simp[List.getD_eq_getElem?_getD,List.getElem?_eq_getElem (show n<s.length by omega)]
         ·rw[←e1];simp[List.getD_eq_getElem?_getD,List.getElem?_eq_getElem (show n+1<s.length by omega)]
         ·rw[←e2];simp[List.getD_eq_getElem?_getD,List.getElem?_eq_getElem (show n+2<s.length by omega)]
         ·rw[←e3];simp[List.getD_eq_getElem?_getD,List.getElem?_eq_getElem (show n+3<s.length by omega)]
       rw[this]
      have b6:=qq e0;have b7:=qq e1;have b8:=qq e2;have b9:=qq e3;clear e0 e1 e2 e3;(repeat (go_big_quiet_step (fail)));refine wpQuiet_nil ?_;intro N c;have r:=a5.out.gr c;have u:=qq r;have f:=qq (a8.out.trans c);obtain⟨z0,z1,z2,O,R,S,T,U,z8,z9,zf⟩:=r;have c0:∀ty,(Builtin.copy_ #[100,9] ty #[.slice (some ⟨W.heap.size,4,none⟩) 4 4,.string ⟨#[x0,x1,x2,x3]⟩]).run prog N=.ok (goInt 4) ((((N.setCell ⟨W.heap.size,4,none⟩ (.int .u8 x0.toNat)).setCell ⟨W.heap.size,5,none⟩ (.int .u8 x1.toNat)).setCell ⟨W.heap.size,6,none⟩ (.int .u8 x2.toNat)).setCell ⟨W.heap.size,7,none⟩ (.int .u8 x3.toNat)):=λty=>by
       have h:=run_copy_string (P:=prog) N 100 9 ty 5 W.heap.size 4 4 4 ⟨#[x0,x1,x2,x3]⟩ underlying100 (by intro w;rfl) (qv 4) (λj hj=>by
        have d5:j<4:=hj;have hi:j=0∨j=1∨j=2∨j=3:=(by omega);rcases hi with rfl | rfl | rfl | rfl
        ·rw[R];rfl
        ·rw[S];rfl
        ·rw[T];rfl
        ·rw[U];rfl) (λj _=>zf _)
       exact h
      go_wp2;refine bodyPost_ret (v:=.tuple #[(⟨decide (128≤(a.toNat:Int)),rv,g,true,x0,x1,x2,x3,lv,I⟩:Hd).V,.int .i64 ((n:Int)+4),.bool true]) ?hr rfl ⟨?_,?_⟩
      case hr=>exact nY _ W.heap.size _ _ _ ((u.out.setKeys x0 x1 x2 x3).put10 _ _ _ _ _ _ _ _ _ _ rfl rfl rfl rfl rfl rfl rfl rfl rfl rfl) rfl rfl rfl
      ·have E:=nX a b t s hs n sm lv true I F (hm▸hn) B.out z.out (hm▸a9);rw[if_pos rfl,if_neg (by omega)]at E;unfold l9;rw[E];simp only[if_true,b6.out,b7.out,b8.out,b9.out,a2,M];simp
      ·exact Am ((((f.out.setCell (qv _) _).setCell (qv _) _).setCell (qv _) _).setCell (qv _) _) (qv _) _ _ _ _ _ _ _ _ _ _
     | false =>
      have k:=d.out;rw[if_neg (by decide)]at k;have c3:(⟨s.toArray⟩:ByteArray).extract n n=⟨#[]⟩:=by
       rw[av];have:(s.take n).drop n=[]:=(by apply List.drop_eq_nil_of_le;simp;omega);rw[this]
      (repeat (go_big_quiet_step (fail)));refine wpQuiet_nil ?_;intro N c;have r:=a5.out.gr c;have u:=qq r;have f:=qq (a8.out.trans c);obtain⟨z0,z1,z2,O,R,S,T,U,z8,z9,zf⟩:=r;have c0:∀ty,(Builtin.copy_ #[100,9] ty #[.slice (some ⟨W.heap.size,4,none⟩) 4 4,.string ByteArray.empty]).run prog N=.ok (goInt 0) N:=λty =>
       Lib.run_copy_empty_string (P:=prog) N 100 9 ty 5 _ 4 4 ByteArray.empty underlying100 (by rfl) rfl
      go_wp2;refine bodyPost_ret (v:=.tuple #[(⟨decide (128≤(a.toNat:Int)),rv,g,false,0,0,0,0,lv,I⟩:Hd).V,.int .i64 n,.bool true]) ?hr rfl ⟨?_,?_⟩
      case hr=>exact nY _ W.heap.size _ _ _ (u.out.put10 _ _ _ _ _ _ _ _ _ _ rfl rfl rfl rfl rfl rfl rfl rfl rfl rfl) rfl rfl rfl
      ·have E:=nX a b t s hs n sm lv false I F (hm▸hn) B.out z.out (hm▸a9);simp only[Bool.false_eq_true,if_false]at E;rw[if_neg (by omega)]at E;unfold l9;rw[E];simp[a2,M]
      ·exact Am f.out (qv _) _ _ _ _ _ _ _ _ _ _
theorem jT (s:List UInt8)(W:World)(hs:s.length≤4611686018427387900) :
  Calls prog 224 #[.string ⟨s.toArray⟩] W λe w'=>e=.returned (l9 s)∧Gr W w':=by
 match s,hs with
 | [],_=>exact ma [] (by decide) W
 | [a],_=>exact ma [a] (by simp) W
 | a :: b :: t,h=>exact wt a b t W (by simp at h;omega)
def pt (h:Hd)(a:Nat)(s:List UInt8)(k j:Nat):UInt8:=if j<k then s.getD j 0^^^mE h (a % 4+j) else s.getD j 0
theorem Ft (h:Hd)(a:Nat)(s:List UInt8)(j:Nat)(c:j<(df h a s).length):(df h a s)[j]=pt h a s s.length j:=by
 have b:j<s.length:=by rwa [dI]at c
 unfold pt;rw[if_pos b];simp[df,List.getD_eq_getElem?_getD,List.getElem?_eq_getElem b]
structure MkF (h:Hd)(a:Nat)(s:List UInt8)(kb R:Nat)(k:Nat)(W w:World):Prop where
 gr:Gr W w
 row:∀j,j<s.length→w.cell? ⟨R,j,none⟩=some (.int .u8 (pt h a s k j).toNat)
 fz:∀j,j<s.length→w.frozen? ⟨R,j,none⟩=false
 key:∀i,i<4→w.cell? ⟨kb,i,none⟩=some (.int .u8 (mE h i).toNat)
theorem Dd (h:Hd)(i:Nat):mE h (i % 4)=mE h i:=by unfold mE;simp
theorem Ev (w:World)(e:TypeId)(s:List UInt8)(j:Nat)(a:j<s.length):(Lib.bytesWorld w e ⟨s.toArray⟩).frozen? ⟨w.heap.size,j,none⟩=false:=by
 have h:=Lib.bytesWorld_at_new w e ⟨s.toArray⟩;have b:s.length≤(Lib.bytesCells w e ⟨s.toArray⟩).size:=by simp[Lib.bytesCells]
 simp only[World.frozen?,h,Bool.and_eq_false_iff,decide_eq_false_iff_not];omega
theorem pS (h:Hd)(a:Nat)(s:List UInt8)(W:World)(hs:s.length≤4611686018427387900) :
  Calls prog 78 #[.agg #[.int .u8 h.k0.toNat,.int .u8 h.k1.toNat,.int .u8 h.k2.toNat,.int .u8 h.k3.toNat],.int .i64 a,.string ⟨s.toArray⟩] W λe w'=>e=.returned (.string ⟨(df h a s).toArray⟩)∧Gr W w':=by
 have J:∀W:World,(convert 9 100 (.string ⟨s.toArray⟩)).run prog W=.ok (.slice (some ⟨W.heap.size,0,none⟩) (ByteArray.size ⟨s.toArray⟩) (grownCap W (ByteArray.size ⟨s.toArray⟩) 0 5)) (Lib.bytesWorld W 5 ⟨s.toArray⟩):=λW =>
  Lib.run_convert_string_bytes W _ _ 5 _ underlying9 underlying100 underlying5
 have X:¬(a:Int)<0:=by omega
 obtain⟨b,g⟩:∃b,W.alloc (.cells #[.int .u8 h.k0.toNat,.int .u8 h.k1.toNat,.int .u8 h.k2.toNat,.int .u8 h.k3.toNat] 54)=b:=⟨_,rfl⟩;have B:Gr W b:=g▸Gr.alloc _ _;have x:∀i,i<4→b.cell? ⟨W.heap.size,i,none⟩=some (.int .u8 (mE h i).toNat):=λi hi=>by
  rw[←g]
  match i,hi with
  | 0,_=>exact aa _ _ _ 0 _ rfl
  | 1,_=>exact aa _ _ _ 1 _ rfl
  | 2,_=>exact aa _ _ _ 2 _ rfl
  | 3,_=>exact aa _ _ _ 3 _ rfl
 obtain⟨W2,l⟩:∃W2,Lib.bytesWorld b 5 ⟨s.toArray⟩=W2:=⟨_,rfl⟩;have D:Gr b W2:=l▸Lib.bytesWorld_below b 5 ⟨s.toArray⟩;obtain⟨cap,u⟩:∃cap,grownCap b s.length 0 5=cap:=⟨_,rfl⟩;have O:=qq (show MkF h a s W.heap.size b.heap.size 0 W W2 from⟨B.trans D,λj n=>by
   rw[←l,Lib.bytesWorld_cell b _ _ j (by rw[aj];exact n)];unfold pt;rw[if_neg (Nat.not_lt_zero _)],λj n=>l▸Ev b _ s j n,λi hi=>D.cell (x i hi)⟩)
 have E:=qq (show W.heap.size≠b.heap.size by rw[←g];simp);have F:=qq (Below.size B);clear B D x;go_enter func78,ntmps78;go_wp2;clear J g l u;go_loopw [8,16] (λ_ i wr=>∃k:Nat,k≤s.length∧i=.int .i64 k∧MkF h a s W.heap.size b.heap.size k W wr) (λ_ i _=>s.length - (intOf i).toNat)
 case atStart=>exact⟨0,qx _,rfl,O.out⟩
 case round =>
  obtain⟨k,hk,rfl,hM⟩:=hrel;have f:=qq hM;by_cases t:k<s.length
  ·have A:=hM.row k t;have V:=hM.fz k t;obtain⟨c,H⟩:∃c,pt h a s k k=c:=⟨_,rfl⟩;rw[H]at A;obtain⟨q,U⟩:∃q,(a % 4+k) % 4=q:=⟨_,rfl⟩;have N:q<4:=(by omega);have R:=hM.key q N;obtain⟨o,r⟩:∃o,mE h q=o:=⟨_,rfl⟩;rw[r]at R;have a1:((a:Int) % 4+k) % 4=q:=(by omega);have a0:(k:Int)<s.length:=(by omega);have hx:bits .xor .u8 (c.toNat:Int) (o.toNat:Int)=((c^^^o).toNat:Int):=by
    rw[Go.u8_xor_nat c.toNat o.toNat c.toNat_lt o.toNat_lt,UInt8.toNat_xor]
   haveI:Nonempty (Later (Gr wr)):=⟨⟨wr,Gr.refl wr⟩⟩;have t0:∀y:Later (Gr wr),y.w.cell? ⟨b.heap.size,k,none⟩=some (.int .u8 c.toNat):=λy=>y.ok.cell A;have t1:∀y:Later (Gr wr),y.w.cell? ⟨W.heap.size,q,none⟩=some (.int .u8 o.toNat):=λy=>y.ok.cell R;have a3:IntKind.i64.wrap ((a:Int) % 4+k)=(a:Int) % 4+k:=IntWalk.i64_in _ (by omega);have a2:((a:Int).tmod 4)=(a:Int) % 4:=Int.tmod_eq_emod_of_nonneg (by omega);have a4:(((a:Int) % 4+k).tmod 4)=((a:Int) % 4+k) % 4:=Int.tmod_eq_emod_of_nonneg (by omega);have I:=qq H;have z:=qq r;have M:=qq U;clear hM H r U;go_upto_region 7 with(fail);refine ak (C:=Gr wr) 13 (by kernel_rfl) (by kernel_rfl) (Gr.drew' _) ?_;simp only[List.take_succ_cons,List.take_zero,List.drop_succ_cons,List.drop_zero];(repeat (go_big_quiet_step (fail)));refine wpQuiet_nil ?_;intro w9 m;have T:b.heap.size<wr.heap.size:=ae A;have s0:=m.cell A;have sz:w9.frozen? ⟨b.heap.size,k,none⟩=false:=(Below.frozen m (p:=⟨b.heap.size,k,none⟩) T).trans V;have d:=qq m;clear t0 t1 m A R V;go_wp2;go_round
   case rel =>
    refine⟨k+1,t,by go_num,⟨(f.out.gr.trans d.out).setCell F.out _,λj n=>?_,λj n=>?_,λi hi=>?_⟩⟩
    ·by_cases v:j=k
     ·subst v;rw[af s0];have e:pt h a s (j+1) j=c^^^o:=by
       rw[←I.out,←z.out,←M.out,Dd];unfold pt;rw[if_pos (Nat.lt_succ_self j),if_neg (Nat.lt_irrefl j)]
      rw[e,UInt8.toNat_xor]
     ·have e:pt h a s (k+1) j=pt h a s k j:=by
       unfold pt;by_cases S:j<k
       ·rw[if_pos (by omega),if_pos S]
       ·rw[if_neg (by omega),if_neg S]
      rw[e];exact ac (d.out.cell (f.out.row j n)) v
    ·rw[ag];exact(Below.frozen d.out (p:=⟨b.heap.size,j,none⟩) T).trans (f.out.fz j n)
    ·exact ai (d.out.cell (f.out.key i hi)) (λe=>E.out e.symm)
   case measure=>simp[intOf];omega
  ·obtain rfl:k=s.length:=(by omega);have Y:(convert 100 9 (.slice (some ⟨b.heap.size,0,none⟩) s.length cap)).run prog wr=.ok (.string ⟨(df h a s).toArray⟩) wr:=by
    have Z:=run_convert_bytes_back (P:=prog) wr 100 9 5 ⟨b.heap.size,0,none⟩ cap (df h a s) underlying100 underlying5 underlying9 (λj n=>by
     have L:j<s.length:=(by rwa [dI]at n);rw[Addr.add_mid,Nat.zero_add,hM.row j L,Ft])
    rwa [dI]at Z
   clear hM;go_wp2;go_ret;exact⟨rfl,f.out.gr⟩
structure HdO (b o:Nat)(W:World)(h:Hd):Prop where
 c0:W.cell? ⟨b,o,none⟩=some (.bool h.fin)
 c1:W.cell? ⟨b,o+1,none⟩=some (.int .i64 h.rsv)
 c2:W.cell? ⟨b,o+2,none⟩=some (.int .i64 h.op)
 c3:W.cell? ⟨b,o+3,none⟩=some (.bool h.masked)
 c4:W.cell? ⟨b,o+4,none⟩=some (.int .u8 h.k0.toNat)
 c5:W.cell? ⟨b,o+5,none⟩=some (.int .u8 h.k1.toNat)
 c6:W.cell? ⟨b,o+6,none⟩=some (.int .u8 h.k2.toNat)
 c7:W.cell? ⟨b,o+7,none⟩=some (.int .u8 h.k3.toNat)
 c8:W.cell? ⟨b,o+8,none⟩=some (.int .u64 h.len)
 c9:W.cell? ⟨b,o+9,none⟩=some (.bool h.least)
structure FrS (b:Nat)(W:World)(r:Fr):Prop where
 c0:W.cell? ⟨b,0,none⟩=some (.bool true)
 c1:W.cell? ⟨b,1,none⟩=some (.int .i64 r.st)
 c2:W.cell? ⟨b,2,none⟩=some (.string ⟨r.inp.toArray⟩)
 h:HdO b 3 W r.h
 c13:W.cell? ⟨b,13,none⟩=some (.int .i64 r.told)
 fz:∀o,W.frozen? ⟨b,o,none⟩=false
theorem FrS.lt {b:Nat}{W:World}{r:Fr}(k:FrS b W r):b<W.heap.size:=ae k.c0
theorem HdO.ch {b o:Nat}{T:Nat→Prop}{W c:World}{h:Hd}(k:HdO b o W h)(f:Ch T W c)(e:¬T b):HdO b o c h :=
 have a:∀ {j v},W.cell? ⟨b,j,none⟩=some v→c.cell? ⟨b,j,none⟩=some v:=fun {j v} d=>(f.cell (p:=⟨b,j,none⟩) (ae d) e).trans d
 ⟨a k.c0,a k.c1,a k.c2,a k.c3,a k.c4,a k.c5,a k.c6,a k.c7,a k.c8,a k.c9⟩
theorem HdO.off {b o i:Nat}{W:World}{h:Hd}{v:Value}(k:HdO b o W h)(hi:i<o∨o+10≤i):HdO b o (W.setCell ⟨b,i,none⟩ v) h :=
 ⟨ac k.c0 (by omega),ac k.c1 (by omega),ac k.c2 (by omega),ac k.c3 (by omega),ac k.c4 (by omega),ac k.c5 (by omega),ac k.c6 (by omega),ac k.c7 (by omega),ac k.c8 (by omega),ac k.c9 (by omega)⟩
theorem FrS.ch {b:Nat}{T:Nat→Prop}{W c:World}{r:Fr}(k:FrS b W r)(e:Ch T W c)(d:¬T b):FrS b c r :=
 have a:∀ {j v},W.cell? ⟨b,j,none⟩=some v→c.cell? ⟨b,j,none⟩=some v:=fun {j v} f=>(e.cell (p:=⟨b,j,none⟩) (ae f) d).trans f
 ⟨a k.c0,a k.c1,a k.c2,k.h.ch e d,a k.c13,λo=>(e.frozen (p:=⟨b,o,none⟩) k.lt d).trans (k.fz o)⟩
theorem FrS.gr {b:Nat}{W a:World}{r:Fr}(k:FrS b W r)(g:Gr W a):FrS b a r:=k.ch (g.to_ch (λ_=>False)) id
theorem FrS.setSt {b:Nat}{W:World}{r:Fr}(k:FrS b W r)(n:Nat):FrS b (W.setCell ⟨b,1,none⟩ (.int .i64 n)) { r with st:=n } :=
 ⟨ac k.c0 (by decide),af k.c1,ac k.c2 (by decide),k.h.off (by omega),ac k.c13 (by decide),λo=>by rw[ag];exact k.fz o⟩
theorem FrS.setInp {b:Nat}{W:World}{r:Fr}(k:FrS b W r)(s:List UInt8):FrS b (W.setCell ⟨b,2,none⟩ (.string ⟨s.toArray⟩)) { r with inp:=s } :=
 ⟨ac k.c0 (by decide),ac k.c1 (by decide),af k.c2,k.h.off (by omega),ac k.c13 (by decide),λo=>by rw[ag];exact k.fz o⟩
theorem FrS.setTold {b:Nat}{W:World}{r:Fr}(k:FrS b W r)(n:Nat):FrS b (W.setCell ⟨b,13,none⟩ (.int .i64 n)) { r with told:=n } :=
 ⟨ac k.c0 (by decide),ac k.c1 (by decide),ac k.c2 (by decide),k.h.off (by omega),af k.c13,λo=>by rw[ag];exact k.fz o⟩
def nZ (r:Fr):Prop:=r.inp.length≤4611686018427387900∧r.h.len≤9223372036854775807∧r.told≤r.h.len∧r.st≤2
theorem An (W:World):Calls prog 65 #[.bool true] W λe w'=>e=.returned (.pointer (some ⟨W.heap.size,0,none⟩))∧FrS W.heap.size w' fr0∧Gr W w'∧w'.heap.size=W.heap.size+1:=by
 go_enter func65,ntmps65;go_wp2;go_ret;refine⟨rfl,⟨aa _ _ _ 0 _ rfl,aa _ _ _ 1 _ rfl,aa _ _ _ 2 _ rfl,⟨aa _ _ _ 3 _ rfl,aa _ _ _ 4 _ rfl,aa _ _ _ 5 _ rfl,aa _ _ _ 6 _ rfl,aa _ _ _ 7 _ rfl,aa _ _ _ 8 _ rfl,aa _ _ _ 9 _ rfl,aa _ _ _ 10 _ rfl,aa _ _ _ 11 _ rfl,aa _ _ _ 12 _ rfl⟩,aa _ _ _ 13 _ rfl,λ_=>World.frozen?_alloc_at _ _ _ _ rfl⟩,Gr.alloc _ _,by simp⟩
theorem wu (b:Nat)(W:World)(r:Fr)(s:List UInt8)(k:FrS b W r)(hs:r.inp.length+s.length≤4611686018427387900) :
  Calls prog 66 #[.pointer (some ⟨b,0,none⟩),.string ⟨s.toArray⟩] W λe w'=>e=.returned (.tuple #[])∧FrS b w' (bp r s)∧Ch (λj=>j=b) W w':=by
 have f:=qq k;have c1:=k.c1;have c2:=k.c2;have fz:=k.fz;clear k;by_cases h:r.st=2
 ·have c:=qq (show bp r s=r by unfold bp;rw[if_pos h]);rw[h]at c1;go_enter func66,ntmps66;go_wp2;go_end0;exact⟨rfl,by rw[c.out];exact f.out,Ch.refl _ _⟩
 ·have c:=qq (show bp r s={ r with inp:=r.inp++s } by unfold bp;rw[if_neg h]);have i:((r.st:Int)==2)=false:=qk.2 (by omega);obtain⟨p,g⟩:∃p,r.inp=p:=⟨_,rfl⟩;rw[g]at c2 hs c;have d:(⟨p.toArray⟩:ByteArray)++(⟨s.toArray⟩:ByteArray)=⟨(p++s).toArray⟩:=aL _ _;go_enter func66,ntmps66;go_wp2;go_end0;exact⟨rfl,by rw[c.out];exact f.out.setInp _,Ch.setCell (T:=λj=>j=b) _ (a:=⟨b,2,none⟩) rfl _⟩
