/-
  The document's frames: their bytes. (Printed by mk_em.py.)
-/
import Derived.Test.YtadobobfjnmdlaaGreatDoorEj
set_option linter.unnecessarySimpa false
set_option linter.unusedVariables false
set_option linter.unusedSimpArgs false
set_option maxHeartbeats 16000000
set_option maxRecDepth 100000
open Go.Proofs.Tryz
namespace Go.Proofs.YtadobobfjnmdlaaGreatDoor
open Go.RowKit Go.Shelf
attribute [local go_sem] Oper.semAt_some
theorem eE (W:World)(l:List Value)(t:TypeId):∀j u,l[j]?=some u→(W.alloc (.cells l.toArray t)).cell? ((⟨W.heap.size,0,none⟩:Addr).add j)=some u:=λj u h=>by
 have:=aa W l t j u h;by_cases e:j=0
 ·subst e;simpa[Addr.add]using this
 ·simp only[Addr.add,e];simpa using this
theorem lK (k0 k1 k2 k3:UInt8)(s:List UInt8)(W:World)(hs:s.length≤100000)(y:Later (Gr W)) :
  Calls prog 58 #[.agg #[.int .u8 k0.toNat,.int .u8 k1.toNat,.int .u8 k2.toNat,.int .u8 k3.toNat],.int .i64 0,.string ⟨s.toArray⟩] y.w λe w'=>e=.returned (.string ⟨(eH k0 k1 k2 k3 0 s).toArray⟩)∧∃z:Later (Gr W),w'=z.w :=
 Calls.later ((yu k0 k1 k2 k3 s y.w hs).mono λ_ w' ⟨a,c⟩=>⟨a,y.ok.trans c⟩)
theorem fc (s:List UInt8)(W:World)(hs:s.length≤100000)(y:Later (Gr W)) :
  Calls prog 58 #[.agg #[.int .u8 0,.int .u8 0,.int .u8 0,.int .u8 0],.int .i64 0,.string ⟨s.toArray⟩] y.w λe w'=>e=.returned (.string ⟨s.toArray⟩)∧∃z:Later (Gr W),w'=z.w:=by
 have h:=lK 0 0 0 0 s W hs y;rw[uz]at h;exact h
theorem qo (s:List UInt8)(W:World)(hs:s.length≤100000)(y:Later (Gr W)) :
  Calls prog 58 #[.agg #[.int .u8 1,.int .u8 2,.int .u8 3,.int .u8 4],.int .i64 0,.string ⟨s.toArray⟩] y.w λe w'=>e=.returned (.string ⟨(eH 1 2 3 4 0 s).toArray⟩)∧∃z:Later (Gr W),w'=z.w :=
 lK 1 2 3 4 s W hs y
def rP (op:Nat)(s:List UInt8):List UInt8:=[UInt8.ofNat (128+op),UInt8.ofNat (128+s.length),1,2,3,4]++eH 1 2 3 4 0 s
theorem oF (op:Nat)(s:List UInt8)(W:World)(h:op≤15)(hn:s.length≤125):Calls prog 29 #[.agg #[.bool true,.int .i64 0,.int .i64 op,.bool false,.int .u8 0,.int .u8 0,.int .u8 0,.int .u8 0,.string ⟨s.toArray⟩]] W λe w'=>e=.returned (.tuple #[.string ⟨(dC op s).toArray⟩,.int .i64 0])∧Gr W w':=by
 have h0:¬(op:Int)<0:=by omega
 have h1:¬(15:Int)<(op:Int):=by omega
 obtain⟨k,r⟩:∃y,UInt8.ofNat (128+op)=y:=⟨_,rfl⟩;have U:(k.toNat:Int)=(op:Int)+128:=by rw[←r];simp[UInt8.toNat_ofNat'] <;> omega
 have S:IntKind.i64.wrap ((op:Int)+128)=(op:Int)+128:=IntWalk.i64_in _ (by omega);obtain⟨i0,hi,Y,Z,a0⟩:=info_parts bL;have X:s.length≤100000:=by omega
 have q:dC op s=[UInt8.ofNat (128+op),UInt8.ofNat s.length]++s:=by unfold dC;rw[if_neg (by omega)];unfold ul;rw[if_pos hn];rfl
 obtain⟨x,t⟩:∃y,UInt8.ofNat s.length=y:=⟨_,rfl⟩;have V:(x.toNat:Int)=(s.length:Int):=by rw[←t];simp[UInt8.toNat_ofNat'] <;> omega
 rw[r,t]at q;have hv:=qq q;clear q r t;go_enter func29,ntmps29;go_upto_region 13 with(fail);obtain⟨c,a⟩:∃c,(W.alloc (.cells #[.bool true,.int .i64 0,.int .i64 op,.bool false,.int .u8 0,.int .u8 0,.int .u8 0,.int .u8 0,.string ⟨s.toArray⟩] 56)).alloc (.cells #[.int .u8 ((op:Int)+128)] 5)=c:=⟨_,rfl⟩;try rw[a]
 have g4:Gr W c:=by rw[←a];exact(Gr.alloc _ _).alloc1 _
 have s4:W.heap.size+1≤c.heap.size:=by rw[←a];simp
 have e3:c.cell? ⟨W.heap.size,3,none⟩=some (.bool false):=by rw[←a];exact(Gr.alloc _ _).cell (aa _ _ _ 3 _ rfl)
 have e4:c.cell? ⟨W.heap.size,4,none⟩=some (.int .u8 0):=by rw[←a];exact(Gr.alloc _ _).cell (aa _ _ _ 4 _ rfl)
 have F:c.cell? ⟨W.heap.size,5,none⟩=some (.int .u8 0):=by rw[←a];exact(Gr.alloc _ _).cell (aa _ _ _ 5 _ rfl)
 have H:c.cell? ⟨W.heap.size,6,none⟩=some (.int .u8 0):=by rw[←a];exact(Gr.alloc _ _).cell (aa _ _ _ 6 _ rfl)
 have I:c.cell? ⟨W.heap.size,7,none⟩=some (.int .u8 0):=by rw[←a];exact(Gr.alloc _ _).cell (aa _ _ _ 7 _ rfl)
 have J:c.cell? ⟨W.heap.size,8,none⟩=some (.string ⟨s.toArray⟩):=by rw[←a];exact(Gr.alloc _ _).cell (aa _ _ _ 8 _ rfl)
 have o4:c.ownsRow (W.heap.size+1) 5 1 (.slice (some ⟨W.heap.size+1,0,none⟩) 1 1) 1 (am [k]):=by
  have hl:=World.ownsRow_lit (base:=W.heap.size+1) (size:=1) (e:=5) (W.alloc (.cells #[.bool true,.int .i64 0,.int .i64 op,.bool false,.int .u8 0,.int .u8 0,.int .u8 0,.int .u8 0,.string ⟨s.toArray⟩] 56)) #[.int .u8 ((op:Int)+128)] 1 (by simp) (by decide) rfl;rw[World.size_alloc,a]at hl;have e:am [k]=#[Value.int .u8 ((op:Int)+128)].toList:=by rw[cY,U];rfl
  rw[e];exact hl
 have a1:=qq o4;have L:=qq g4;have E:=qq s4;have D:∀O,(c.alloc O).ownsRow (W.heap.size+1) 5 1 (.slice (some ⟨W.heap.size+1,0,none⟩) 1 1) 1 (am [k]):=λO=>World.ownsRow.alloc a1.out O;have A:∀j u,([.int .u8 (s.length:Int)]:List Value)[j]?=some u→(c.alloc (.cells ([.int .u8 (s.length:Int)]:List Value).toArray 5)).cell? ((⟨c.heap.size,0,none⟩:Addr).add j)=some u:=eE c _ _;clear a g4 s4 o4;go_wp2_with (at_builtin;refine wpList_append_own _ rfl _ _ 100 rfl (W.heap.size+1) 5 i0 (.int .u8 0) 1 1 underlying100 hi Y Z a0 rfl (by decide) _ _ _ rfl (D _) ⟨c.heap.size,0,none⟩ 1 1 [.int .u8 (s.length:Int)] rfl rfl A (by simp[Value.oneCell']) (by unfold maxLen;decide) (by decide) (by simp;have:=E.out;omega) ?_);intro v5 g i f _;have l:Ch (λj=>j=W.heap.size+1) c g:=(((Gr.alloc c _).to_ch _).trans (dx f)).mono (λj e=>by simpa[Value.ownBlock,eq_comm]using e);have hE:¬(W.heap.size=W.heap.size+1):=by omega
 have o:∀ {j u},c.cell? ⟨W.heap.size,j,none⟩=some u→g.cell? ⟨W.heap.size,j,none⟩=some u:=fun {j u} hh=>(l.cell (p:=⟨W.heap.size,j,none⟩) (ae hh) hE).trans hh;replace e3:=o e3;replace e4:=o e4;replace F:=o F;replace H:=o H;replace I:=o I;replace J:=o J;have M:=qq (L.out.ch l (λj e=>by rw[show j=W.heap.size+1 from e];exact Nat.le_succ _));have a3:=qq (qy E.out l.size);have d:OwnB (W.heap.size+1) g v5 [k,x]:=by
  have e:am [k,x]=am [k]++[.int .u8 (s.length:Int)]:=by
   simp only[am,List.map,List.cons_append,List.nil_append];rw[V]
  unfold OwnB;rw[e];exact i
 have m:=qq d;obtain⟨p5,z,rfl⟩:=d.slice;clear d i f l o A D;haveI:Nonempty (Later (Gr g)):=⟨⟨g,Gr.refl g⟩⟩;have N:∀y:Later (Gr g),(convert 100 9 (.slice p5 2 z)).run prog y.w=.ok (.string ⟨([k,x]:List UInt8).toArray⟩) y.w:=λy=>fE (dG m.out y.ok);have t4:∀y:Later (Gr g),y.w.cell? ⟨W.heap.size,4,none⟩=some (.int .u8 0):=λy=>y.ok.cell e4;have t5:∀y:Later (Gr g),y.w.cell? ⟨W.heap.size,5,none⟩=some (.int .u8 0):=λy=>y.ok.cell F;have t6:∀y:Later (Gr g),y.w.cell? ⟨W.heap.size,6,none⟩=some (.int .u8 0):=λy=>y.ok.cell H;have t7:∀y:Later (Gr g),y.w.cell? ⟨W.heap.size,7,none⟩=some (.int .u8 0):=λy=>y.ok.cell I;have t8:∀y:Later (Gr g),y.w.cell? ⟨W.heap.size,8,none⟩=some (.string ⟨s.toArray⟩):=λy=>y.ok.cell J;have R:=qq (fc s g X);have a2:(⟨([k,x]:List UInt8).toArray⟩:ByteArray)++(⟨(s).toArray⟩:ByteArray)=⟨([k,x]++s).toArray⟩:=aL _ _;go_upto_region 24 with(fail);clear e3 e4 F H I J;refine ah (C:=Gr g) (by kernel_rfl) (by kernel_rfl) (Gr.drew' _) ?_;repeat (go_big_quiet_step (with_reducible exact R.out _))
 refine wpQuiet_nil ?_;intro w9 B;have P:=qq (M.out.trans B);clear t4 t5 t6 t7 t8 N B;go_wp2;refine bodyPost_ret (v:=.tuple #[.string ⟨([k,x]++s).toArray⟩,.int .i64 0]) (by simp[results,results29,go_sem]) rfl ⟨by rw[hv.out],P.out⟩
theorem rQ (op:Nat)(s:List UInt8)(W:World)(h:op≤15)(hn:125<s.length∧s.length≤65535):Calls prog 29 #[.agg #[.bool true,.int .i64 0,.int .i64 op,.bool false,.int .u8 0,.int .u8 0,.int .u8 0,.int .u8 0,.string ⟨s.toArray⟩]] W λe w'=>e=.returned (.tuple #[.string ⟨(dC op s).toArray⟩,.int .i64 0])∧Gr W w':=by
 have h0:¬(op:Int)<0:=by omega
 have h1:¬(15:Int)<(op:Int):=by omega
 obtain⟨k,r⟩:∃y,UInt8.ofNat (128+op)=y:=⟨_,rfl⟩;have X:(k.toNat:Int)=(op:Int)+128:=by rw[←r];simp[UInt8.toNat_ofNat'] <;> omega
 have V:IntKind.i64.wrap ((op:Int)+128)=(op:Int)+128:=IntWalk.i64_in _ (by omega);obtain⟨i0,hi,a1,a2,a3⟩:=info_parts bL;have a0:s.length≤100000:=by omega
 have q:dC op s=[UInt8.ofNat (128+op),126,UInt8.ofNat (s.length / 256),UInt8.ofNat s.length]++s:=by unfold dC;rw[if_neg (by omega)];unfold ul;rw[if_neg (by omega),if_pos (by omega)];rfl
 obtain⟨z,t⟩:∃y,UInt8.ofNat (s.length / 256)=y:=⟨_,rfl⟩;have Y:(z.toNat:Int)=(s.length:Int) / 256:=by rw[←t];simp[UInt8.toNat_ofNat'] <;> omega
 obtain⟨A,x⟩:∃y,UInt8.ofNat s.length=y:=⟨_,rfl⟩;have Z:(A.toNat:Int)=(s.length:Int) % 256:=by rw[←x];simp[UInt8.toNat_ofNat'] <;> omega
 rw[r,t,x]at q;have hv:=qq q;clear q r t x;go_enter func29,ntmps29;go_upto_region 13 with(fail);obtain⟨c,a⟩:∃c,(W.alloc (.cells #[.bool true,.int .i64 0,.int .i64 op,.bool false,.int .u8 0,.int .u8 0,.int .u8 0,.int .u8 0,.string ⟨s.toArray⟩] 56)).alloc (.cells #[.int .u8 ((op:Int)+128)] 5)=c:=⟨_,rfl⟩;try rw[a]
 have g4:Gr W c:=by rw[←a];exact(Gr.alloc _ _).alloc1 _
 have s4:W.heap.size+1≤c.heap.size:=by rw[←a];simp
 have e3:c.cell? ⟨W.heap.size,3,none⟩=some (.bool false):=by rw[←a];exact(Gr.alloc _ _).cell (aa _ _ _ 3 _ rfl)
 have e4:c.cell? ⟨W.heap.size,4,none⟩=some (.int .u8 0):=by rw[←a];exact(Gr.alloc _ _).cell (aa _ _ _ 4 _ rfl)
 have I:c.cell? ⟨W.heap.size,5,none⟩=some (.int .u8 0):=by rw[←a];exact(Gr.alloc _ _).cell (aa _ _ _ 5 _ rfl)
 have J:c.cell? ⟨W.heap.size,6,none⟩=some (.int .u8 0):=by rw[←a];exact(Gr.alloc _ _).cell (aa _ _ _ 6 _ rfl)
 have L:c.cell? ⟨W.heap.size,7,none⟩=some (.int .u8 0):=by rw[←a];exact(Gr.alloc _ _).cell (aa _ _ _ 7 _ rfl)
 have M:c.cell? ⟨W.heap.size,8,none⟩=some (.string ⟨s.toArray⟩):=by rw[←a];exact(Gr.alloc _ _).cell (aa _ _ _ 8 _ rfl)
 have o4:c.ownsRow (W.heap.size+1) 5 1 (.slice (some ⟨W.heap.size+1,0,none⟩) 1 1) 1 (am [k]):=by
  have hl:=World.ownsRow_lit (base:=W.heap.size+1) (size:=1) (e:=5) (W.alloc (.cells #[.bool true,.int .i64 0,.int .i64 op,.bool false,.int .u8 0,.int .u8 0,.int .u8 0,.int .u8 0,.string ⟨s.toArray⟩] 56)) #[.int .u8 ((op:Int)+128)] 1 (by simp) (by decide) rfl;rw[World.size_alloc,a]at hl;have e:am [k]=#[Value.int .u8 ((op:Int)+128)].toList:=by rw[cY,X];rfl
  rw[e];exact hl
 have a4:=qq o4;have N:=qq g4;have H:=qq s4;have F:∀O,(c.alloc O).ownsRow (W.heap.size+1) 5 1 (.slice (some ⟨W.heap.size+1,0,none⟩) 1 1) 1 (am [k]):=λO=>World.ownsRow.alloc a4.out O;have D:∀j u,([.int .u8 126,.int .u8 ((s.length:Int) / 256),.int .u8 ((s.length:Int) % 256)]:List Value)[j]?=some u→(c.alloc (.cells ([.int .u8 126,.int .u8 ((s.length:Int) / 256),.int .u8 ((s.length:Int) % 256)]:List Value).toArray 5)).cell? ((⟨c.heap.size,0,none⟩:Addr).add j)=some u:=eE c _ _;clear a g4 s4 o4;go_wp2_with (at_builtin;refine wpList_append_own _ rfl _ _ 100 rfl (W.heap.size+1) 5 i0 (.int .u8 0) 1 1 underlying100 hi a1 a2 a3 rfl (by decide) _ _ _ rfl (F _) ⟨c.heap.size,0,none⟩ 3 3 [.int .u8 126,.int .u8 ((s.length:Int) / 256),.int .u8 ((s.length:Int) % 256)] rfl rfl D (by simp[Value.oneCell']) (by unfold maxLen;decide) (by decide) (by simp;have:=H.out;omega) ?_);intro v5 g i f _;have l:Ch (λj=>j=W.heap.size+1) c g:=(((Gr.alloc c _).to_ch _).trans (dx f)).mono (λj e=>by simpa[Value.ownBlock,eq_comm]using e);have hE:¬(W.heap.size=W.heap.size+1):=by omega
 have o:∀ {j u},c.cell? ⟨W.heap.size,j,none⟩=some u→g.cell? ⟨W.heap.size,j,none⟩=some u:=fun {j u} hh=>(l.cell (p:=⟨W.heap.size,j,none⟩) (ae hh) hE).trans hh;replace e3:=o e3;replace e4:=o e4;replace I:=o I;replace J:=o J;replace L:=o L;replace M:=o M;have P:=qq (N.out.ch l (λj e=>by rw[show j=W.heap.size+1 from e];exact Nat.le_succ _));have a6:=qq (qy H.out l.size);have d:OwnB (W.heap.size+1) g v5 [k,126,z,A]:=by
  have e:am [k,126,z,A]=am [k]++[.int .u8 126,.int .u8 ((s.length:Int) / 256),.int .u8 ((s.length:Int) % 256)]:=by
   simp only[am,List.map,List.cons_append,List.nil_append];rw[Y,Z];rfl
  unfold OwnB;rw[e];exact i
 have m:=qq d;obtain⟨p5,B,rfl⟩:=d.slice;clear d i f l o D F;haveI:Nonempty (Later (Gr g)):=⟨⟨g,Gr.refl g⟩⟩;have R:∀y:Later (Gr g),(convert 100 9 (.slice p5 4 B)).run prog y.w=.ok (.string ⟨([k,126,z,A]:List UInt8).toArray⟩) y.w:=λy=>fE (dG m.out y.ok);have t4:∀y:Later (Gr g),y.w.cell? ⟨W.heap.size,4,none⟩=some (.int .u8 0):=λy=>y.ok.cell e4;have t5:∀y:Later (Gr g),y.w.cell? ⟨W.heap.size,5,none⟩=some (.int .u8 0):=λy=>y.ok.cell I;have t6:∀y:Later (Gr g),y.w.cell? ⟨W.heap.size,6,none⟩=some (.int .u8 0):=λy=>y.ok.cell J;have t7:∀y:Later (Gr g),y.w.cell? ⟨W.heap.size,7,none⟩=some (.int .u8 0):=λy=>y.ok.cell L;have t8:∀y:Later (Gr g),y.w.cell? ⟨W.heap.size,8,none⟩=some (.string ⟨s.toArray⟩):=λy=>y.ok.cell M;have U:=qq (fc s g a0);have a5:(⟨([k,126,z,A]:List UInt8).toArray⟩:ByteArray)++(⟨(s).toArray⟩:ByteArray)=⟨([k,126,z,A]++s).toArray⟩:=aL _ _;go_upto_region 24 with(fail);clear e3 e4 I J L M;refine ah (C:=Gr g) (by kernel_rfl) (by kernel_rfl) (Gr.drew' _) ?_;repeat (go_big_quiet_step (with_reducible exact U.out _))
 refine wpQuiet_nil ?_;intro w9 E;have S:=qq (P.out.trans E);clear t4 t5 t6 t7 t8 R E;go_wp2;refine bodyPost_ret (v:=.tuple #[.string ⟨([k,126,z,A]++s).toArray⟩,.int .i64 0]) (by simp[results,results29,go_sem]) rfl ⟨by rw[hv.out],S.out⟩
theorem qp (op:Nat)(s:List UInt8)(W:World)(h:op≤15)(hn:s.length≤125):Calls prog 29 #[.agg #[.bool true,.int .i64 0,.int .i64 op,.bool true,.int .u8 1,.int .u8 2,.int .u8 3,.int .u8 4,.string ⟨s.toArray⟩]] W λe w'=>e=.returned (.tuple #[.string ⟨(rP op s).toArray⟩,.int .i64 0])∧Gr W w':=by
 have h0:¬(op:Int)<0:=by omega
 have h1:¬(15:Int)<(op:Int):=by omega
 obtain⟨o,H⟩:∃y,UInt8.ofNat (128+op)=y:=⟨_,rfl⟩;have b4:(o.toNat:Int)=(op:Int)+128:=by rw[←H];simp[UInt8.toNat_ofNat'] <;> omega
 have b3:IntKind.i64.wrap ((op:Int)+128)=(op:Int)+128:=IntWalk.i64_in _ (by omega);obtain⟨i0,hi,a2,a3,a4⟩:=info_parts bL;have b6:s.length≤100000:=by omega
 have F:rP op s=[UInt8.ofNat (128+op),UInt8.ofNat (128+s.length),1,2,3,4]++eH 1 2 3 4 0 s:=rfl;obtain⟨B,I⟩:∃y,UInt8.ofNat (128+s.length)=y:=⟨_,rfl⟩;have b5:(B.toNat:Int)=128+(s.length:Int):=by rw[←I];simp[UInt8.toNat_ofNat'] <;> omega
 have b9:IntKind.i64.wrap (128+(s.length:Int))=128+(s.length:Int):=IntWalk.i64_in _ (by omega);rw[H,I]at F;have hv:=qq F;clear F H I;go_enter func29,ntmps29;go_upto_region 13 with(fail);obtain⟨d,a⟩:∃d,(W.alloc (.cells #[.bool true,.int .i64 0,.int .i64 op,.bool true,.int .u8 1,.int .u8 2,.int .u8 3,.int .u8 4,.string ⟨s.toArray⟩] 56)).alloc (.cells #[.int .u8 ((op:Int)+128)] 5)=d:=⟨_,rfl⟩;try rw[a]
 have g4:Gr W d:=by rw[←a];exact(Gr.alloc _ _).alloc1 _
 have s4:W.heap.size+1≤d.heap.size:=by rw[←a];simp
 have e3:d.cell? ⟨W.heap.size,3,none⟩=some (.bool true):=by rw[←a];exact(Gr.alloc _ _).cell (aa _ _ _ 3 _ rfl)
 have e4:d.cell? ⟨W.heap.size,4,none⟩=some (.int .u8 1):=by rw[←a];exact(Gr.alloc _ _).cell (aa _ _ _ 4 _ rfl)
 have J:d.cell? ⟨W.heap.size,5,none⟩=some (.int .u8 2):=by rw[←a];exact(Gr.alloc _ _).cell (aa _ _ _ 5 _ rfl)
 have L:d.cell? ⟨W.heap.size,6,none⟩=some (.int .u8 3):=by rw[←a];exact(Gr.alloc _ _).cell (aa _ _ _ 6 _ rfl)
 have M:d.cell? ⟨W.heap.size,7,none⟩=some (.int .u8 4):=by rw[←a];exact(Gr.alloc _ _).cell (aa _ _ _ 7 _ rfl)
 have N:d.cell? ⟨W.heap.size,8,none⟩=some (.string ⟨s.toArray⟩):=by rw[←a];exact(Gr.alloc _ _).cell (aa _ _ _ 8 _ rfl)
 have o4:d.ownsRow (W.heap.size+1) 5 1 (.slice (some ⟨W.heap.size+1,0,none⟩) 1 1) 1 (am [o]):=by
  have hl:=World.ownsRow_lit (base:=W.heap.size+1) (size:=1) (e:=5) (W.alloc (.cells #[.bool true,.int .i64 0,.int .i64 op,.bool true,.int .u8 1,.int .u8 2,.int .u8 3,.int .u8 4,.string ⟨s.toArray⟩] 56)) #[.int .u8 ((op:Int)+128)] 1 (by simp) (by decide) rfl;rw[World.size_alloc,a]at hl;have e:am [o]=#[Value.int .u8 ((op:Int)+128)].toList:=by rw[cY,b4];rfl
  rw[e];exact hl
 have b7:=qq o4;have a6:=qq g4;have a5:=qq s4;have a0:∀O,(d.alloc O).ownsRow (W.heap.size+1) 5 1 (.slice (some ⟨W.heap.size+1,0,none⟩) 1 1) 1 (am [o]):=λO=>World.ownsRow.alloc b7.out O;have S:∀j u,([.int .u8 (128+(s.length:Int))]:List Value)[j]?=some u→(d.alloc (.cells ([.int .u8 (128+(s.length:Int))]:List Value).toArray 5)).cell? ((⟨d.heap.size,0,none⟩:Addr).add j)=some u:=eE d _ _;clear a g4 s4 o4;go_wp2_with (at_builtin;refine wpList_append_own _ rfl _ _ 100 rfl (W.heap.size+1) 5 i0 (.int .u8 0) 1 1 underlying100 hi a2 a3 a4 rfl (by decide) _ _ _ rfl (a0 _) ⟨d.heap.size,0,none⟩ 1 1 [.int .u8 (128+(s.length:Int))] rfl rfl S (by simp[Value.oneCell']) (by unfold maxLen;decide) (by decide) (by simp;have:=a5.out;omega) ?_);intro v5 x r i _;have z:Ch (λj=>j=W.heap.size+1) d x:=(((Gr.alloc d _).to_ch _).trans (dx i)).mono (λj e=>by simpa[Value.ownBlock,eq_comm]using e);have hE:¬(W.heap.size=W.heap.size+1):=by omega
 have D:∀ {j u},d.cell? ⟨W.heap.size,j,none⟩=some u→x.cell? ⟨W.heap.size,j,none⟩=some u:=fun {j u} Y=>(z.cell (p:=⟨W.heap.size,j,none⟩) (ae Y) hE).trans Y;replace e3:=D e3;replace e4:=D e4;replace J:=D J;replace L:=D L;replace M:=D M;replace N:=D N;have a7:=qq (a6.out.ch z (λj e=>by rw[show j=W.heap.size+1 from e];exact Nat.le_succ _));have b8:=qq (qy a5.out z.size);have f:OwnB (W.heap.size+1) x v5 [o,B]:=by
  have e:am [o,B]=am [o]++[.int .u8 (128+(s.length:Int))]:=by
   simp only[am,List.map,List.cons_append,List.nil_append];rw[b5]
  unfold OwnB;rw[e];exact r
 have c:=qq f;obtain⟨p5,q,rfl⟩:=f.slice;clear f r i z D S a0;have a1:∀O,(x.alloc O).ownsRow (W.heap.size+1) 5 1 (.slice p5 2 q) 2 (am [o,B]):=λO=>World.ownsRow.alloc c.out O;have U:∀j u,([.int .u8 1,.int .u8 2,.int .u8 3,.int .u8 4]:List Value)[j]?=some u→(x.alloc (.cells ([.int .u8 1,.int .u8 2,.int .u8 3,.int .u8 4]:List Value).toArray 5)).cell? ((⟨x.heap.size,0,none⟩:Addr).add j)=some u:=eE x _ _;go_upto_region 23 with(fail);go_wp2_with (at_builtin;refine wpList_append_own _ rfl _ _ 100 rfl (W.heap.size+1) 5 i0 (.int .u8 0) 1 1 underlying100 hi a2 a3 a4 rfl (by decide) _ _ _ rfl (a1 _) ⟨x.heap.size,0,none⟩ 4 4 [.int .u8 1,.int .u8 2,.int .u8 3,.int .u8 4] rfl rfl U (by simp[Value.oneCell']) (by unfold maxLen;decide) (by decide) (by simp;have:=b8.out;omega) ?_);intro v7 l t k _;have E:Ch (λj=>(Value.slice p5 2 q).ownBlock=some j) x l:=((Gr.alloc x _).to_ch _).trans (dx k);have R:¬((Value.slice p5 2 q).ownBlock=some W.heap.size):=λe=>by have:=(World.ownsRow.lt c.out _ e).1;omega
 have m:∀ {j u},x.cell? ⟨W.heap.size,j,none⟩=some u→l.cell? ⟨W.heap.size,j,none⟩=some u:=fun {j u} Y=>(E.cell (p:=⟨W.heap.size,j,none⟩) (ae Y) R).trans Y;replace e4:=m e4;replace J:=m J;replace L:=m L;replace M:=m M;replace N:=m N;have a8:=qq (a7.out.ch E (λj e=>by have:=(World.ownsRow.lt c.out _ e).1;omega));have g:OwnB (W.heap.size+1) l v7 [o,B,1,2,3,4]:=t;have A:=qq g;obtain⟨p7,P,rfl⟩:=g.slice;clear g t k E m U a1 R;haveI:Nonempty (Later (Gr l)):=⟨⟨l,Gr.refl l⟩⟩;have a9:∀y:Later (Gr l),(convert 100 9 (.slice p7 6 P)).run prog y.w=.ok (.string ⟨([o,B,1,2,3,4]:List UInt8).toArray⟩) y.w:=λy=>fE (dG A.out y.ok);have t4:∀y:Later (Gr l),y.w.cell? ⟨W.heap.size,4,none⟩=some (.int .u8 1):=λy=>y.ok.cell e4;have t5:∀y:Later (Gr l),y.w.cell? ⟨W.heap.size,5,none⟩=some (.int .u8 2):=λy=>y.ok.cell J;have t6:∀y:Later (Gr l),y.w.cell? ⟨W.heap.size,6,none⟩=some (.int .u8 3):=λy=>y.ok.cell L;have t7:∀y:Later (Gr l),y.w.cell? ⟨W.heap.size,7,none⟩=some (.int .u8 4):=λy=>y.ok.cell M;have t8:∀y:Later (Gr l),y.w.cell? ⟨W.heap.size,8,none⟩=some (.string ⟨s.toArray⟩):=λy=>y.ok.cell N;have Z:=qq (qo s l b6);have V:(⟨([o,B,1,2,3,4]:List UInt8).toArray⟩:ByteArray)++(⟨(eH 1 2 3 4 0 s).toArray⟩:ByteArray)=⟨([o,B,1,2,3,4]++eH 1 2 3 4 0 s).toArray⟩:=aL _ _;have b1:=kY 1 2 3 4 s 0;obtain⟨ms,b2⟩:∃ms,eH 1 2 3 4 0 s=ms:=⟨_,rfl⟩;rw[b2]at b1 V Z hv;go_upto_region 24 with(fail);clear e3 e4 J L M N;refine ah (C:=Gr l) (by kernel_rfl) (by kernel_rfl) (Gr.drew' _) ?_;repeat (go_big_quiet_step (with_reducible exact Z.out _))
 refine wpQuiet_nil ?_;intro w9 X;have b0:=qq (a8.out.trans X);clear t4 t5 t6 t7 t8 a9 X;go_wp2;refine bodyPost_ret (v:=.tuple #[.string ⟨([o,B,1,2,3,4]++ms).toArray⟩,.int .i64 0]) (by simp[results,results29,go_sem]) rfl ⟨by rw[hv.out],b0.out⟩
structure SnL (w:World)(b:Nat)(T:Nat→Prop)(s:Ss)(W:World):Prop where
 at':bT b (.func (.func 11) #[] #[]) T W s
 gr:Gr w W
 base:∀k,T k→w.heap.size≤k
section
variable {w:World} {b:Nat} {T:Nat→Prop} {s:Ss} {W:World} {n:Nat}
theorem SnL.pst {c:Ss}{a:World}(h:SnL w b T s W)(p:Pst (bT b (.func (.func 11) #[] #[])) T W c a):SnL w b (Add T W a) c a :=
 ⟨p.1,h.gr.ch p.2 h.base,λk e=>e.elim (h.base k) (λe=>qy (Below.size h.gr) e.1)⟩
def dE (w:World)(b:Nat)(T:Nat→Prop)(W:World)(s':Ss)(W':World):Prop :=
 ∃T',SnL w b T' s' W'∧Ch T W W'∧∀k,k<W.heap.size→¬T k→¬T' k
theorem SnL.ln {c:Ss}{a:World}(h:SnL w b T s W)(p:Pst (bT b (.func (.func 11) #[] #[])) T W c a):dE w b T W c a :=
 ⟨_,h.pst p,p.2,λk d hn e=>e.elim hn (λe=>absurd d (Nat.not_lt.2 e.1))⟩
theorem SnL.ch {S:Nat→Prop}{a:World}(h:SnL w b T s W)(d:Ch S W a)(c:∀k,S k→¬T k∧w.heap.size≤k):SnL w b T s a :=
 ⟨(aD b _).frame h.at' d (λk e e2=>(c k e2).1 e),h.gr.ch d (λk e=>(c k e).2),h.base⟩
theorem SnL.grow {a:World}(h:SnL w b T s W)(g:Gr W a):SnL w b T s a:=h.ch (g.to_ch (λ_=>False)) (λ_ e=>e.elim)
theorem SnL.hi (h:SnL w b T s W)(a:G w):Hi T:=λk e=>qj a.lt (h.base k e)
theorem SnL.lt (h:SnL w b T s W):∀k,T k→k<W.heap.size:=h.at'.2
theorem gm (a:Sok s):s.st=2→s.c.isSome=true:=λe=>by
 obtain⟨c,d,_⟩:=a.b e;rw[d];rfl
theorem xr (i:G w)(c:Gr w W)(q limit:Nat)(d:1≤q)(f:q≤64)(a:limit≤1099511627776) :
  Calls prog 10 #[.func (.func 11) #[] #[],.int .i64 q,.int .i64 limit] W λe w'=>∃b,e=.returned (.tuple #[.pointer (some ⟨b,0,none⟩),.int .i64 0])∧SnL w b (New W w') (ss0 q limit) w'∧Gr W w':=by
 refine(EQ W (i.gr c) q limit d f a).mono ?_;rintro e w'⟨b,rfl,h,g⟩;exact⟨b,rfl,⟨h,c.trans g,λk e=>qy (Below.size c) e.1⟩,g⟩
theorem rR (h:SnL w b T s W)(a:SsB n s)(d:Sok s)(x:List UInt8)(hn:n+x.length≤90000) :
  Calls prog 12 #[.pointer (some ⟨b,0,none⟩),.string ⟨x.toArray⟩] W λe w'=>e=.returned (.tuple #[])∧dE w b T W (cE s x) w':=by
 refine(DA h.at' x (gm d) (by have:=a.p.sum;omega) (λc f=>by have:=(a.w c f).b.r.i;omega)).mono ?_;rintro e w'⟨rfl,g⟩;exact⟨rfl,h.ln g⟩
theorem j6 (h:SnL w b T s W)(g:G w)(d:SsB n s)(i:Sok s)(hn:n≤90000) :
  Calls prog 13 #[.pointer (some ⟨b,0,none⟩)] W λe w'=>e=.returned (.tuple #[fT (bj aX s).2,.bool (bj aX s).2.isSome])∧dE w b T W (bj aX s).1 w':=by
 refine(DC (F:=λ_=>False) (n:=n) h.at' (g.gr h.gr) (h.hi g) (yp W) (λ_ e=>e.elim) d.lim i.a (λ_=>d.p.le hn) (by omega) (λe=>?_)).mono ?_
 ·obtain⟨c,f,_⟩:=i.b e;exact⟨c,f,(d.w c f).b,λx k=>((d.w c f).next.2 x k).1⟩
 ·rintro e w'⟨rfl,j⟩;exact⟨rfl,h.ln j⟩
theorem mp (h:SnL w b T s W)(a:SsB n s)(c:Sok s)(hn:n≤50000) :
  Calls prog 14 #[.pointer (some ⟨b,0,none⟩)] W λe w'=>e=.returned (zM (bR s).2)∧dE w b T W (bR s).1 w':=by
 refine(Fd h.at' c.x (λit hi=>?_)).mono ?_
 ·exact((a.x.next).2 it hi).imp_right (λe=>qy e (by omega))
 ·rintro e w'⟨rfl,d⟩;exact⟨rfl,h.ln d⟩
theorem rS (h:SnL w b T s W)(a:Sok s)(op:Int)(t:List UInt8) :
  Calls prog 15 #[.pointer (some ⟨b,0,none⟩),.int .i64 op,.string ⟨t.toArray⟩] W λe w'=>e=.returned (.int .i64 (eQ s op t).2)∧dE w b T W (eQ s op t).1 w':=by
 refine(D9 h.at' (gm a) op t).mono ?_;rintro e w'⟨rfl,c⟩;exact⟨rfl,h.ln c⟩
theorem uA (h:SnL w b T s W)(a:Sok s) :
  Calls prog 16 #[.pointer (some ⟨b,0,none⟩)] W λe w'=>e=.returned (.tuple #[])∧dE w b T W (bQ s) w':=by
 refine(zL h.at' (gm a)).mono ?_;rintro e w'⟨rfl,c⟩;exact⟨rfl,h.ln c⟩
theorem Bq (h:SnL w b T s W)(a:Sok s) :
  Calls prog 30 #[.pointer (some ⟨b,0,none⟩)] W λe w'=>e=.returned (.tuple #[])∧dE w b T W (dD s) w':=by
 refine(xO h.at' (gm a)).mono ?_;rintro e w'⟨rfl,c⟩;exact⟨rfl,h.ln c⟩
theorem yv (h:SnL w b T s W)(a:Sok s) :
  Calls prog 17 #[.pointer (some ⟨b,0,none⟩)] W λe w'=>e=.returned (.tuple #[])∧dE w b T W (eD s) w':=by
 refine(CB h.at' (gm a)).mono ?_;rintro e w'⟨rfl,c⟩;exact⟨rfl,h.ln c⟩
theorem Br (h:SnL w b T s W) :
  Calls prog 31 #[.pointer (some ⟨b,0,none⟩)] W λe w'=>e=.returned (.tuple #[])∧dE w b T W (ij s) w':=by
 refine(Eb h.at').mono ?_;rintro e w'⟨rfl,a⟩;exact⟨rfl,h.ln a⟩
end
theorem uB (op:Nat)(s:List UInt8)(W:World)(h:op≤15)(hn:s.length≤125) :
  Calls prog 32 #[.bool true,.int .i64 op,.string ⟨s.toArray⟩] W λe w'=>e=.returned (.string ⟨(rP op s).toArray⟩)∧Gr W w':=by
 have c:=qq (λW=>qp op s W h hn);obtain⟨m,hm⟩:∃m,rP op s=m:=⟨_,rfl⟩;rw[hm]at c;have a:=qq hm;clear hm h hn;go_enter func32,ntmps32;go_wp2_with fail;refine(c.out _).mono ?_;rintro e f⟨rfl,d⟩;go_wp2;go_ret;exact⟨by rw[a.out];rfl,d⟩
theorem Bs:rP 9 [120]=oC:=by kernel_rfl
theorem Bt:xq [47]=rL:=by kernel_rfl
theorem mS:Sok yk∧Sok uv∧Sok ym∧Sok oD∧Sok yn∧Sok yo∧Sok Bn:=by
 have h0:=Fc (q:=2) (limit:=100) (by decide);have a:=h0.feed ja;rw[kU]at a;have c:=a.next (H:=aX);rw[jw]at c;have d:=c.next (H:=aX);rw[jx]at d;have e:=d.next (H:=aX);rw[jy]at e;have f:=e.out;rw[kV]at f;have g:=f.out;rw[kW]at g;have h:=g.out;rw[kX]at h;exact⟨a,c,d,e,f,g,h⟩
theorem rT:ja.length≤1000:=by decide +kernel
theorem yw:SsB 1000 yk∧SsB 1000 uv∧SsB 1000 ym∧SsB 1000 oD∧SsB 1000 yn∧SsB 1000 yo∧SsB 1000 Bn:=by
 have h0:=CD (q:=2) (limit:=100) (by decide);have a:=(h0.feed ja).le (m:=1000) (by rw[Nat.zero_add];exact rT);rw[kU]at a;have c:=a.next (H:=aX);rw[jw]at c;have d:=c.next (H:=aX);rw[jx]at d;have e:=d.next (H:=aX);rw[jy]at e;have f:=e.out;rw[kV]at f;have g:=f.out;rw[kW]at g;have h:=g.out;rw[kX]at h;exact⟨a,c,d,e,f,g,h⟩
section
variable {w:World} {b:Nat} {T:Nat→Prop} {W:World}
theorem Bu (h:SnL w b T yk W)(a:G w):Calls prog 13 #[.pointer (some ⟨b,0,none⟩)] W λe w'=>e=.returned (.tuple #[.agg #[.int .i64 3,.int .i64 0,.string ⟨#[]⟩],.bool true])∧dE w b T W uv w':=by
 have:=j6 h a yw.1 mS.1 (by decide);rw[jw]at this;exact this
theorem Bv (h:SnL w b T uv W)(a:G w):Calls prog 13 #[.pointer (some ⟨b,0,none⟩)] W λe w'=>e=.returned (.tuple #[.agg #[.int .i64 1,.int .i64 0,.string ⟨#[]⟩],.bool true])∧dE w b T W ym w':=by
 have:=j6 h a yw.2.1 mS.2.1 (by decide);rw[jx]at this;exact this
theorem Bw (h:SnL w b T ym W)(a:G w):Calls prog 13 #[.pointer (some ⟨b,0,none⟩)] W λe w'=>e=.returned (.tuple #[.agg #[.int .i64 3,.int .i64 0,.string ⟨#[]⟩],.bool true])∧dE w b T W oD w':=by
 have:=j6 h a yw.2.2.1 mS.2.2.1 (by decide);rw[jy]at this;exact this
theorem DD (h:SnL w b T oD W):Calls prog 14 #[.pointer (some ⟨b,0,none⟩)] W λe w'=>e=.returned (.tuple #[.string ⟨pc.toArray⟩,.bool false,.bool true])∧dE w b T W yn w':=by
 have:=mp h yw.2.2.2.1 mS.2.2.2.1 (by decide);rw[kV]at this;exact this
theorem DE (h:SnL w b T yn W):Calls prog 14 #[.pointer (some ⟨b,0,none⟩)] W λe w'=>e=.returned (.tuple #[.string ⟨mR.toArray⟩,.bool false,.bool true])∧dE w b T W yo w':=by
 have:=mp h yw.2.2.2.2.1 mS.2.2.2.2.1 (by decide);rw[kW]at this;exact this
theorem DF (h:SnL w b T yo W):Calls prog 14 #[.pointer (some ⟨b,0,none⟩)] W λe w'=>e=.returned (.tuple #[.string ⟨#[138,1,120]⟩,.bool false,.bool true])∧dE w b T W Bn w':=by
 have:=mp h yw.2.2.2.2.2.1 mS.2.2.2.2.2.1 (by decide);rw[kX]at this;exact this
end
theorem lL (w:World)(hG:G w):Calls prog 7 #[] w λe w'=>e=.returned (.bool true)∧Gr w w':=by
 have M:=qq hG;have a7:=qq (xr hG (Gr.refl w) 2 100 (by decide) (by decide) (by decide));have f:=qq (λW=>Bo [47] (by decide) W);have A:=qq (λW=>uB 9 [120] W (by decide) (by decide));rw[Bs]at A;rw[Bt]at f;have a4:rL.length≤1000:=by decide +kernel
 have Z:mQ.length≤1000:=by decide +kernel
 have a0:oC.length≤1000:=by decide +kernel
 have c1:(⟨rL.toArray⟩:ByteArray)++⟨mQ.toArray⟩=⟨(rL++mQ).toArray⟩:=aL _ _;have c2:(⟨(rL++mQ).toArray⟩:ByteArray)++⟨oC.toArray⟩=⟨ja.toArray⟩:=by
  refine(aL _ _).trans ?_;rw[List.append_assoc];rfl
 have k:=qq (λW=>Bp W);have l:=qq (λW=>yq W);have a:=qq (λb T W (h:SnL w b T (ss0 2 100) W)=>rR h (CD (q:=2) (limit:=100) (by decide)) (Fc (by decide)) ja (by have:=rT;omega));rw[kU]at a;have a5:pc=[72,84,84,80,47,49,46,49,32,50,48,48,32,79,75,13,10,67,111,110,116,101,110,116,45,76,101,110,103,116,104,58,32,52,13,10,13,10,104,111,109,101]:=rfl;have a6:=qq a5;obtain⟨gl,R⟩:∃x,rL=x:=⟨_,rfl⟩;obtain⟨al,O⟩:∃x,mQ=x:=⟨_,rfl⟩;obtain⟨fl,P⟩:∃x,oC=x:=⟨_,rfl⟩;obtain⟨wl,S⟩:∃x,ja=x:=⟨_,rfl⟩;obtain⟨tl,L⟩:∃x,mR=x:=⟨_,rfl⟩;rw[R]at f c1 c2 a4;rw[O]at k c1 c2 Z;rw[P]at A c2 a0;rw[S]at a c2;rw[L]at l;have b2:=qq L;have a9:¬9223372036854775807<gl.length+al.length:=by omega
 have b0:¬9223372036854775807<gl.length+al.length+fl.length:=by omega
 clear hG a5 R O P S a4 Z a0 L;go_enter func7,ntmps7;go_wp2_with fail;refine a7.out.mono ?_;rintro e w1⟨b,rfl,h1,g1⟩;have V:=qq h1;clear h1 g1 a7;go_wp2_with fail;refine(f.out _).mono ?_;rintro e w2⟨rfl,rfl⟩;go_wp2_with fail;refine(k.out _).mono ?_;rintro e w2⟨rfl,rfl⟩;go_wp2_with fail;refine(A.out _).mono ?_;rintro e w2⟨rfl,g2⟩;have X:=qq (V.out.grow g2);clear g2 V f k A;go_wp2_with fail;refine(a.out _ _ _ X.out).mono ?_;rintro e w3⟨rfl,T3,h3,_,_⟩;have Y:=qq h3;clear h3 X a c1 c2 a9 b0;go_wp2_with fail;refine(Bu Y.out M.out).mono ?_;rintro e u⟨rfl,T4,h4,c4,n4⟩;go_upto_region 6 with(fail);obtain⟨v1,m⟩:∃v,u.alloc (.cells #[.int .i64 3,.int .i64 0,.string ⟨#[]⟩] 28)=v:=⟨_,rfl⟩;try rw[m]
 have U:Gr u v1:=m▸Gr.alloc u _;have c:v1.cell? ⟨u.heap.size,0,none⟩=some (.int .i64 3):=by rw[←m];exact aa _ _ _ 0 _ rfl
 have a1:¬T4 u.heap.size:=λe=>absurd (h4.lt _ e) (Nat.lt_irrefl _);have d:u.heap.size<v1.heap.size:=by rw[←m];simp
 have I:=qq (h4.grow U);clear h4 c4 n4 U m Y;go_wp2_with fail;refine(Bv I.out M.out).mono ?_;rintro e y⟨rfl,T5,h5,c5,n5⟩;replace c:=(c5.cell (p:=⟨u.heap.size,0,none⟩) (ae c) a1).trans c;replace a1:=n5 _ d a1;replace d:=qj d c5.size;go_upto_region 7 with(fail);obtain⟨v2,o⟩:∃v,y.alloc (.cells #[.int .i64 1,.int .i64 0,.string ⟨#[]⟩] 28)=v:=⟨_,rfl⟩;try rw[o]
 have z:Gr y v2:=o▸Gr.alloc y _;have g:v2.cell? ⟨y.heap.size,0,none⟩=some (.int .i64 1):=by rw[←o];exact aa _ _ _ 0 _ rfl
 have a2:¬T5 y.heap.size:=λe=>absurd (h5.lt _ e) (Nat.lt_irrefl _);have i:y.heap.size<v2.heap.size:=by rw[←o];simp
 replace c:=z.cell c;replace d:=qj d (Below.size z);have J:=qq (h5.grow z);clear h5 c5 n5 z o I;go_wp2_with fail;refine(Bw J.out M.out).mono ?_;rintro e B⟨rfl,T6,h6,c6,n6⟩;replace c:=(c6.cell (p:=⟨u.heap.size,0,none⟩) (ae c) a1).trans c;replace a1:=n6 _ d a1;replace d:=qj d c6.size;replace g:=(c6.cell (p:=⟨y.heap.size,0,none⟩) (ae g) a2).trans g;replace a2:=n6 _ i a2;replace i:=qj i c6.size;go_upto_region 8 with(fail);obtain⟨v3,r⟩:∃v,B.alloc (.cells #[.int .i64 3,.int .i64 0,.string ⟨#[]⟩] 28)=v:=⟨_,rfl⟩;try rw[r]
 have j:Gr B v3:=r▸Gr.alloc B _;have C:v3.cell? ⟨B.heap.size,0,none⟩=some (.int .i64 3):=by rw[←r];exact aa _ _ _ 0 _ rfl
 have a3:¬T6 B.heap.size:=λe=>absurd (h6.lt _ e) (Nat.lt_irrefl _);have D:B.heap.size<v3.heap.size:=by rw[←r];simp
 replace c:=j.cell c;replace d:=qj d (Below.size j);replace g:=j.cell g;replace i:=qj i (Below.size j);have t:=qq (h6.grow j);clear h6 c6 n6 j r J;have N:=qq (mM t.out.at' (gm mS.2.2.2.1));rw[uw]at N;go_wp2_with fail;refine N.out.mono ?_;rintro e w7⟨rfl,rfl⟩;clear N;go_wp2_with fail;refine(DD t.out).mono ?_;rintro e w7⟨rfl,T7,h7,c7,n7⟩;replace c:=(c7.cell (p:=⟨u.heap.size,0,none⟩) (ae c) a1).trans c;replace a1:=n7 _ d a1;replace d:=qj d c7.size;replace g:=(c7.cell (p:=⟨y.heap.size,0,none⟩) (ae g) a2).trans g;replace a2:=n7 _ i a2;replace i:=qj i c7.size;replace C:=(c7.cell (p:=⟨B.heap.size,0,none⟩) (ae C) a3).trans C;replace a3:=n7 _ D a3;replace D:=qj D c7.size;have E:=qq h7;clear h7 c7 n7 t;go_wp2_with fail;refine(DE E.out).mono ?_;rintro e w8⟨rfl,T8,h8,c8,n8⟩;replace c:=(c8.cell (p:=⟨u.heap.size,0,none⟩) (ae c) a1).trans c;replace a1:=n8 _ d a1;replace d:=qj d c8.size;replace g:=(c8.cell (p:=⟨y.heap.size,0,none⟩) (ae g) a2).trans g;replace a2:=n8 _ i a2;replace i:=qj i c8.size;replace C:=(c8.cell (p:=⟨B.heap.size,0,none⟩) (ae C) a3).trans C;replace a3:=n8 _ D a3;replace D:=qj D c8.size;have F:=qq h8;clear h8 c8 n8 E;go_wp2_with fail;refine(DF F.out).mono ?_;rintro e w9⟨rfl,T9,h9,c9,n9⟩;replace c:=(c9.cell (p:=⟨u.heap.size,0,none⟩) (ae c) a1).trans c;replace a1:=n9 _ d a1;replace d:=qj d c9.size;replace g:=(c9.cell (p:=⟨y.heap.size,0,none⟩) (ae g) a2).trans g;replace a2:=n9 _ i a2;replace i:=qj i c9.size;replace C:=(c9.cell (p:=⟨B.heap.size,0,none⟩) (ae C) a3).trans C;replace a3:=n9 _ D a3;replace D:=qj D c9.size;have H:=qq h9;clear h9 c9 n9 F;have a8:=qq (rI H.out.at');rw[uy]at a8;rw[a6.out];go_wp2_with fail;refine(l.out _).mono ?_;rintro e b1⟨rfl,rfl⟩;go_wp2_with fail;refine a8.out.mono ?_;rintro e b1⟨rfl,rfl⟩;go_wp2;go_ret;exact⟨rfl,H.out.gr⟩
