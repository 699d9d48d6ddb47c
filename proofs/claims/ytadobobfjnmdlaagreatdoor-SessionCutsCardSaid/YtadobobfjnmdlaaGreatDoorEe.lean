/-
  A session in memory: what is told, what is put, how it becomes a socket. (Printed by mk_ee.py.)
-/
import Derived.Test.YtadobobfjnmdlaaGreatDoorP53
import Derived.Deep.MidRow
import Derived.Tactics
set_option linter.unnecessarySimpa false
set_option linter.unusedVariables false
set_option linter.unusedSimpArgs false
set_option maxHeartbeats 16000000
set_option maxRecDepth 100000
open Go.Lib (hid)
open Go.Proofs.Tryz
namespace Go.Proofs.YtadobobfjnmdlaaGreatDoor
open Go.RowKit Go.Shelf
attribute [local go_sem] Oper.semAt_some
def outV:Option (List UInt8×Bool)→Value
 | none=>.tuple #[.string ⟨#[]⟩,.bool false,.bool false]
 | some (t,e)=>.tuple #[.string ⟨t.toArray⟩,.bool e,.bool true]
theorem bxNext_kind {x:Bx} (h:Bok x) {it:It} (e:(bxNext x).2=some it):it.kind=1∨it.kind=2∨it.kind=3∨it.kind=4∨it.kind=5:=by
 obtain⟨q,reps,pong,msgs,close,closed,ends,told⟩:=x
 have hk:=h.k
 unfold bxNext at e
 dsimp only at e hk
 cases reps with
 | cons a l=>cases e;exact .inl rfl
 | nil =>
  cases pong with
  | some a=>cases e;exact .inr (.inl rfl)
  | none =>
   cases msgs with
   | cons a l=>cases e;exact .inr (.inr (.inl (hk _ (List.mem_cons_self ..))))
   | nil =>
    cases close with
    | some a=>cases e;exact .inr (.inr (.inr (.inl rfl)))
    | none =>
     dsimp only at e
     split at e
     ·cases e;exact .inr (.inr (.inr (.inr rfl)))
     ·cases e
theorem SnS.kw_of {b:Nat} {hv:Value} {c:Nat→Nat} {W:World} {s:Ss} {pb bb k0:Nat} {w:Wn} (h:SnS b hv c W s pb bb (.pointer (some ⟨k0,0,none⟩))) (hw:s.c=some w):WnAt k0 (λk=>c k=3) W w:=by
 have k:=h.kw
 rw[hw] at k
 obtain⟨k1,e,k⟩:=k
 cases e
 exact k
section
variable {b:Nat} {hv:Value} {T:Nat→Prop} {W:World} {s:Ss}
theorem sn_out (h:SnAt b hv T W s) (hb:Bok s.x) (hx:∀ it,(bxNext s.x).2=some it→it.kind=1∨it.text.length≤4611686018427387900):Calls prog 14 #[.pointer (some ⟨b,0,none⟩)] W λe w'=>e=.returned (outV (ssOut s).2)∧Pst (SnAt b hv) T W (ssOut s).1 w':=by
 obtain⟨⟨c,pb,bb,cv,h,hT⟩,hl⟩:=h
 have h':=hid h
 have hT':=hid hT
 have hl':=hid hl
 have hbT:=hid (hT b (by rw[h.cb];decide))
 have c5:=h.c5
 have hn0:=bnext_any h.kx
 have hkd:=λit=>bxNext_kind (it:=it) hb
 have hq0:ssOut s=({ s with x:=(bxNext s.x).1 },(bxNext s.x).2.map outB'):=rfl
 obtain⟨x',o,hxo⟩:∃ x' o,bxNext s.x=(x',o):=⟨_,_,rfl⟩
 rw[hxo] at hn0 hkd hx hq0
 dsimp only at hn0 hkd hx hq0
 have hn:=hid hn0
 clear h hT hl hn0 hxo hb
 cases o with
 | none =>
  have hq:=hid hq0
  rw[nextV_none] at hn
  unfold it0 It.V at hn
  clear hq0 hkd hx
  go_enter func14,ntmps14
  go_wp2_with fail
  refine hn.out.mono ?_
  rintro e w1⟨rfl,hp⟩
  have hp':=hid hp
  clear hp
  go_wp2
  refine bodyPost_ret (v:=.tuple #[.string ⟨#[]⟩,.bool false,.bool false]) (by simp[results,results14,go_sem]) rfl ?_
  rw[hq.out]
  exact⟨rfl,(snKin b hv).behind ((h'.out.setX hp'.out).pst hl'.out (hp'.out.2.mono (λk e=>hT'.out k (by rw[show c k=4 from e];decide))) (add_of hT'.out (Nat.le_refl _))) (Gr.alloc _ _)⟩
 | some it =>
  obtain⟨k,op,tx⟩:=it
  have hk:=hkd _ rfl
  have htx:=hx _ rfl
  have hfb0:=λ(op:Int) (W:World) (h:tx.length≤4611686018427387900)=>fbytes_any op tx W h
  unfold FbPost frV at hfb0
  have hfb:=hid hfb0
  have hq1:ssOut s=({ s with x:=x' },some (outB' ⟨k,op,tx⟩)):=hq0
  rw[nextV_some] at hn
  unfold It.V at hn
  clear hq0 hkd hx hfb0
  dsimp only at hk htx
  rcases hk with rfl | rfl | rfl | rfl | rfl
  ·have hq:=hid hq1
   clear hq1
   go_enter func14,ntmps14
   go_wp2_with fail
   refine hn.out.mono ?_
   rintro e w1⟨rfl,hp⟩
   have hp':=hid hp
   clear hp
   go_wp2
   refine bodyPost_ret (v:=.tuple #[.string ⟨tx.toArray⟩,.bool false,.bool true]) (by simp[results,results14,go_sem]) rfl ?_
   rw[hq.out]
   exact⟨rfl,(snKin b hv).behind ((h'.out.setX hp'.out).pst hl'.out (hp'.out.2.mono (λk e=>hT'.out k (by rw[show c k=4 from e];decide))) (add_of hT'.out (Nat.le_refl _))) (Gr.alloc _ _)⟩
  ·have hq:=hid hq1
   clear hq1
   go_enter func14,ntmps14
   go_wp2_with fail
   refine hn.out.mono ?_
   rintro e w1⟨rfl,hp⟩
   have hp':=hid hp
   clear hp
   go_wp2_with fail
   refine (hfb.out _ _ (htx.resolve_left (by decide))).mono ?_
   rintro e w2⟨⟨nn,rfl⟩,g2⟩
   have g2':=hid g2
   clear g2
   go_wp2
   refine bodyPost_ret (v:=.tuple #[.string ⟨(outF 10 tx).toArray⟩,.bool false,.bool true]) (by simp[results,results14,go_sem]) rfl ?_
   rw[hq.out]
   exact⟨rfl,(snKin b hv).behind ((h'.out.setX hp'.out).pst hl'.out (hp'.out.2.mono (λk e=>hT'.out k (by rw[show c k=4 from e];decide))) (add_of hT'.out (Nat.le_refl _))) ((Gr.alloc _ _).trans g2'.out)⟩
  ·have hq:=hid hq1
   clear hq1
   go_enter func14,ntmps14
   go_wp2_with fail
   refine hn.out.mono ?_
   rintro e w1⟨rfl,hp⟩
   have hp':=hid hp
   clear hp
   go_wp2_with fail
   refine (hfb.out _ _ (htx.resolve_left (by decide))).mono ?_
   rintro e w2⟨⟨nn,rfl⟩,g2⟩
   have g2':=hid g2
   clear g2
   go_wp2
   refine bodyPost_ret (v:=.tuple #[.string ⟨(outF op tx).toArray⟩,.bool false,.bool true]) (by simp[results,results14,go_sem]) rfl ?_
   rw[hq.out]
   exact⟨rfl,(snKin b hv).behind ((h'.out.setX hp'.out).pst hl'.out (hp'.out.2.mono (λk e=>hT'.out k (by rw[show c k=4 from e];decide))) (add_of hT'.out (Nat.le_refl _))) ((Gr.alloc _ _).trans g2'.out)⟩
  ·have hq:=hid hq1
   clear hq1
   go_enter func14,ntmps14
   go_wp2_with fail
   refine hn.out.mono ?_
   rintro e w1⟨rfl,hp⟩
   have hp':=hid hp
   clear hp
   go_wp2_with fail
   refine (hfb.out _ _ (htx.resolve_left (by decide))).mono ?_
   rintro e w2⟨⟨nn,rfl⟩,g2⟩
   have g2':=hid g2
   clear g2
   go_wp2
   refine bodyPost_ret (v:=.tuple #[.string ⟨(outF 8 tx).toArray⟩,.bool false,.bool true]) (by simp[results,results14,go_sem]) rfl ?_
   rw[hq.out]
   exact⟨rfl,(snKin b hv).behind ((h'.out.setX hp'.out).pst hl'.out (hp'.out.2.mono (λk e=>hT'.out k (by rw[show c k=4 from e];decide))) (add_of hT'.out (Nat.le_refl _))) ((Gr.alloc _ _).trans g2'.out)⟩
  ·have hq:=hid hq1
   clear hq1
   go_enter func14,ntmps14
   go_wp2_with fail
   refine hn.out.mono ?_
   rintro e w1⟨rfl,hp⟩
   have hp':=hid hp
   clear hp
   go_wp2
   refine bodyPost_ret (v:=.tuple #[.string ⟨#[]⟩,.bool true,.bool true]) (by simp[results,results14,go_sem]) rfl ?_
   rw[hq.out]
   exact⟨rfl,(snKin b hv).behind ((h'.out.setX hp'.out).pst hl'.out (hp'.out.2.mono (λk e=>hT'.out k (by rw[show c k=4 from e];decide))) (add_of hT'.out (Nat.le_refl _))) (Gr.alloc _ _)⟩
theorem sn_puts (h:SnAt b hv T W s) (hG:G W) (x:Rp) (t:Value) (hf:FieldsAt W t x.fs) (hx:RpSm x) (hd cl:Bool):Calls prog 70 #[.pointer (some ⟨b,0,none⟩),x.V t,.bool hd,.bool cl] W λe w'=>e=.returned (.tuple #[])∧Pst (SnAt b hv) T W (ssPuts s x hd cl) w':=by
 obtain⟨⟨c,pb,bb,cv,h,hT⟩,hl⟩:=h
 have h':=hid h
 have hT':=hid hT
 have hl':=hid hl
 have hbT:=hid (hT b (by rw[h.cb];decide))
 have hby:=hid (λW1 (g:Gr W W1)=>bytes_any x t hd cl W1 (hG.gr g) (hf.gr g) hx.1 hx.2.1 hx.2.2.1 hx.2.2.2)
 have hno:=hid (λW1 (g:Gr W W1)=>bytes_any noRp (.slice none 0 0) hd cl W1 (hG.gr g) (fieldsAt_none W1 0) (by decide) (λf hf=>by cases hf) (by decide) (by decide))
 have hre:=hid (λW1 (g:Gr W W1) (r:List UInt8)=>breply_any r (h.gr g).kx)
 obtain⟨p,cap,rfl,_⟩:=hf
 have hq0:ssPuts s x hd cl=if cl then ssEnds { s with x:=(bxReply s.x (putB x hd cl)).1 } else { s with x:=(bxReply s.x (putB x hd cl)).1 }:=rfl
 obtain⟨o,ho⟩:∃ o,bytesR x hd cl=o:=⟨_,rfl⟩
 obtain⟨o2,ho2⟩:∃ o2,bytesR noRp hd cl=o2:=⟨_,rfl⟩
 have hpb:putB x hd cl=o.getD (o2.getD []):=by
  rw[←ho,←ho2]
  unfold putB
  cases bytesR x hd cl <;> rfl
 rw[ho] at hby
 rw[ho2] at hno
 unfold noRp at hno
 unfold Rp.V at hby hno ⊢
 dsimp only at hby hno ⊢
 obtain⟨pb0,hpb0⟩:∃ y,putB x hd cl=y:=⟨_,rfl⟩
 rw[hpb0] at hq0 hpb
 have hq:=hid hq0
 have hfin:=hid (λ(w2 w3:World) (c5:True) (g:Gr W w2) (hp:Pst (BxAt bb) (λk=>c k=4) w2 (bxReply s.x pb0).1 w3)=>(snKin b hv).ahead g (((h.gr g).setX hp).pst (λk e=>Nat.lt_of_lt_of_le (hl k e) (Below.size g)) (hp.2.mono (λk e=>hT k (by rw[show c k=4 from e];decide))) (add_of hT (Nat.le_refl _))))
 have hc5:=hid (λ(W1:World) (g:Gr W W1)=>(h.gr g).c5)
 clear h hT hl hG hx hq0 ho ho2 hpb0
 cases o with
 | some bs =>
  rw[show (some bs).getD (o2.getD [])=bs from rfl] at hpb
  subst hpb
  unfold byteV at hby
  dsimp only at hby
  go_enter func70,ntmps70
  go_wp2_with fail
  refine (hby.out _ (Gr.alloc _ _)).mono ?_
  rintro e w1⟨rfl,g0⟩
  have g1:=(Gr.alloc W (.cells #[.int .i64 x.code,.slice p x.fs.length cap,.string ⟨x.b.toArray⟩] 51)).trans g0
  clear g0
  have c5:=hc5.out _ g1
  have g1':=hid g1
  clear g1
  go_wp2_with fail
  refine (hre.out _ g1'.out _).mono ?_
  rintro e w3⟨rfl,hp⟩
  have hP:=hfin.out _ _ trivial g1'.out hp
  have he:=hid (sn_ends hP.1)
  have hP':=hid hP
  clear hp hP c5
  cases cl with
  | false =>
   go_wp2
   go_end0
   rw[hq.out]
   exact⟨rfl,hP'.out⟩
  | true =>
   go_wp2_with fail
   refine he.out.mono ?_
   rintro e w4⟨rfl,hp4⟩
   have hp4':=hid hp4
   clear hp4
   go_wp2
   go_end0
   rw[hq.out]
   exact⟨rfl,(snKin b hv).trans hP'.out hp4'.out⟩
 | none =>
  rw[show (none:Option (List UInt8)).getD (o2.getD [])=o2.getD [] from rfl] at hpb
  rw[show byteV none=.tuple #[.string ⟨#[]⟩,.int .i64 1] from rfl] at hby
  obtain⟨n2,hn2⟩:∃ n2:Int,byteV o2=.tuple #[.string ⟨pb0.toArray⟩,.int .i64 n2]:=by
   rw[hpb]
   cases o2 with
   | none=>exact⟨_,rfl⟩
   | some y=>exact⟨_,rfl⟩
  rw[hn2] at hno
  clear hn2 hpb
  go_enter func70,ntmps70
  go_wp2_with fail
  refine (hby.out _ (Gr.alloc _ _)).mono ?_
  rintro e w1⟨rfl,g0⟩
  have g00:=(Gr.alloc W (.cells #[.int .i64 x.code,.slice p x.fs.length cap,.string ⟨x.b.toArray⟩] 51)).trans g0
  clear g0
  go_wp2_with fail
  refine (hno.out _ g00).mono ?_
  rintro e w2⟨rfl,g0⟩
  have g1:=g00.trans g0
  clear g0 g00
  have c5:=hc5.out _ g1
  have g1':=hid g1
  clear g1
  go_wp2_with fail
  refine (hre.out _ g1'.out _).mono ?_
  rintro e w3⟨rfl,hp⟩
  have hP:=hfin.out _ _ trivial g1'.out hp
  have he:=hid (sn_ends hP.1)
  have hP':=hid hP
  clear hp hP c5
  cases cl with
  | false =>
   go_wp2
   go_end0
   rw[hq.out]
   exact⟨rfl,hP'.out⟩
  | true =>
   go_wp2_with fail
   refine he.out.mono ?_
   rintro e w4⟨rfl,hp4⟩
   have hp4':=hid hp4
   clear hp4
   go_wp2
   go_end0
   rw[hq.out]
   exact⟨rfl,(snKin b hv).trans hP'.out hp4'.out⟩
theorem sn_up (h:SnAt b hv T W s) (hlim:s.limit≤1099511627776) (hlen:s.p.inp.length+s.p.und.length≤90000):Calls prog 93 #[.pointer (some ⟨b,0,none⟩)] W λe w'=>e=.returned (.tuple #[])∧Pst (SnAt b hv) T W (ssUp s) w':=by
 obtain⟨⟨c,pb,bb,cv,h,hT⟩,hl⟩:=h
 have h':=hid h
 have hT':=hid hT
 have hl':=hid hl
 have hbT:=hid (hT b (by rw[h.cb];decide))
 have c1:=h.c1
 have hw:=hid (wnew_at W s.limit hlim)
 have hrl:(restQ s.p).2.length≤90000:=by
  unfold restQ
  split
  ·exact Nat.zero_le _
  ·simp only[List.length_append];omega
 have hlen':=hid hlen
 have hrl':=hid hrl
 clear h hT hl hlim hlen hrl
 go_enter func93,ntmps93
 go_wp2_with fail
 refine hw.out.mono ?_
 rintro e w1⟨kb,rfl,hk,g1⟩
 have h1:=(h'.out.gr g1).give h'.out.lt 3 (by decide)
 have hsk:SkP (.pointer (some ⟨kb,0,none⟩)) (λk=>recol c W w1 3 k=3) w1 (some (wn0 s.limit)):=⟨kb,rfl,(wnKin kb).mono hk (λk e=>recol_new e.1 e.2) (λk e=>h1.lt k (by rw[e];decide))⟩
 have h2:=h1.setC hsk
 have g1':=hid g1
 have c4:=h1.c4
 have fz:=h1.fz
 have hbs:=h1.blt
 have h2':=hid h2
 clear hk h1 h2 hsk g1
 go_upto_region 1 with (fail)
 obtain⟨w2,hw2⟩:∃ w2,w1.setCell ⟨b,4,none⟩ (.pointer (some ⟨kb,0,none⟩))=w2:=⟨_,rfl⟩
 rw[hw2] at h2'
 rw[hw2]
 have hc2:=hid (show Ch T w1 w2 from hw2▸Ch.setCell w1 (a:=⟨b,4,none⟩) hbT.out _)
 have hs2:=hid (show w2.heap.size=w1.heap.size by rw[←hw2];simp)
 clear hw2 c4 fz hbs c1
 have c3:=h2'.out.c3
 have c4:=h2'.out.c4
 go_region_with (first
  |(go_at_call 113;refine (pqrest_at (h2'.out.gr (Gr.drew' _)).kp hlen'.out).mono ?_;rintro e w3 ⟨rfl,hp3⟩;have h3:=hid ((h2'.out.gr (Gr.drew' _)).setP hp3);have hp3':=hid hp3;clear hp3;have c4:=h3.out.c4)
  |(go_at_call 40;refine (wfeed_at (h3.out.kw_of rfl) _ (by have:=hrl'.out;show 0+_≤_;omega)).mono ?_;rintro e w4 ⟨rfl,hp4⟩;have h4:=hid (h3.out.setW rfl hp4);have hp4':=hid hp4;clear hp4))
 all_goals
  have k2:=h4.out.c2
  have fz:=h4.out.fz
  have hsd:=hp3'.out.2.size
  have gd:=hid (show Gr w2 w2.drew from Gr.drew' _)
  clear c3 c4
  have chA:Ch T W w3:=(g1'.out.to_ch T).trans (hc2.out.trans (((Gr.drew' _).to_ch T).trans (hp3'.out.2.mono (λk e=>by
   have e:recol c W w1 3 k=2:=e
   rcases recol_cases c W w1 3 k with⟨_,e2⟩ | ⟨_,e2⟩
   ·rw[e2] at e;cases e
   ·exact hT'.out k (by rw[←e2,e];decide)))))
  have chB:Ch T W w4:=chA.drop_new hp4'.out.2 (λk e=>by
   rcases recol_cases (recol c W w1 3) _ w3 2 k with⟨_,e2⟩ | ⟨_,e2⟩
   ·exact absurd (e2.symm.trans e) (by decide)
   ·have e:recol c W w1 3 k=3:=e2.symm.trans e
    rcases recol_cases c W w1 3 k with⟨e3,_⟩ | ⟨_,e3⟩
    ·exact .inr e3.1
    ·exact .inl (hT'.out k (by rw[←e3,e];decide)))
  have s1:=Below.size g1'.out
  have s2:=hs2.out
  have s4:=hp4'.out.2.size
  have sd:=Below.size (show Gr w2 w2.drew from Gr.drew' _)
  have hch:=hid chB
  have hfr:=hid (show ∀ k,recol (recol (recol c W w1 3) w2.drew w3 2) w3 w4 3 k≠0→Add T W w4 k from λk e=>by
   rcases recol_imp k e with e | e
   ·rcases recol_imp k e with e | e
    ·rcases recol_imp k e with e | e
     ·exact .inl (hT'.out k e)
     ·exact .inr ⟨e.1,by have:=e.2;omega⟩
    ·exact .inr ⟨by have:=e.1;omega,by have:=e.2;omega⟩
   ·exact .inr ⟨by have:=e.1;omega,by have:=e.2;omega⟩)
  clear chA chB s1 s2 s4 sd hsd gd
  go_wp2
  go_end0
  exact⟨rfl,(h4.out.setSt 2).pst hl'.out (hch.out.trans (Ch.setCell w4 (a:=⟨b,2,none⟩) hbT.out _)) (λk e=>(hfr.out k e).imp_right (λe=>⟨e.1,by rw[World.size_setCell];exact e.2⟩))⟩
end
end Go.Proofs.YtadobobfjnmdlaaGreatDoor
namespace Go.Proofs.YtadobobfjnmdlaaGreatDoor
open Go.RowKit
attribute [local go_sem] Oper.semAt_some
def w5V (x:W5):Value:=.agg #[.int .u32 x.a,.int .u32 x.b,.int .u32 x.c,.int .u32 x.d,.int .u32 x.e]
theorem shafirst_any (w:World):Calls prog 246 #[] w λe w'=>e=.returned (w5V first5)∧Gr w w':=by
 go_enter func246,ntmps246
 go_wp2
 refine bodyPost_ret (v:=w5V first5) (by simp[results,results246,go_sem,w5V,first5]) rfl ⟨rfl,Gr.alloc _ _⟩
theorem getBig_any (s:List UInt8) (hs:4≤s.length) (hl:s.length≤1000000) (w:World):Calls prog 278 #[.string ⟨s.toArray⟩,.int .i64 4] w λe w'=>e=.returned (.int .u64 (bigN s 4))∧w=w':=by
 go_enter func278,ntmps278
 go_wp2
 go_loop [4,7] (λx i=>∃ k:Nat,k≤4∧i=.int .i64 k∧x=.int .u64 (bigN s k)) (λ_ i=>4 - (intOf i).toNat)
 case atStart=>exact⟨0,by omega,rfl,rfl⟩
 case round =>
  obtain⟨k,hk,rfl,rfl⟩:=hrel
  obtain⟨m,hm⟩:∃ m,bigN s k=m:=⟨_,rfl⟩
  have hm':=hid hm
  rw[hm]
  by_cases hk4:k<4
  ·have hkI:(k:Int)<4:=by omega
   obtain⟨c,hc⟩:∃ c,(⟨s.toArray⟩:ByteArray)[k]'(by rw[size_mk];omega)=c:=⟨_,rfl⟩
   have hb:byteN s k=c.toNat:=by unfold byteN;rw[List.getD_eq_getElem?_getD,List.getElem?_eq_getElem (by omega)];exact congrArg UInt8.toNat hc
   have hb':=hid hb
   have hml:m<256 ^ 3:=Nat.lt_of_lt_of_le (hm▸bigN_lt s k) (Nat.pow_le_pow_right (by decide) (by omega))
   have hmI:(m:Int)≤16777215:=by omega
   have hor:bits .or .u64 ((m:Int)*256) (c.toNat:Int)=((m*256+c.toNat:Nat):Int):=by
    have h1:=Go.u64_or_nat (m*256) c.toNat (by omega) (by have:=c.toNat_lt;omega)
    rw[Go.nat_join 8 (m*256) c.toNat (by omega) (by have:=c.toNat_lt;omega)] at h1
    rw[←h1];rfl
   have hks:k<s.length:=by omega
   have hcw:IntKind.u64.wrap (c.toNat:Int)=c.toNat:=by rw[Go.IntKind.wrap_u64];have:=c.toNat_lt;omega
   clear hm hb hml
   go_wp2
   go_round
   case rel=>exact⟨k+1,by omega,by go_num,by rw[bigN,hm'.out,hb'.out];go_num⟩
   case measure=>simp[intOf];omega
  ·have hkI:¬(k:Int)<4:=by omega
   have h4:k=4:=by omega
   go_wp2
   go_ret
   exact⟨by rw[←hm'.out,h4];rfl,rfl⟩
theorem putBig_any (x n:Nat) (hn:n≤8) (hx:x<18446744073709551616) (w:World) :
  Calls prog 249 #[.slice none 0 0,.int .u64 x,.int .i64 n] w λe w'=>∃ v,e=.returned v∧OwnB w.heap.size w' v (beB x n)∧Gr w w':=by
 obtain⟨i0,hi,hz0,hz1,hz2⟩:=info_parts infoU8
 have hnI:(n:Int)≤8:=by omega
 have hx':=hid hx
 clear hx
 go_enter func249,ntmps249
 go_wp2
 go_loopw [0,7] (λb i wr=>∃ (j:Nat) (acc:List UInt8),j+acc.length=n∧acc++beB x j=beB x n∧i=.int .i64 ((j:Int) - 1)∧OwnB w.heap.size wr b acc∧Gr w wr) (λ_ i _=>(intOf i+1).toNat)
 case atStart=>exact⟨n,[],by simp,rfl,rfl,OwnB.nil _ _,Gr.refl _⟩
 case round =>
  obtain⟨j,acc,hj,hacc,rfl,hown,hg⟩:=hrel
  have hown':=hid hown
  have hg':=hid hg
  have hacc':=hid hacc
  clear hown hg hacc
  cases j with
  | zero =>
   have hb:=hid (show acc=beB x n by have:=hacc'.out;simpa[beB] using this)
   go_wp2
   go_ret
   exact⟨_,rfl,hb.out▸hown'.out,hg'.out⟩
  | succ q =>
   have hq8:(q:Int)<8:=by omega
   obtain⟨d,hd⟩:∃ d,UInt8.ofNat (x / 256 ^ q)=d:=⟨_,rfl⟩
   have hdI:(x:Int) / 2 ^ (8*q) % 256=(d.toNat:Int):=by
    rw[←hd,UInt8.toNat_ofNat',show (256:Nat)=2 ^ 8 from rfl,←Nat.pow_mul,Int.natCast_emod,Int.natCast_ediv]
    simp
   have hacc2:=hid (show (acc++[d])++beB x q=beB x n by rw[←hacc'.out,←hd];simp[beB])
   obtain⟨p,cap,hv⟩:=hown'.out.slice
   subst hv
   have hal:acc.length≤8:=by omega
   clear hd hacc'
   go_wp2_with (at_builtin;refine wpList_append_own _ rfl _ _ 100 rfl w.heap.size 5 i0 (.int .u8 0) 1 1 underlying100 hi hz0 hz1 hz2 rfl (by decide) _ _ _ rfl (World.ownsRow.alloc hown'.out _) ⟨wr.heap.size,0,none⟩ 1 1 [.int .u8 d.toNat] rfl rfl (cell_one_new _ _ _) (by simp[Value.oneCell']) (by unfold maxLen;omega) (by omega) (by have:=Below.size hg'.out;simp;omega) ?_;intro v' w1 hown2 hgrow _)
   have hown3:=hid (own_snoc hown2)
   have hg2:=hid (Below.grown (hg'.out.alloc1 _) hgrow (Below.size (hg'.out.alloc1 _)) (λk e=>(hown'.out.lt k e).1))
   clear hown2 hgrow
   go_wp2
   go_roundw
   case rel=>exact⟨q,acc++[d],by simp;omega,hacc2.out,rfl,hown3.out,hg2.out⟩
   case measure=>simp[intOf]
end Go.Proofs.YtadobobfjnmdlaaGreatDoor
namespace Go
open Go.RowKit
theorem Gr.setCells {w:World} {b:Nat} (hb:w.heap.size≤b):∀ (vs:List Value) (o:Nat) {W:World},Gr w W→Gr w (W.setCells b o vs)
 | [],_,_,h=>h
 | v :: r,o,_,h=>Gr.setCells hb r (o+1) (h.setCell (p:=⟨b,o,none⟩) hb v)
theorem results_cell {P:Program} {fn:Func} {t:Tmp} {ty:TypeId} (h:fn.results=#[.cell t ty]) {tmps:Array Value} {a:Addr} {v:Value} {w:World} (hx:tmps.getD t undef=.pointer (some a)) (hr:(loadVar ty a).run P w=.ok v w) :
  (results fn tmps).run P w=.ok v w:=by
 rw[Array.getD_eq_getD_getElem?] at hx
 simp[results,h,hx,asAddr,hr]
theorem run_index_agg {P:Program} (w:World) {t e:TypeId} {n:Nat} (cs:Array Value) (k:IntKind) (i:Nat) {v:Value} (h:P.underlying t=some (.array n e)) (ha:(isAgg e).run P w=.ok false w) (hs:(sizeOf e).run P w=.ok 1 w) (hi:i<n) (hv:cs[i]?=some v) :
  (Instr.index t (.agg cs) (.int k i)).run P w=.ok v w:=by
 simp[Instr.index,run_underlying h,asIntOf,hi,part,ha,hs,hv]
end Go
namespace Go.Proofs.YtadobobfjnmdlaaGreatDoor
open Go.RowKit
attribute [local go_sem] Oper.semAt_some
def wordsV (s:List UInt8):Value:=.agg ((List.range 80).map λj=>Value.int .u32 (wS s j)).toArray
theorem bigN_word (s:List UInt8) (t:Nat):bigN (s.drop (4*t)) 4=word0 s t:=by
 have e:∀ i,byteN (s.drop (4*t)) i=byteN s (4*t+i):=λi=>by simp[byteN,List.getD_eq_getElem?_getD]
 simp only[bigN,e,word0]
 simp
theorem rot1_later (C:World→Prop) {x r:Nat} (hr:rotW 1 x=r) (hx:x<4294967296) (y:Later C) :
  Calls prog 269 #[.int .u32 x,.int .i64 1] y.w λe w'=>e=.returned (.int .u32 r)∧∃ z:Later C,w'=z.w :=
 Calls.later ((rot1_any x hx y.w).mono λ_ _ ⟨h1,h2⟩=>⟨hr▸h1,h2▸y.ok⟩)
theorem cells_step {wr:World} {b t W n:Nat} {f:Nat→Nat} (hc:∀ j,j<n→wr.cell? ⟨b,j,none⟩=some (.int .u32 ((if j<t then f j else 0:Nat):Int))) (ht:t<n) (hW:f t=W) :
  ∀ j,j<n→(wr.setCell ⟨b,t,none⟩ (.int .u32 W)).cell? ⟨b,j,none⟩=some (.int .u32 ((if j<t+1 then f j else 0:Nat):Int)):=λj hj=>by
 by_cases h:j=t
 ·subst h;rw[if_pos (by omega),hW];exact cell_set_same (hc j hj)
 ·rw[cell_off (hc j hj) h]
  by_cases h2:j<t
  ·rw[if_pos h2,if_pos (by omega)]
  ·rw[if_neg h2,if_neg (by omega)]
theorem schedule_any (s:List UInt8) (hs:s.length=64) (w:World):Calls prog 267 #[.string ⟨s.toArray⟩] w λe w'=>e=.returned (wordsV s)∧Gr w w':=by
 have hs':=hid hs
 have hsl:s.length≤64:=by omega
 have hsg:64≤s.length:=by omega
 clear hs
 go_enter func267,ntmps267
 go_wp2
 obtain⟨b,hb⟩:∃ b,w.heap.size=b:=⟨_,rfl⟩
 have hb':=hid hb
 have h80:Tryz.zeroCells296=Array.replicate 80 (.int .u32 0):=by kernel_rfl
 have hcs:=hid (show ∀ j,j<80→(w.alloc (.cells Tryz.zeroCells296 296)).cell? ⟨b,j,none⟩=some (.int .u32 ((if j<0 then wS s j else 0:Nat):Int)) by
  intro j hj
  rw[←hb,h80]
  simp only[World.cell?,World.alloc_heap_new]
  rw[Array.getElem?_replicate,if_pos hj];rfl)
 have hfz:=hid (show ∀ j,(w.alloc (.cells Tryz.zeroCells296 296)).frozen? ⟨b,j,none⟩=false from hb▸λj=>World.frozen?_alloc_at _ _ _ _ rfl)
 rw[hb]
 clear h80 hb
 go_loopw [4] (λi wr=>∃ t:Nat,t≤80∧i=.int .i64 t∧(∀ j,j<80→wr.cell? ⟨b,j,none⟩=some (.int .u32 ((if j<t then wS s j else 0:Nat):Int)))∧(∀ j,wr.frozen? ⟨b,j,none⟩=false)∧Gr w wr) (λi _=>80 - (intOf i).toNat)
 case atStart=>exact⟨0,by omega,rfl,hcs.out,hfz.out,Gr.alloc _ _⟩
 case round =>
  obtain⟨t,ht,rfl,hc,hf,hg⟩:=hrel
  have hc':=hid hc
  have hf':=hid hf
  have hg':=hid hg
  clear hc hf hg
  by_cases h80:t<80
  ·have h80I:(t:Int)<80:=by omega
   have hct:=hc'.out t h80
   have hft:=hf'.out t
   have hbl:b<wr.heap.size:=cell_lt hct
   by_cases h16:t<16
   ·have h16I:(t:Int)<16:=by omega
    have hx:(⟨s.toArray⟩:ByteArray).extract (4*t) s.length=⟨(s.drop (4*t)).toArray⟩:=by rw[extract_mk];simp
    obtain⟨v,hv⟩:∃ v,s.drop (4*t)=v:=⟨_,rfl⟩
    have hvl:=hid (show 4≤v.length by rw[←hv,List.length_drop];omega)
    have hvl2:=hid (show v.length≤1000000 by rw[←hv,List.length_drop];omega)
    have hw0:=hid (show bigN v 4=wS s t by rw[←hv,bigN_word,wS_low s h16])
    rw[hv] at hx
    obtain⟨W,hW⟩:∃ W,wS s t=W:=⟨_,rfl⟩
    have hWl:(W:Int)<4294967296:=by have:=wS_lt s t;omega
    have hWw:IntKind.u32.wrap (W:Int)=W:=by rw[Go.IntKind.wrap_u32'];omega
    rw[hW] at hw0
    have hW':=hid hW
    clear hv hW
    go_wp2_with fail
    refine (getBig_any v hvl.out hvl2.out _).mono ?_
    rintro e w1⟨he,rfl⟩
    rw[hw0.out] at he
    subst he
    go_wp2
    go_roundw
    case rel=>exact⟨t+1,by omega,by go_num,cells_step hc'.out h80 hW'.out,λj=>frozen_set.trans (hf'.out j),hg'.out.setCell (Nat.le_of_eq hb'.out) _⟩
    case measure=>simp[intOf];omega
   ·have h16I:¬(t:Int)<16:=by omega
    have d1:=hc'.out (t - 3) (by omega)
    have d2:=hc'.out (t - 8) (by omega)
    have d3:=hc'.out (t - 14) (by omega)
    have d4:=hc'.out (t - 16) (by omega)
    rw[if_pos (by omega)] at d1 d2 d3 d4
    have hwr:=wS_high s h16
    have k1:=wS_lt s (t - 3)
    have k2:=wS_lt s (t - 8)
    have k3:=wS_lt s (t - 14)
    have k4:=wS_lt s (t - 16)
    obtain⟨x1,hx1⟩:∃ x,wS s (t - 3)=x:=⟨_,rfl⟩
    obtain⟨x2,hx2⟩:∃ x,wS s (t - 8)=x:=⟨_,rfl⟩
    obtain⟨x3,hx3⟩:∃ x,wS s (t - 14)=x:=⟨_,rfl⟩
    obtain⟨x4,hx4⟩:∃ x,wS s (t - 16)=x:=⟨_,rfl⟩
    rw[hx1] at d1 k1
    rw[hx2] at d2 k2
    rw[hx3] at d3 k3
    rw[hx4] at d4 k4
    rw[hx1,hx2,hx3,hx4] at hwr
    have y1:=xor32 k1 k2
    have y2:=xor32 (xor_lt32 k1 k2) k3
    have y3:=xor32 (xor_lt32 (xor_lt32 k1 k2) k3) k4
    have yl:=xor_lt32 (xor_lt32 (xor_lt32 k1 k2) k3) k4
    obtain⟨z1,hz1⟩:∃ z,x1^^^x2=z:=⟨_,rfl⟩
    rw[hz1] at y1 y2 y3 yl hwr
    obtain⟨z2,hz2⟩:∃ z,z1^^^x3=z:=⟨_,rfl⟩
    rw[hz2] at y2 y3 yl hwr
    obtain⟨z3,hz3⟩:∃ z,z2^^^x4=z:=⟨_,rfl⟩
    rw[hz3] at y3 yl hwr
    obtain⟨W,hW⟩:∃ W,wS s t=W:=⟨_,rfl⟩
    rw[hW] at hwr
    have hwr':=hid hwr.symm
    have yl':=hid yl
    have hW':=hid hW
    have e1:IntKind.i64.wrap ((t:Int) - 3)=(t:Int) - 3:=IntWalk.i64_in _ (by omega)
    have e2:IntKind.i64.wrap ((t:Int) - 8)=(t:Int) - 8:=IntWalk.i64_in _ (by omega)
    have e3:IntKind.i64.wrap ((t:Int) - 14)=(t:Int) - 14:=IntWalk.i64_in _ (by omega)
    have e4:IntKind.i64.wrap ((t:Int) - 16)=(t:Int) - 16:=IntWalk.i64_in _ (by omega)
    have p1:3≤(t:Int):=by omega
    have p2:8≤(t:Int):=by omega
    have p3:14≤(t:Int):=by omega
    have p4:16≤(t:Int):=by omega
    have n1:((t:Int) - 3).toNat=t - 3:=by omega
    have n2:((t:Int) - 8).toNat=t - 8:=by omega
    have n3:((t:Int) - 14).toNat=t - 14:=by omega
    have n4:((t:Int) - 16).toNat=t - 16:=by omega
    clear hx1 hx2 hx3 hx4 k1 k2 k3 k4 hz1 hz2 hz3 hwr hW yl
    have t1:∀ y:Later (Gr wr),y.w.cell? ⟨b,t - 3,none⟩=some (.int .u32 x1):=λy=>y.ok.cell d1
    have t2:∀ y:Later (Gr wr),y.w.cell? ⟨b,t - 8,none⟩=some (.int .u32 x2):=λy=>y.ok.cell d2
    have t3:∀ y:Later (Gr wr),y.w.cell? ⟨b,t - 14,none⟩=some (.int .u32 x3):=λy=>y.ok.cell d3
    have t4:∀ y:Later (Gr wr),y.w.cell? ⟨b,t - 16,none⟩=some (.int .u32 x4):=λy=>y.ok.cell d4
    haveI:Nonempty (Later (Gr wr)):=⟨⟨wr,Gr.refl wr⟩⟩
    go_upto_region 6 with (fail)
    refine wp_region_later_tail (C:=Gr wr) 22 (by kernel_rfl) (by kernel_rfl) (Gr.drew' _) ?_
    simp only[List.take_succ_cons,List.take_zero,List.drop_succ_cons,List.drop_zero]
    repeat (go_big_quiet_step (with_reducible exact rot1_later _ hwr'.out yl'.out _))
    refine wpQuiet_nil ?_
    intro w9 hg9
    have hc9:=hid (λj (hj:j<80)=>hg9.cell (hc'.out j hj))
    have hf9:=hid (λj=>(Below.frozen hg9 (p:=⟨b,j,none⟩) hbl).trans (hf'.out j))
    have hct9:=hc9.out t h80
    have hft9:=hf9.out t
    have hg9':=hid (hg'.out.trans hg9)
    clear hg9 t1 t2 t3 t4 hct hft d1 d2 d3 d4
    go_wp2
    go_roundw
    case rel=>exact⟨t+1,by omega,by go_num,cells_step hc9.out h80 hW'.out,λj=>frozen_set.trans (hf9.out j),hg9'.out.setCell (Nat.le_of_eq hb'.out) _⟩
    case measure=>simp[intOf];omega
  ·obtain rfl:t=80:=by omega
   have hcs:∀ j v,((List.range 80).map λj=>Value.int .u32 (wS s j))[j]?=some v→wr.cell? ⟨b,0+j,none⟩=some v:=λj v hv=>by
    rw[List.getElem?_map] at hv
    obtain⟨k,hk,rfl⟩:=Option.map_eq_some_iff.1 hv
    obtain⟨hj,hjk⟩:=List.getElem?_eq_some_iff.1 hk
    rw[List.length_range] at hj
    rw[List.getElem_range] at hjk
    subst hjk
    rw[Nat.zero_add]
    have:=hc'.out j hj
    rw[if_pos hj] at this
    exact this
   have hcs':=hid hcs
   clear hcs
   go_upto_region 8 with (fail)
   refine wp_region_lit ?_
   have hsz:(prog.info? 296).map (·.size)=some ((List.range 80).map λj=>Value.int .u32 (wS s j)).length:=by rw[List.length_map,List.length_range];kernel_rfl
   have hth:wr.there b 0 80:=λj hj=>by
    rw[Nat.zero_add]
    exact⟨by rw[hc'.out j hj];rfl,hf'.out j⟩
   obtain⟨cs,hcsd⟩:∃ cs,((List.range 80).map λj=>Value.int .u32 (wS s j))=cs:=⟨_,rfl⟩
   have hone:∀ v∈cs,v.oneCell'=true:=by
    rw[←hcsd];intro v hv
    obtain⟨j,_,rfl⟩:=List.mem_map.1 hv
    rfl
   have hlen:cs.length=80:=by rw[←hcsd,List.length_map,List.length_range]
   have hV:wordsV s=.agg cs.toArray:=by rw[←hcsd];rfl
   rw[hcsd] at hcs' hsz
   refine wpList_load_mid rfl 296 _ rfl b 0 rfl cs _ hcs'.out underlying296 rfl hsz ?_
   refine wpList_store_mid rfl 296 _ _ rfl b 0 cs.toArray rfl rfl (by simpa[hlen] using hth) (by simpa using hsz) (all_oneCell_toArray hone) ?_
   have hV':=hid hV
   have hsz':=hid hsz
   have hat:=hid (World.rangeAt_setCells_same wr b 0 cs (by rw[hlen];exact hth))
   have hg9:=hid (Gr.setCells (Nat.le_of_eq hb'.out) cs 0 hg'.out)
   clear hV hsz hcsd hone hlen hth
   simp only[List.toList_toArray]
   generalize wr.setCells b 0 cs=w9 at hat hg9 ⊢
   go_wp2
   refine bodyPost_ret (results_cell rfl rfl (run_loadVar_mid w9 b 0 296 cs _ hat.out underlying296 rfl hsz'.out)) rfl ⟨by rw[hV'.out],hg9.out⟩
