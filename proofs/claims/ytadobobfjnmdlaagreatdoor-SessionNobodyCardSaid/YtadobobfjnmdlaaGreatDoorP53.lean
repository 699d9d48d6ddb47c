/-
  Plain laws of sessions: however bytes are cut, a session tells the same; no program in sight.
-/
import Derived.Test.YtadobobfjnmdlaaGreatDoorP19
import Derived.Test.YtadobobfjnmdlaaGreatDoorJm
import Derived.Test.YtadobobfjnmdlaaGreatDoorP42
import Derived.Test.YtadobobfjnmdlaaGreatDoorEc
import Derived.Test.YtadobobfjnmdlaaGreatDoorEa
import Derived.Test.YtadobobfjnmdlaaGreatDoorRw
import Derived.Deep.Onto
import Derived.Test.YtadobobfjnmdlaaGreatDoorP0
import Derived.Deep.MidRow
import Derived.Tactics
set_option linter.unusedVariables false
set_option linter.unusedSimpArgs false
set_option maxHeartbeats 16000000
set_option maxRecDepth 100000
open Go.Lib (hid)
namespace Go.Proofs.YtadobobfjnmdlaaGreatDoor
section
variable {H:Rq→Rp} {limit:Nat}
theorem wnFeed_st (c:Wn) (b:List UInt8):(wnFeed c b).st=c.st:=by unfold wnFeed;split <;> rfl
end
section
variable {H:Rq→Rp} {limit:Nat}
def saidS:Option Sev→List (Nat×List UInt8)
 | some (.said op t)=>[(op,t)]
 | _=>[]
def evSt (o:Option Wev) (a b:Nat):Prop:=match o with
 | some (.closing _)=>b=3
 | some (.failing _)=>b=3
 | _=>b=a
theorem wnTakes_ev (c:Wn) (e:Fev):evSt (wnTakes c e).2 c.st (wnTakes c e).1.st:=by
 unfold wnTakes wnControl wnJoin wnFail
 cases e <;> dsimp only <;> (repeat' split) <;> (try exact rfl)
 all_goals (cases (jnEnd c.j).2 <;> exact rfl)
theorem wnGo_ev:∀ (n:Nat) (c:Wn),evSt (wnGo n c).2 c.st (wnGo n c).1.st
 | 0,_=>rfl
 | n+1,c=>by
  unfold wnGo
  split
  ·exact rfl
  ·cases hf:frNext c.r with
   | mk r o =>
    cases o with
    | none=>exact rfl
    | some ev =>
     dsimp only
     have hv:=wnTakes_ev { c with r:=r } ev
     cases ht:wnTakes { c with r:=r } ev with
     | mk c2 o2 =>
      rw [ht] at hv
      cases o2 with
      | none =>
       have hv:c2.st=c.st:=hv
       dsimp only
       rw [←hv]
       exact wnGo_ev n c2
      | some x=>exact hv
theorem wnNext_ev (c:Wn):evSt (wnNext c).2 c.st (wnNext c).1.st:=wnGo_ev _ c
end
structure Bok (x:Bx):Prop where
 t:x.told=true→x.ends=true∧x.reps=[]∧x.pong=none∧x.msgs=[]∧x.close=none
 r:x.reps.length≤4
 m:x.msgs.length≤x.q
 q:x.q≤64
 k:∀ m∈x.msgs,m.kind=3
structure Sok (s:Ss):Prop where
 a:s.st=1∨s.st=2∨s.st=3
 b:s.st=2→∃ c,s.c=some c∧(c.st=1∨c.st=2)
 e:s.x.ends=decide (s.st=3)
 x:Bok s.x
theorem bok0 {q:Nat} (h:q≤64):Bok (bx0 q):=⟨fun e=>absurd (show false=true from e) (by decide),Nat.zero_le _,Nat.zero_le _,h,fun _ hm=>by cases hm⟩
theorem sok0 {q limit:Nat} (h:q≤64):Sok (ss0 q limit):=⟨.inl rfl,fun e=>absurd (show (1:Nat)=2 from e) (by decide),rfl,bok0 h⟩
theorem Bok.reply {x:Bx} (h:Bok x) (s:List UInt8):Bok (bxReply x s).1∧(bxReply x s).1.ends=x.ends∧(bxReply x s).1.q=x.q:=by
 unfold bxReply
 split
 ·exact ⟨h,rfl,rfl⟩
 ·rename_i hs
  split
  ·exact ⟨h,rfl,rfl⟩
  ·refine ⟨⟨fun e=>?_,?_,h.m,h.q,h.k⟩,rfl,rfl⟩
   ·have:=(h.t e).1
    unfold bxShut at hs
    rw [this,Bool.or_true] at hs
    exact absurd rfl hs
   ·simp only [List.length_append,List.length_singleton];omega
theorem Bok.pong {x:Bx} (h:Bok x) (s:List UInt8):Bok (bxPong x s).1∧(bxPong x s).1.ends=x.ends∧(bxPong x s).1.q=x.q:=by
 unfold bxPong
 split
 ·exact ⟨h,rfl,rfl⟩
 ·rename_i hs
  refine ⟨⟨fun e=>?_,h.r,h.m,h.q,h.k⟩,rfl,rfl⟩
  have:=(h.t e).1
  unfold bxShut at hs
  rw [this,Bool.or_true] at hs
  exact absurd rfl hs
theorem Bok.close {x:Bx} (h:Bok x) (s:List UInt8):Bok (bxClose x s).1∧(bxClose x s).1.ends=x.ends∧(bxClose x s).1.q=x.q:=by
 unfold bxClose
 split
 ·exact ⟨h,rfl,rfl⟩
 ·rename_i hs
  refine ⟨⟨fun e=>?_,h.r,h.m,h.q,h.k⟩,rfl,rfl⟩
  have:=(h.t e).1
  unfold bxShut at hs
  rw [this,Bool.or_true] at hs
  exact absurd rfl hs
theorem Bok.end' {x:Bx} (h:Bok x):Bok (bxEnd x):=⟨fun e=>⟨rfl,(h.t e).2⟩,h.r,h.m,h.q,h.k⟩
theorem Bok.next {x:Bx} (h:Bok x):Bok (bxNext x).1∧(bxNext x).1.ends=x.ends∧(bxNext x).1.q=x.q:=by
 obtain ⟨q,reps,pong,msgs,close,closed,ends,told⟩:=x
 obtain ⟨h1,h2,h3,h4,h5⟩:=h
 dsimp only at h1 h2 h3 h4 h5
 unfold bxNext
 dsimp only
 cases reps with
 | cons a l=>exact ⟨⟨fun e=>by (cases (h1 e).2.1),by simp only [List.length_cons] at h2 ⊢;omega,h3,h4,h5⟩,rfl,rfl⟩
 | nil =>
  cases pong with
  | some a=>exact ⟨⟨fun e=>by (cases (h1 e).2.2.1),h2,h3,h4,h5⟩,rfl,rfl⟩
  | none =>
   cases msgs with
   | cons a l=>exact ⟨⟨fun e=>by (cases (h1 e).2.2.2.1),h2,by simp only [List.length_cons] at h3 ⊢;omega,h4,fun m hm=>h5 m (List.mem_cons_of_mem _ hm)⟩,rfl,rfl⟩
   | nil =>
    cases close with
    | some a=>exact ⟨⟨fun e=>by (cases (h1 e).2.2.2.2),h2,h3,h4,h5⟩,rfl,rfl⟩
    | none =>
     dsimp only
     split
     ·rename_i he
      exact ⟨⟨fun _=>⟨by simpa using (Bool.and_eq_true _ _▸he).1,rfl,rfl,rfl,rfl⟩,h2,h3,h4,h5⟩,rfl,rfl⟩
     ·exact ⟨⟨h1,h2,h3,h4,h5⟩,rfl,rfl⟩
theorem Sok.feed {s:Ss} (h:Sok s) (b:List UInt8):Sok (ssFeed s b):=by
 unfold ssFeed
 split
 ·exact ⟨h.a,h.b,h.e,h.x⟩
 ·split
  ·rename_i h2
   obtain ⟨c,hc,hs⟩:=h.b h2
   refine ⟨h.a,fun _=>⟨wnFeed c b,by dsimp only;rw [hc];rfl,?_⟩,h.e,h.x⟩
   have:(wnFeed c b).st=c.st:=by unfold wnFeed;split <;> rfl
   rw [this];exact hs
  ·exact h
theorem Sok.ends {s:Ss} (h:Sok s):Sok (ssEnds s):=⟨.inr (.inr rfl),fun e=>absurd (show (3:Nat)=2 from e) (by decide),rfl,h.x.end'⟩
theorem Sok.out {s:Ss} (h:Sok s):Sok (ssOut s).1:=⟨h.a,h.b,h.x.next.2.1.trans h.e,h.x.next.1⟩
theorem Sok.puts {s:Ss} (h:Sok s) (x:Rp) (hd cl:Bool):Sok (ssPuts s x hd cl):=by
 have h1:Sok { s with x:=(bxReply s.x (putB x hd cl)).1 }:=⟨h.a,h.b,(h.x.reply _).2.1.trans h.e,(h.x.reply _).1⟩
 unfold ssPuts
 split
 ·exact h1.ends
 ·exact h1
theorem Sok.fresh {s:Ss} (h:Sok s) (b:Bool):Sok { s with fresh:=b }:=⟨h.a,h.b,h.e,h.x⟩
theorem Sok.parser {s:Ss} (h:Sok s) (p:Ps):Sok { s with p:=p }:=⟨h.a,h.b,h.e,h.x⟩
theorem Sok.up {s:Ss} (h:Sok s) (h1:s.st=1):Sok (ssUp s):=by
 refine ⟨.inr (.inl rfl),fun _=>⟨_,rfl,.inl (wnFeed_st _ _)⟩,?_,h.x⟩
 have:=h.e
 rw [h1] at this
 exact this
theorem ssPuts_st {s:Ss} (x:Rp) (hd:Bool):(ssPuts s x hd false).st=s.st:=rfl
theorem Sok.answers {H:Rq→Rp} {s:Ss} (h:Sok s) (h1:s.st=1) (r:Rq):Sok (ssAnswers H s r).1:=by
 unfold ssAnswers
 split
 ·split
  ·exact (h.puts _ _ _).up ((ssPuts_st _ _).trans h1)
  ·exact h.puts _ _ _
 ·exact h.puts _ _ _
theorem Sok.asks {H:Rq→Rp} {s:Ss} (h:Sok s) (h1:s.st=1):Sok (ssAsks H s).1:=by
 unfold ssAsks
 split
 ·rename_i p r _
  exact Sok.answers (s:={ s with p:=p }) (h.parser p) h1 r
 ·rename_i p _
  split
  ·exact h.parser p
  ·exact Sok.puts (s:={ s with p:=p }) (h.parser p) ⟨p.bad,[],reasonL p.bad⟩ false true
theorem ends_ok {s:Ss} (h:Bok s.x):Sok (ssEnds s):=⟨.inr (.inr rfl),fun e=>absurd (show (3:Nat)=2 from e) (by decide),rfl,h.end'⟩
theorem gone_ok {s:Ss} (h:Bok s.x) (was code:Nat):Sok (ssGone s was code):=by
 unfold ssGone
 split
 ·exact ends_ok (h.close _).1
 ·exact ends_ok h
theorem Sok.says {s:Ss} (h:Sok s) (h2:s.st=2):Sok (ssSays s).1:=by
 obtain ⟨c,hc,hs⟩:=h.b h2
 have hw:ssWn s=c:=by unfold ssWn;rw [hc];rfl
 have hv:=wnNext_ev c
 unfold ssSays
 rw [hw]
 cases e:wnNext c with
 | mk c1 o =>
  rw [e] at hv
  cases o with
  | none =>
   have hv:c1.st=c.st:=hv
   exact ⟨h.a,fun _=>⟨c1,rfl,by rw [hv];exact hs⟩,h.e,h.x⟩
  | some x =>
   cases x with
   | message op t =>
    have hv:c1.st=c.st:=hv
    exact ⟨h.a,fun _=>⟨c1,rfl,by rw [hv];exact hs⟩,h.e,h.x⟩
   | ping t =>
    have hv:c1.st=c.st:=hv
    exact ⟨h.a,fun _=>⟨c1,rfl,by rw [hv];exact hs⟩,(h.x.pong t).2.1.trans h.e,(h.x.pong t).1⟩
   | closing code=>exact gone_ok (s:={ s with c:=some c1 }) h.x c.st code
   | failing code=>exact gone_ok (s:={ s with c:=some c1 }) h.x c.st code
theorem Sok.next {H:Rq→Rp} {s:Ss} (h:Sok s):Sok (ssNext H s).1:=by
 unfold ssNext
 cases ht:ssTakes s with
 | false=>exact h
 | true =>
  rw [if_neg (by decide)]
  dsimp only
  have h3:s.st≠3:=by
   intro e
   unfold ssTakes at ht
   rw [e] at ht
   cases ht
  by_cases h1:s.st=1
  ·rw [if_pos h1]
   split
   ·exact (h.asks h1).fresh _
   ·exact h.asks h1
  ·rw [if_neg h1]
   have h2:s.st=2:=by rcases h.a with e | e | e <;> omega
   split
   ·exact (h.says h2).fresh _
   ·exact h.says h2
end Go.Proofs.YtadobobfjnmdlaaGreatDoor
namespace Go.Proofs.YtadobobfjnmdlaaGreatDoor
open Go.RowKit Go.Shelf
attribute [local go_sem] Oper.semAt_some
section
variable {b:Nat} {hv:Value} {T:Nat→Prop} {W:World} {s:Ss}
end
def outV:Option (List UInt8×Bool)→Value
 | none=>.tuple #[.string ⟨#[]⟩,.bool false,.bool false]
 | some (t,e)=>.tuple #[.string ⟨t.toArray⟩,.bool e,.bool true]
theorem bxNext_kind {x:Bx} (h:Bok x) {it:It} (e:(bxNext x).2=some it):it.kind=1∨it.kind=2∨it.kind=3∨it.kind=4∨it.kind=5:=by
 obtain ⟨q,reps,pong,msgs,close,closed,ends,told⟩:=x
 have hk:=h.k
 unfold bxNext at e
 dsimp only at e hk
 cases reps with
 | cons a l=>cases e;exact .inl rfl
 | nil =>
  cases pong with
  | some a=>cases e;exact .inr (.inl rfl)
  | none =>
   cases msgs with
   | cons a l=>cases e;exact .inr (.inr (.inl (hk _ (List.mem_cons_self ..))))
   | nil =>
    cases close with
    | some a=>cases e;exact .inr (.inr (.inr (.inl rfl)))
    | none =>
     dsimp only at e
     split at e
     ·cases e;exact .inr (.inr (.inr (.inr rfl)))
     ·cases e
theorem SnS.kw_of {b:Nat} {hv:Value} {c:Nat→Nat} {W:World} {s:Ss} {pb bb k0:Nat} {w:Wn} (h:SnS b hv c W s pb bb (.pointer (some ⟨k0,0,none⟩))) (hw:s.c=some w):WnAt k0 (fun k=>c k=3) W w:=by
 have k:=h.kw
 rw [hw] at k
 obtain ⟨k1,e,k⟩:=k
 cases e
 exact k
section
variable {b:Nat} {hv:Value} {T:Nat→Prop} {W:World} {s:Ss}
theorem sn_out (h:SnAt b hv T W s) (hb:Bok s.x) (hx:∀ it,(bxNext s.x).2=some it→it.kind=1∨it.text.length≤4611686018427387900):Calls Tryz.prog 14 #[.pointer (some ⟨b,0,none⟩)] W fun e w'=>e=.returned (outV (ssOut s).2)∧Pst (SnAt b hv) T W (ssOut s).1 w':=by
 obtain ⟨⟨c,pb,bb,cv,h,hT⟩,hl⟩:=h
 have h':=hid h
 have hT':=hid hT
 have hl':=hid hl
 have hbT:=hid (hT b (by rw [h.cb];decide))
 have c5:=h.c5
 have hn0:=bnext_any h.kx
 have hkd:=fun it=>bxNext_kind (it:=it) hb
 have hq0:ssOut s=({ s with x:=(bxNext s.x).1 },(bxNext s.x).2.map outB'):=rfl
 obtain ⟨x',o,hxo⟩:∃ x' o,bxNext s.x=(x',o):=⟨_,_,rfl⟩
 rw [hxo] at hn0 hkd hx hq0
 dsimp only at hn0 hkd hx hq0
 have hn:=hid hn0
 clear h hT hl hn0 hxo hb
 cases o with
 | none =>
  have hq:=hid hq0
  rw [nextV_none] at hn
  unfold it0 It.V at hn
  clear hq0 hkd hx
  go_enter Tryz.func14,Tryz.ntmps14
  go_wp2_with (fail)
  refine hn.out.mono ?_
  rintro e w1 ⟨rfl,hp⟩
  have hp':=hid hp
  clear hp
  go_wp2
  refine bodyPost_ret (v:=.tuple #[.string ⟨#[]⟩,.bool false,.bool false]) (by simp [results,Tryz.results14,go_sem]) rfl ?_
  rw [hq.out]
  exact ⟨rfl,(snKin b hv).behind ((h'.out.setX hp'.out).pst hl'.out (hp'.out.2.mono (fun k e=>hT'.out k (by rw [show c k=4 from e];decide))) (add_of hT'.out (Nat.le_refl _))) (Gr.alloc _ _)⟩
 | some it =>
  obtain ⟨k,op,tx⟩:=it
  have hk:=hkd _ rfl
  have htx:=hx _ rfl
  have hfb0:=fun (op:Int) (W:World) (h:tx.length≤4611686018427387900)=>fbytes_any op tx W h
  unfold FbPost frV at hfb0
  have hfb:=hid hfb0
  have hq1:ssOut s=({ s with x:=x' },some (outB' ⟨k,op,tx⟩)):=hq0
  rw [nextV_some] at hn
  unfold It.V at hn
  clear hq0 hkd hx hfb0
  dsimp only at hk htx
  rcases hk with rfl | rfl | rfl | rfl | rfl
  ·have hq:=hid hq1
   clear hq1
   go_enter Tryz.func14,Tryz.ntmps14
   go_wp2_with (fail)
   refine hn.out.mono ?_
   rintro e w1 ⟨rfl,hp⟩
   have hp':=hid hp
   clear hp
   go_wp2
   refine bodyPost_ret (v:=.tuple #[.string ⟨tx.toArray⟩,.bool false,.bool true]) (by simp [results,Tryz.results14,go_sem]) rfl ?_
   rw [hq.out]
   exact ⟨rfl,(snKin b hv).behind ((h'.out.setX hp'.out).pst hl'.out (hp'.out.2.mono (fun k e=>hT'.out k (by rw [show c k=4 from e];decide))) (add_of hT'.out (Nat.le_refl _))) (Gr.alloc _ _)⟩
  ·have hq:=hid hq1
   clear hq1
   go_enter Tryz.func14,Tryz.ntmps14
   go_wp2_with (fail)
   refine hn.out.mono ?_
   rintro e w1 ⟨rfl,hp⟩
   have hp':=hid hp
   clear hp
   go_wp2_with (fail)
   refine (hfb.out _ _ (htx.resolve_left (by decide))).mono ?_
   rintro e w2 ⟨⟨nn,rfl⟩,g2⟩
   have g2':=hid g2
   clear g2
   go_wp2
   refine bodyPost_ret (v:=.tuple #[.string ⟨(outF 10 tx).toArray⟩,.bool false,.bool true]) (by simp [results,Tryz.results14,go_sem]) rfl ?_
   rw [hq.out]
   exact ⟨rfl,(snKin b hv).behind ((h'.out.setX hp'.out).pst hl'.out (hp'.out.2.mono (fun k e=>hT'.out k (by rw [show c k=4 from e];decide))) (add_of hT'.out (Nat.le_refl _))) ((Gr.alloc _ _).trans g2'.out)⟩
  ·have hq:=hid hq1
   clear hq1
   go_enter Tryz.func14,Tryz.ntmps14
   go_wp2_with (fail)
   refine hn.out.mono ?_
   rintro e w1 ⟨rfl,hp⟩
   have hp':=hid hp
   clear hp
   go_wp2_with (fail)
   refine (hfb.out _ _ (htx.resolve_left (by decide))).mono ?_
   rintro e w2 ⟨⟨nn,rfl⟩,g2⟩
   have g2':=hid g2
   clear g2
   go_wp2
   refine bodyPost_ret (v:=.tuple #[.string ⟨(outF op tx).toArray⟩,.bool false,.bool true]) (by simp [results,Tryz.results14,go_sem]) rfl ?_
   rw [hq.out]
   exact ⟨rfl,(snKin b hv).behind ((h'.out.setX hp'.out).pst hl'.out (hp'.out.2.mono (fun k e=>hT'.out k (by rw [show c k=4 from e];decide))) (add_of hT'.out (Nat.le_refl _))) ((Gr.alloc _ _).trans g2'.out)⟩
  ·have hq:=hid hq1
   clear hq1
   go_enter Tryz.func14,Tryz.ntmps14
   go_wp2_with (fail)
   refine hn.out.mono ?_
   rintro e w1 ⟨rfl,hp⟩
   have hp':=hid hp
   clear hp
   go_wp2_with (fail)
   refine (hfb.out _ _ (htx.resolve_left (by decide))).mono ?_
   rintro e w2 ⟨⟨nn,rfl⟩,g2⟩
   have g2':=hid g2
   clear g2
   go_wp2
   refine bodyPost_ret (v:=.tuple #[.string ⟨(outF 8 tx).toArray⟩,.bool false,.bool true]) (by simp [results,Tryz.results14,go_sem]) rfl ?_
   rw [hq.out]
   exact ⟨rfl,(snKin b hv).behind ((h'.out.setX hp'.out).pst hl'.out (hp'.out.2.mono (fun k e=>hT'.out k (by rw [show c k=4 from e];decide))) (add_of hT'.out (Nat.le_refl _))) ((Gr.alloc _ _).trans g2'.out)⟩
  ·have hq:=hid hq1
   clear hq1
   go_enter Tryz.func14,Tryz.ntmps14
   go_wp2_with (fail)
   refine hn.out.mono ?_
   rintro e w1 ⟨rfl,hp⟩
   have hp':=hid hp
   clear hp
   go_wp2
   refine bodyPost_ret (v:=.tuple #[.string ⟨#[]⟩,.bool true,.bool true]) (by simp [results,Tryz.results14,go_sem]) rfl ?_
   rw [hq.out]
   exact ⟨rfl,(snKin b hv).behind ((h'.out.setX hp'.out).pst hl'.out (hp'.out.2.mono (fun k e=>hT'.out k (by rw [show c k=4 from e];decide))) (add_of hT'.out (Nat.le_refl _))) (Gr.alloc _ _)⟩
theorem sn_puts (h:SnAt b hv T W s) (hG:G W) (x:Rp) (t:Value) (hf:FieldsAt W t x.fs) (hx:RpSm x) (hd cl:Bool):Calls Tryz.prog 70 #[.pointer (some ⟨b,0,none⟩),x.V t,.bool hd,.bool cl] W fun e w'=>e=.returned (.tuple #[])∧Pst (SnAt b hv) T W (ssPuts s x hd cl) w':=by
 obtain ⟨⟨c,pb,bb,cv,h,hT⟩,hl⟩:=h
 have h':=hid h
 have hT':=hid hT
 have hl':=hid hl
 have hbT:=hid (hT b (by rw [h.cb];decide))
 have hby:=hid (fun W1 (g:Gr W W1)=>bytes_any x t hd cl W1 (hG.gr g) (hf.gr g) hx.1 hx.2.1 hx.2.2.1 hx.2.2.2)
 have hno:=hid (fun W1 (g:Gr W W1)=>bytes_any noRp (.slice none 0 0) hd cl W1 (hG.gr g) (fieldsAt_none W1 0) (by decide) (fun f hf=>by cases hf) (by decide) (by decide))
 have hre:=hid (fun W1 (g:Gr W W1) (r:List UInt8)=>breply_any r (h.gr g).kx)
 obtain ⟨p,cap,rfl,_⟩:=hf
 have hq0:ssPuts s x hd cl=if cl then ssEnds { s with x:=(bxReply s.x (putB x hd cl)).1 } else { s with x:=(bxReply s.x (putB x hd cl)).1 }:=rfl
 obtain ⟨o,ho⟩:∃ o,bytesR x hd cl=o:=⟨_,rfl⟩
 obtain ⟨o2,ho2⟩:∃ o2,bytesR noRp hd cl=o2:=⟨_,rfl⟩
 have hpb:putB x hd cl=o.getD (o2.getD []):=by
  rw [←ho,←ho2]
  unfold putB
  cases bytesR x hd cl <;> rfl
 rw [ho] at hby
 rw [ho2] at hno
 unfold noRp at hno
 unfold Rp.V at hby hno ⊢
 dsimp only at hby hno ⊢
 obtain ⟨pb0,hpb0⟩:∃ y,putB x hd cl=y:=⟨_,rfl⟩
 rw [hpb0] at hq0 hpb
 have hq:=hid hq0
 have hfin:=hid (fun (w2 w3:World) (c5:True) (g:Gr W w2) (hp:Pst (BxAt bb) (fun k=>c k=4) w2 (bxReply s.x pb0).1 w3)=>(snKin b hv).ahead g (((h.gr g).setX hp).pst (fun k e=>Nat.lt_of_lt_of_le (hl k e) (Below.size g)) (hp.2.mono (fun k e=>hT k (by rw [show c k=4 from e];decide))) (add_of hT (Nat.le_refl _))))
 have hc5:=hid (fun (W1:World) (g:Gr W W1)=>(h.gr g).c5)
 clear h hT hl hG hx hq0 ho ho2 hpb0
 cases o with
 | some bs =>
  rw [show (some bs).getD (o2.getD [])=bs from rfl] at hpb
  subst hpb
  unfold byteV at hby
  dsimp only at hby
  go_enter Tryz.func70,Tryz.ntmps70
  go_wp2_with (fail)
  refine (hby.out _ (Gr.alloc _ _)).mono ?_
  rintro e w1 ⟨rfl,g0⟩
  have g1:=(Gr.alloc W (.cells #[.int .i64 x.code,.slice p x.fs.length cap,.string ⟨x.b.toArray⟩] 51)).trans g0
  clear g0
  have c5:=hc5.out _ g1
  have g1':=hid g1
  clear g1
  go_wp2_with (fail)
  refine (hre.out _ g1'.out _).mono ?_
  rintro e w3 ⟨rfl,hp⟩
  have hP:=hfin.out _ _ trivial g1'.out hp
  have he:=hid (sn_ends hP.1)
  have hP':=hid hP
  clear hp hP c5
  cases cl with
  | false =>
   go_wp2
   go_end0
   rw [hq.out]
   exact ⟨rfl,hP'.out⟩
  | true =>
   go_wp2_with (fail)
   refine he.out.mono ?_
   rintro e w4 ⟨rfl,hp4⟩
   have hp4':=hid hp4
   clear hp4
   go_wp2
   go_end0
   rw [hq.out]
   exact ⟨rfl,(snKin b hv).trans hP'.out hp4'.out⟩
 | none =>
  rw [show (none:Option (List UInt8)).getD (o2.getD [])=o2.getD [] from rfl] at hpb
  rw [show byteV none=.tuple #[.string ⟨#[]⟩,.int .i64 1] from rfl] at hby
  obtain ⟨n2,hn2⟩:∃ n2:Int,byteV o2=.tuple #[.string ⟨pb0.toArray⟩,.int .i64 n2]:=by
   rw [hpb]
   cases o2 with
   | none=>exact ⟨_,rfl⟩
   | some y=>exact ⟨_,rfl⟩
  rw [hn2] at hno
  clear hn2 hpb
  go_enter Tryz.func70,Tryz.ntmps70
  go_wp2_with (fail)
  refine (hby.out _ (Gr.alloc _ _)).mono ?_
  rintro e w1 ⟨rfl,g0⟩
  have g00:=(Gr.alloc W (.cells #[.int .i64 x.code,.slice p x.fs.length cap,.string ⟨x.b.toArray⟩] 51)).trans g0
  clear g0
  go_wp2_with (fail)
  refine (hno.out _ g00).mono ?_
  rintro e w2 ⟨rfl,g0⟩
  have g1:=g00.trans g0
  clear g0 g00
  have c5:=hc5.out _ g1
  have g1':=hid g1
  clear g1
  go_wp2_with (fail)
  refine (hre.out _ g1'.out _).mono ?_
  rintro e w3 ⟨rfl,hp⟩
  have hP:=hfin.out _ _ trivial g1'.out hp
  have he:=hid (sn_ends hP.1)
  have hP':=hid hP
  clear hp hP c5
  cases cl with
  | false =>
   go_wp2
   go_end0
   rw [hq.out]
   exact ⟨rfl,hP'.out⟩
  | true =>
   go_wp2_with (fail)
   refine he.out.mono ?_
   rintro e w4 ⟨rfl,hp4⟩
   have hp4':=hid hp4
   clear hp4
   go_wp2
   go_end0
   rw [hq.out]
   exact ⟨rfl,(snKin b hv).trans hP'.out hp4'.out⟩
theorem sn_up (h:SnAt b hv T W s) (hlim:s.limit≤1099511627776) (hlen:s.p.inp.length+s.p.und.length≤90000):Calls Tryz.prog 93 #[.pointer (some ⟨b,0,none⟩)] W fun e w'=>e=.returned (.tuple #[])∧Pst (SnAt b hv) T W (ssUp s) w':=by
 obtain ⟨⟨c,pb,bb,cv,h,hT⟩,hl⟩:=h
 have h':=hid h
 have hT':=hid hT
 have hl':=hid hl
 have hbT:=hid (hT b (by rw [h.cb];decide))
 have c1:=h.c1
 have hw:=hid (wnew_at W s.limit hlim)
 have hrl:(restQ s.p).2.length≤90000:=by
  unfold restQ
  split
  ·exact Nat.zero_le _
  ·simp only [List.length_append];omega
 have hlen':=hid hlen
 have hrl':=hid hrl
 clear h hT hl hlim hlen hrl
 go_enter Tryz.func93,Tryz.ntmps93
 go_wp2_with (fail)
 refine hw.out.mono ?_
 rintro e w1 ⟨kb,rfl,hk,g1⟩
 have h1:=(h'.out.gr g1).give h'.out.lt 3 (by decide)
 have hsk:SkP (.pointer (some ⟨kb,0,none⟩)) (fun k=>recol c W w1 3 k=3) w1 (some (wn0 s.limit)):=⟨kb,rfl,(wnKin kb).mono hk (fun k e=>recol_new e.1 e.2) (fun k e=>h1.lt k (by rw [e];decide))⟩
 have h2:=h1.setC hsk
 have g1':=hid g1
 have c4:=h1.c4
 have fz:=h1.fz
 have hbs:=h1.blt
 have h2':=hid h2
 clear hk h1 h2 hsk g1
 go_upto_region 1 with (fail)
 obtain ⟨w2,hw2⟩:∃ w2,w1.setCell ⟨b,4,none⟩ (.pointer (some ⟨kb,0,none⟩))=w2:=⟨_,rfl⟩
 rw [hw2] at h2'
 rw [hw2]
 have hc2:=hid (show Ch T w1 w2 from hw2▸Ch.setCell w1 (a:=⟨b,4,none⟩) hbT.out _)
 have hs2:=hid (show w2.heap.size=w1.heap.size by rw [←hw2];simp)
 clear hw2 c4 fz hbs c1
 have c3:=h2'.out.c3
 have c4:=h2'.out.c4
 go_region_with (first
  |(go_at_call 113;refine (pqrest_at (h2'.out.gr (Gr.drew' _)).kp hlen'.out).mono ?_;rintro e w3 ⟨rfl,hp3⟩;have h3:=hid ((h2'.out.gr (Gr.drew' _)).setP hp3);have hp3':=hid hp3;clear hp3;have c4:=h3.out.c4)
  |(go_at_call 40;refine (wfeed_at (h3.out.kw_of rfl) _ (by have:=hrl'.out;show 0+_≤_;omega)).mono ?_;rintro e w4 ⟨rfl,hp4⟩;have h4:=hid (h3.out.setW rfl hp4);have hp4':=hid hp4;clear hp4))
 all_goals
  have k2:=h4.out.c2
  have fz:=h4.out.fz
  have hsd:=hp3'.out.2.size
  have gd:=hid (show Gr w2 w2.drew from Gr.drew' _)
  clear c3 c4
  have chA:Ch T W w3:=(g1'.out.to_ch T).trans (hc2.out.trans (((Gr.drew' _).to_ch T).trans (hp3'.out.2.mono (fun k e=>by
   have e:recol c W w1 3 k=2:=e
   rcases recol_cases c W w1 3 k with ⟨_,e2⟩ | ⟨_,e2⟩
   ·rw [e2] at e;cases e
   ·exact hT'.out k (by rw [←e2,e];decide)))))
  have chB:Ch T W w4:=chA.drop_new hp4'.out.2 (fun k e=>by
   rcases recol_cases (recol c W w1 3) _ w3 2 k with ⟨_,e2⟩ | ⟨_,e2⟩
   ·exact absurd (e2.symm.trans e) (by decide)
   ·have e:recol c W w1 3 k=3:=e2.symm.trans e
    rcases recol_cases c W w1 3 k with ⟨e3,_⟩ | ⟨_,e3⟩
    ·exact .inr e3.1
    ·exact .inl (hT'.out k (by rw [←e3,e];decide)))
  have s1:=Below.size g1'.out
  have s2:=hs2.out
  have s4:=hp4'.out.2.size
  have sd:=Below.size (show Gr w2 w2.drew from Gr.drew' _)
  have hch:=hid chB
  have hfr:=hid (show ∀ k,recol (recol (recol c W w1 3) w2.drew w3 2) w3 w4 3 k≠0→Add T W w4 k from fun k e=>by
   rcases recol_imp k e with e | e
   ·rcases recol_imp k e with e | e
    ·rcases recol_imp k e with e | e
     ·exact .inl (hT'.out k e)
     ·exact .inr ⟨e.1,by have:=e.2;omega⟩
    ·exact .inr ⟨by have:=e.1;omega,by have:=e.2;omega⟩
   ·exact .inr ⟨by have:=e.1;omega,by have:=e.2;omega⟩)
  clear chA chB s1 s2 s4 sd hsd gd
  go_wp2
  go_end0
  exact ⟨rfl,(h4.out.setSt 2).pst hl'.out (hch.out.trans (Ch.setCell w4 (a:=⟨b,2,none⟩) hbT.out _)) (fun k e=>(hfr.out k e).imp_right (fun e=>⟨e.1,by rw [World.size_setCell];exact e.2⟩))⟩
end
end Go.Proofs.YtadobobfjnmdlaaGreatDoor
namespace Go.Proofs.YtadobobfjnmdlaaGreatDoor
open Go.RowKit
attribute [local go_sem] Oper.semAt_some
def w5V (x:W5):Value:=.agg #[.int .u32 x.a,.int .u32 x.b,.int .u32 x.c,.int .u32 x.d,.int .u32 x.e]
theorem shafirst_any (w:World):Calls Tryz.prog 246 #[] w fun e w'=>e=.returned (w5V first5)∧Gr w w':=by
 go_enter Tryz.func246,Tryz.ntmps246
 go_wp2
 refine bodyPost_ret (v:=w5V first5) (by simp [results,Tryz.results246,go_sem,w5V,first5]) rfl ⟨rfl,Gr.alloc _ _⟩
theorem getBig_any (s:List UInt8) (hs:4≤s.length) (hl:s.length≤1000000) (w:World):Calls Tryz.prog 278 #[.string ⟨s.toArray⟩,.int .i64 4] w fun e w'=>e=.returned (.int .u64 (bigN s 4))∧w=w':=by
 go_enter Tryz.func278,Tryz.ntmps278
 go_wp2
 go_loop [4,7] (fun x i=>∃ k:Nat,k≤4∧i=.int .i64 k∧x=.int .u64 (bigN s k)) (fun _ i=>4 - (intOf i).toNat)
 case atStart=>exact ⟨0,by omega,rfl,rfl⟩
 case round =>
  obtain ⟨k,hk,rfl,rfl⟩:=hrel
  obtain ⟨m,hm⟩:∃ m,bigN s k=m:=⟨_,rfl⟩
  have hm':=hid hm
  rw [hm]
  by_cases hk4:k<4
  ·have hkI:(k:Int)<4:=by omega
   obtain ⟨c,hc⟩:∃ c,(⟨s.toArray⟩:ByteArray)[k]'(by rw [size_mk];omega)=c:=⟨_,rfl⟩
   have hb:byteN s k=c.toNat:=by unfold byteN;rw [List.getD_eq_getElem?_getD,List.getElem?_eq_getElem (by omega)];exact congrArg UInt8.toNat hc
   have hb':=hid hb
   have hml:m<256 ^ 3:=Nat.lt_of_lt_of_le (hm▸bigN_lt s k) (Nat.pow_le_pow_right (by decide) (by omega))
   have hmI:(m:Int)≤16777215:=by omega
   have hor:bits .or .u64 ((m:Int)*256) (c.toNat:Int)=((m*256+c.toNat:Nat):Int):=by
    have h1:=Go.u64_or_nat (m*256) c.toNat (by omega) (by have:=c.toNat_lt;omega)
    rw [Go.nat_join 8 (m*256) c.toNat (by omega) (by have:=c.toNat_lt;omega)] at h1
    rw [←h1];rfl
   have hks:k<s.length:=by omega
   have hcw:IntKind.u64.wrap (c.toNat:Int)=c.toNat:=by rw [Go.IntKind.wrap_u64];have:=c.toNat_lt;omega
   clear hm hb hml
   go_wp2
   go_round
   case rel=>exact ⟨k+1,by omega,by go_num,by rw [bigN,hm'.out,hb'.out];go_num⟩
   case measure=>simp [intOf];omega
  ·have hkI:¬(k:Int)<4:=by omega
   have h4:k=4:=by omega
   go_wp2
   go_ret
   exact ⟨by rw [←hm'.out,h4];rfl,rfl⟩
theorem putBig_any (x n:Nat) (hn:n≤8) (hx:x<18446744073709551616) (w:World) :
  Calls Tryz.prog 249 #[.slice none 0 0,.int .u64 x,.int .i64 n] w fun e w'=>∃ v,e=.returned v∧OwnB w.heap.size w' v (beB x n)∧Gr w w':=by
 obtain ⟨i0,hi,hz0,hz1,hz2⟩:=info_parts infoU8
 have hnI:(n:Int)≤8:=by omega
 have hx':=hid hx
 clear hx
 go_enter Tryz.func249,Tryz.ntmps249
 go_wp2
 go_loopw [0,7] (fun b i wr=>∃ (j:Nat) (acc:List UInt8),j+acc.length=n∧acc++beB x j=beB x n∧i=.int .i64 ((j:Int) - 1)∧OwnB w.heap.size wr b acc∧Gr w wr) (fun _ i _=>(intOf i+1).toNat)
 case atStart=>exact ⟨n,[],by simp,rfl,rfl,OwnB.nil _ _,Gr.refl _⟩
 case round =>
  obtain ⟨j,acc,hj,hacc,rfl,hown,hg⟩:=hrel
  have hown':=hid hown
  have hg':=hid hg
  have hacc':=hid hacc
  clear hown hg hacc
  cases j with
  | zero =>
   have hb:=hid (show acc=beB x n by have:=hacc'.out;simpa [beB] using this)
   go_wp2
   go_ret
   exact ⟨_,rfl,hb.out▸hown'.out,hg'.out⟩
  | succ q =>
   have hq8:(q:Int)<8:=by omega
   obtain ⟨d,hd⟩:∃ d,UInt8.ofNat (x / 256 ^ q)=d:=⟨_,rfl⟩
   have hdI:(x:Int) / 2 ^ (8*q) % 256=(d.toNat:Int):=by
    rw [←hd,UInt8.toNat_ofNat',show (256:Nat)=2 ^ 8 from rfl,←Nat.pow_mul,Int.natCast_emod,Int.natCast_ediv]
    simp
   have hacc2:=hid (show (acc++[d])++beB x q=beB x n by rw [←hacc'.out,←hd];simp [beB])
   obtain ⟨p,cap,hv⟩:=hown'.out.slice
   subst hv
   have hal:acc.length≤8:=by omega
   clear hd hacc'
   go_wp2_with (at_builtin;refine wpList_append_own _ rfl _ _ 100 rfl w.heap.size 5 i0 (.int .u8 0) 1 1 Tryz.underlying100 hi hz0 hz1 hz2 rfl (by decide) _ _ _ rfl (World.ownsRow.alloc hown'.out _) ⟨wr.heap.size,0,none⟩ 1 1 [.int .u8 d.toNat] rfl rfl (cell_one_new _ _ _) (by simp [Value.oneCell']) (by unfold maxLen;omega) (by omega) (by have:=Below.size hg'.out;simp;omega) ?_;intro v' w1 hown2 hgrow _)
   have hown3:=hid (own_snoc hown2)
   have hg2:=hid (Below.grown (hg'.out.alloc1 _) hgrow (Below.size (hg'.out.alloc1 _)) (fun k e=>(hown'.out.lt k e).1))
   clear hown2 hgrow
   go_wp2
   go_roundw
   case rel=>exact ⟨q,acc++[d],by simp;omega,hacc2.out,rfl,hown3.out,hg2.out⟩
   case measure=>simp [intOf]
end Go.Proofs.YtadobobfjnmdlaaGreatDoor
namespace Go
open Go.RowKit
theorem Gr.setCells {w:World} {b:Nat} (hb:w.heap.size≤b):∀ (vs:List Value) (o:Nat) {W:World},Gr w W→Gr w (W.setCells b o vs)
 | [],_,_,h=>h
 | v :: r,o,_,h=>Gr.setCells hb r (o+1) (h.setCell (p:=⟨b,o,none⟩) hb v)
theorem results_cell {P:Program} {fn:Func} {t:Tmp} {ty:TypeId} (h:fn.results=#[.cell t ty]) {tmps:Array Value} {a:Addr} {v:Value} {w:World} (hx:tmps.getD t undef=.pointer (some a)) (hr:(loadVar ty a).run P w=.ok v w) :
  (results fn tmps).run P w=.ok v w:=by
 rw [Array.getD_eq_getD_getElem?] at hx
 simp [results,h,hx,asAddr,hr]
theorem run_index_agg {P:Program} (w:World) {t e:TypeId} {n:Nat} (cs:Array Value) (k:IntKind) (i:Nat) {v:Value} (h:P.underlying t=some (.array n e)) (ha:(isAgg e).run P w=.ok false w) (hs:(sizeOf e).run P w=.ok 1 w) (hi:i<n) (hv:cs[i]?=some v) :
  (Instr.index t (.agg cs) (.int k i)).run P w=.ok v w:=by
 simp [Instr.index,run_underlying h,asIntOf,hi,part,ha,hs,hv]
end Go
