/-
  Plain laws of sessions: however bytes are cut, a session tells the same; no program in sight.
-/
import Derived.Test.YtadobobfjnmdlaaGreatDoorEc
set_option linter.unnecessarySimpa false
set_option linter.unusedVariables false
set_option linter.unusedSimpArgs false
set_option maxHeartbeats 16000000
set_option maxRecDepth 100000
open Go.Lib (hid)
namespace Go.Proofs.YtadobobfjnmdlaaGreatDoor
section
variable {H:Rq→Rp} {limit:Nat}
theorem wnFeed_st (c:Wn) (b:List UInt8):(wnFeed c b).st=c.st:=by unfold wnFeed;split <;> rfl
end
section
variable {H:Rq→Rp} {limit:Nat}
def saidS:Option Sev→List (Nat×List UInt8)
 | some (.said op t)=>[(op,t)]
 | _=>[]
theorem ssNext_over {s:Ss} (h:s.st=3):ssNext H s=(s,none):=by
 unfold ssNext ssTakes
 rw[h];rfl
def evSt (o:Option Wev) (a b:Nat):Prop:=match o with
 | some (.closing _)=>b=3
 | some (.failing _)=>b=3
 | _=>b=a
theorem wnTakes_ev (c:Wn) (e:Fev):evSt (wnTakes c e).2 c.st (wnTakes c e).1.st:=by
 unfold wnTakes wnControl wnJoin wnFail
 cases e <;> dsimp only <;> (repeat' split) <;> (try exact rfl)
 all_goals (cases (jnEnd c.j).2 <;> exact rfl)
theorem wnGo_ev:∀ (n:Nat) (c:Wn),evSt (wnGo n c).2 c.st (wnGo n c).1.st
 | 0,_=>rfl
 | n+1,c=>by
  unfold wnGo
  split
  ·exact rfl
  ·cases hf:frNext c.r with
   | mk r o =>
    cases o with
    | none=>exact rfl
    | some ev =>
     dsimp only
     have hv:=wnTakes_ev { c with r:=r } ev
     cases ht:wnTakes { c with r:=r } ev with
     | mk c2 o2 =>
      rw[ht] at hv
      cases o2 with
      | none =>
       have hv:c2.st=c.st:=hv
       dsimp only
       rw[←hv]
       exact wnGo_ev n c2
      | some x=>exact hv
theorem wnNext_ev (c:Wn):evSt (wnNext c).2 c.st (wnNext c).1.st:=wnGo_ev _ c
end
structure Bok (x:Bx):Prop where
 t:x.told=true→x.ends=true∧x.reps=[]∧x.pong=none∧x.msgs=[]∧x.close=none
 r:x.reps.length≤4
 m:x.msgs.length≤x.q
 q:x.q≤64
 k:∀ m∈x.msgs,m.kind=3
structure Sok (s:Ss):Prop where
 a:s.st=1∨s.st=2∨s.st=3
 b:s.st=2→∃ c,s.c=some c∧(c.st=1∨c.st=2)
 e:s.x.ends=decide (s.st=3)
 x:Bok s.x
theorem bok0 {q:Nat} (h:q≤64):Bok (bx0 q):=⟨fun e=>absurd (show false=true from e) (by decide),Nat.zero_le _,Nat.zero_le _,h,fun _ hm=>by cases hm⟩
theorem sok0 {q limit:Nat} (h:q≤64):Sok (ss0 q limit):=⟨.inl rfl,fun e=>absurd (show (1:Nat)=2 from e) (by decide),rfl,bok0 h⟩
theorem Bok.reply {x:Bx} (h:Bok x) (s:List UInt8):Bok (bxReply x s).1∧(bxReply x s).1.ends=x.ends∧(bxReply x s).1.q=x.q:=by
 unfold bxReply
 split
 ·exact⟨h,rfl,rfl⟩
 ·rename_i hs
  split
  ·exact⟨h,rfl,rfl⟩
  ·refine⟨⟨fun e=>?_,?_,h.m,h.q,h.k⟩,rfl,rfl⟩
   ·have:=(h.t e).1
    unfold bxShut at hs
    rw[this,Bool.or_true] at hs
    exact absurd rfl hs
   ·simp only[List.length_append,List.length_singleton];omega
theorem Bok.pong {x:Bx} (h:Bok x) (s:List UInt8):Bok (bxPong x s).1∧(bxPong x s).1.ends=x.ends∧(bxPong x s).1.q=x.q:=by
 unfold bxPong
 split
 ·exact⟨h,rfl,rfl⟩
 ·rename_i hs
  refine⟨⟨fun e=>?_,h.r,h.m,h.q,h.k⟩,rfl,rfl⟩
  have:=(h.t e).1
  unfold bxShut at hs
  rw[this,Bool.or_true] at hs
  exact absurd rfl hs
theorem Bok.message {x:Bx} (h:Bok x) (op:Int) (s:List UInt8):Bok (bxMessage x op s).1∧(bxMessage x op s).1.ends=x.ends∧(bxMessage x op s).1.q=x.q:=by
 unfold bxMessage
 split
 ·exact⟨h,rfl,rfl⟩
 ·rename_i hs
  split
  ·exact⟨h,rfl,rfl⟩
  ·refine⟨⟨fun e=>?_,h.r,?_,h.q,fun m hm=>(List.mem_append.1 hm).elim (h.k m) (fun hm=>by rw[List.mem_singleton.1 hm])⟩,rfl,rfl⟩
   ·have:=(h.t e).1
    unfold bxShut at hs
    rw[this,Bool.or_true] at hs
    exact absurd rfl hs
   ·simp only[List.length_append,List.length_singleton];omega
theorem Bok.close {x:Bx} (h:Bok x) (s:List UInt8):Bok (bxClose x s).1∧(bxClose x s).1.ends=x.ends∧(bxClose x s).1.q=x.q:=by
 unfold bxClose
 split
 ·exact⟨h,rfl,rfl⟩
 ·rename_i hs
  refine⟨⟨fun e=>?_,h.r,h.m,h.q,h.k⟩,rfl,rfl⟩
  have:=(h.t e).1
  unfold bxShut at hs
  rw[this,Bool.or_true] at hs
  exact absurd rfl hs
theorem Bok.end' {x:Bx} (h:Bok x):Bok (bxEnd x):=⟨fun e=>⟨rfl,(h.t e).2⟩,h.r,h.m,h.q,h.k⟩
def bxCount (x:Bx):Nat:=x.reps.length+(if x.pong.isSome then 1 else 0)+x.msgs.length+(if x.close.isSome then 1 else 0)+(if x.ends&&!x.told then 1 else 0)
theorem Bok.next {x:Bx} (h:Bok x):Bok (bxNext x).1∧(bxNext x).1.ends=x.ends∧(bxNext x).1.q=x.q:=by
 obtain⟨q,reps,pong,msgs,close,closed,ends,told⟩:=x
 obtain⟨h1,h2,h3,h4,h5⟩:=h
 dsimp only at h1 h2 h3 h4 h5
 unfold bxNext
 dsimp only
 cases reps with
 | cons a l=>exact⟨⟨fun e=>by (cases (h1 e).2.1),by simp only[List.length_cons] at h2 ⊢;omega,h3,h4,h5⟩,rfl,rfl⟩
 | nil =>
  cases pong with
  | some a=>exact⟨⟨fun e=>by (cases (h1 e).2.2.1),h2,h3,h4,h5⟩,rfl,rfl⟩
  | none =>
   cases msgs with
   | cons a l=>exact⟨⟨fun e=>by (cases (h1 e).2.2.2.1),h2,by simp only[List.length_cons] at h3 ⊢;omega,h4,fun m hm=>h5 m (List.mem_cons_of_mem _ hm)⟩,rfl,rfl⟩
   | nil =>
    cases close with
    | some a=>exact⟨⟨fun e=>by (cases (h1 e).2.2.2.2),h2,h3,h4,h5⟩,rfl,rfl⟩
    | none =>
     dsimp only
     split
     ·rename_i he
      exact⟨⟨fun _=>⟨by simpa using (Bool.and_eq_true _ _▸he).1,rfl,rfl,rfl,rfl⟩,h2,h3,h4,h5⟩,rfl,rfl⟩
     ·exact⟨⟨h1,h2,h3,h4,h5⟩,rfl,rfl⟩
theorem bxNext_some {x x':Bx} {i:It} (h:bxNext x=(x',some i)) (hx:Bok x):bxCount x'+1=bxCount x∧((outB' i).2=true→x'.told=true)∧((outB' i).2=false→x'.told=x.told):=by
 obtain⟨q,reps,pong,msgs,close,closed,ends,told⟩:=x
 obtain⟨h1,h2,h3,h4,h5⟩:=hx
 dsimp only at h1 h2 h3 h4 h5
 unfold bxNext at h
 dsimp only at h
 unfold bxCount
 cases reps with
 | cons a l =>
  cases h
  refine⟨by simp only[List.length_cons];omega,fun e=>by (cases e),fun _=>rfl⟩
 | nil =>
  cases pong with
  | some a =>
   cases h
   refine⟨by simp only[Option.isSome,if_true];simp;omega,fun e=>by (cases e),fun _=>rfl⟩
  | none =>
   cases msgs with
   | cons a l =>
    cases h
    have hk:=h5 i (List.mem_cons_self ..)
    have ho:(outB' i).2=false:=by
     unfold outB'
     rw[hk];rfl
    exact⟨by simp only[List.length_cons];omega,fun e=>absurd (ho.symm.trans e) (by decide),fun _=>rfl⟩
   | nil =>
    cases close with
    | some a =>
     cases h
     refine⟨by simp only[Option.isSome,if_true];simp;omega,fun e=>by (cases e),fun _=>rfl⟩
    | none =>
     dsimp only at h
     split at h
     ·rename_i he
      cases h
      refine⟨?_,fun _=>rfl,fun e=>by (cases e)⟩
      simp only[he]
      simp
     ·cases h
theorem bxNext_none {x x':Bx} (h:bxNext x=(x',none)):x'=x∧bxCount x=0:=by
 obtain⟨q,reps,pong,msgs,close,closed,ends,told⟩:=x
 unfold bxNext at h
 dsimp only at h
 unfold bxCount
 cases reps with
 | cons a l=>cases h
 | nil =>
  cases pong with
  | some a=>cases h
  | none =>
   cases msgs with
   | cons a l=>cases h
   | nil =>
    cases close with
    | some a=>cases h
    | none =>
     dsimp only at h
     split at h
     ·cases h
     ·rename_i he
      cases h
      refine⟨rfl,?_⟩
      dsimp only
      rw[if_neg he];rfl
theorem Sok.feed {s:Ss} (h:Sok s) (b:List UInt8):Sok (ssFeed s b):=by
 unfold ssFeed
 split
 ·exact⟨h.a,h.b,h.e,h.x⟩
 ·split
  ·rename_i h2
   obtain⟨c,hc,hs⟩:=h.b h2
   refine⟨h.a,fun _=>⟨wnFeed c b,by dsimp only;rw[hc];rfl,?_⟩,h.e,h.x⟩
   have:(wnFeed c b).st=c.st:=by unfold wnFeed;split <;> rfl
   rw[this];exact hs
  ·exact h
theorem Sok.ends {s:Ss} (h:Sok s):Sok (ssEnds s):=⟨.inr (.inr rfl),fun e=>absurd (show (3:Nat)=2 from e) (by decide),rfl,h.x.end'⟩
theorem Sok.out {s:Ss} (h:Sok s):Sok (ssOut s).1:=⟨h.a,h.b,h.x.next.2.1.trans h.e,h.x.next.1⟩
theorem Sok.send {s:Ss} (h:Sok s) (op:Int) (t:List UInt8):Sok (ssSend s op t).1:=by
 unfold ssSend
 split
 ·exact h
 ·exact⟨h.a,h.b,(h.x.message op t).2.1.trans h.e,(h.x.message op t).1⟩
theorem Sok.puts {s:Ss} (h:Sok s) (x:Rp) (hd cl:Bool):Sok (ssPuts s x hd cl):=by
 have h1:Sok { s with x:=(bxReply s.x (putB x hd cl)).1 }:=⟨h.a,h.b,(h.x.reply _).2.1.trans h.e,(h.x.reply _).1⟩
 unfold ssPuts
 split
 ·exact h1.ends
 ·exact h1
theorem Sok.fresh {s:Ss} (h:Sok s) (b:Bool):Sok { s with fresh:=b }:=⟨h.a,h.b,h.e,h.x⟩
theorem Sok.parser {s:Ss} (h:Sok s) (p:Ps):Sok { s with p:=p }:=⟨h.a,h.b,h.e,h.x⟩
theorem Sok.up {s:Ss} (h:Sok s) (h1:s.st=1):Sok (ssUp s):=by
 refine⟨.inr (.inl rfl),fun _=>⟨_,rfl,.inl (wnFeed_st _ _)⟩,?_,h.x⟩
 have:=h.e
 rw[h1] at this
 exact this
theorem ssPuts_st {s:Ss} (x:Rp) (hd:Bool):(ssPuts s x hd false).st=s.st:=rfl
theorem Sok.answers {H:Rq→Rp} {s:Ss} (h:Sok s) (h1:s.st=1) (r:Rq):Sok (ssAnswers H s r).1:=by
 unfold ssAnswers
 split
 ·split
  ·exact (h.puts _ _ _).up ((ssPuts_st _ _).trans h1)
  ·exact h.puts _ _ _
 ·exact h.puts _ _ _
theorem Sok.asks {H:Rq→Rp} {s:Ss} (h:Sok s) (h1:s.st=1):Sok (ssAsks H s).1:=by
 unfold ssAsks
 split
 ·rename_i p r _
  exact Sok.answers (s:={ s with p:=p }) (h.parser p) h1 r
 ·rename_i p _
  split
  ·exact h.parser p
  ·exact Sok.puts (s:={ s with p:=p }) (h.parser p) ⟨p.bad,[],reasonL p.bad⟩ false true
theorem ends_ok {s:Ss} (h:Bok s.x):Sok (ssEnds s):=⟨.inr (.inr rfl),fun e=>absurd (show (3:Nat)=2 from e) (by decide),rfl,h.end'⟩
theorem gone_ok {s:Ss} (h:Bok s.x) (was code:Nat):Sok (ssGone s was code):=by
 unfold ssGone
 split
 ·exact ends_ok (h.close _).1
 ·exact ends_ok h
theorem Sok.says {s:Ss} (h:Sok s) (h2:s.st=2):Sok (ssSays s).1:=by
 obtain⟨c,hc,hs⟩:=h.b h2
 have hw:ssWn s=c:=by unfold ssWn;rw[hc];rfl
 have hv:=wnNext_ev c
 unfold ssSays
 rw[hw]
 cases e:wnNext c with
 | mk c1 o =>
  rw[e] at hv
  cases o with
  | none =>
   have hv:c1.st=c.st:=hv
   exact⟨h.a,fun _=>⟨c1,rfl,by rw[hv];exact hs⟩,h.e,h.x⟩
  | some x =>
   cases x with
   | message op t =>
    have hv:c1.st=c.st:=hv
    exact⟨h.a,fun _=>⟨c1,rfl,by rw[hv];exact hs⟩,h.e,h.x⟩
   | ping t =>
    have hv:c1.st=c.st:=hv
    exact⟨h.a,fun _=>⟨c1,rfl,by rw[hv];exact hs⟩,(h.x.pong t).2.1.trans h.e,(h.x.pong t).1⟩
   | closing code=>exact gone_ok (s:={ s with c:=some c1 }) h.x c.st code
   | failing code=>exact gone_ok (s:={ s with c:=some c1 }) h.x c.st code
theorem Sok.next {H:Rq→Rp} {s:Ss} (h:Sok s):Sok (ssNext H s).1:=by
 unfold ssNext
 cases ht:ssTakes s with
 | false=>exact h
 | true =>
  rw[if_neg (by decide)]
  dsimp only
  have h3:s.st≠3:=by
   intro e
   unfold ssTakes at ht
   rw[e] at ht
   cases ht
  by_cases h1:s.st=1
  ·rw[if_pos h1]
   split
   ·exact (h.asks h1).fresh _
   ·exact h.asks h1
  ·rw[if_neg h1]
   have h2:s.st=2:=by rcases h.a with e | e | e <;> omega
   split
   ·exact (h.says h2).fresh _
   ·exact h.says h2
theorem Sok.finish {s:Ss} (h:Sok s):Sok (ssFinish s)∧(ssFinish s).st=3∧(ssFinish s).x.told=s.x.told:=by
 unfold ssFinish
 split
 ·exact⟨h,‹_›,rfl⟩
 ·split
  ·exact⟨ends_ok (s:=ssOver s) h.x,rfl,rfl⟩
  ·exact⟨h.ends,rfl,rfl⟩
theorem lapse_over {s:Ss} (h3:s.st=3):ssLapse s=s:=by
 have hw:ssWaiting s=false:=by unfold ssWaiting;rw[h3];rfl
 have hh:ssHears s=false:=by unfold ssHears;rw[h3];rfl
 unfold ssLapse ssStop
 rw[hw,hh,if_neg (by decide),if_neg (by omega),if_neg (by decide)]
theorem Sok.lapses {s:Ss} (h:Sok s):Sok (ssLapse (ssLapse s))∧(ssLapse (ssLapse s)).st=3∧(ssLapse (ssLapse s)).x.told=s.x.told:=by
 rcases h.a with h1 | h2 | h3
 ·have e:ssLapse s=ssEnds s:=by
   have hw:ssWaiting s=false:=by unfold ssWaiting;rw[h1];rfl
   unfold ssLapse ssStop
   rw[hw,if_neg (by decide),if_pos h1]
  rw[e,lapse_over (s:=ssEnds s) rfl]
  exact⟨h.ends,rfl,rfl⟩
 ·obtain⟨c,hc,hs⟩:=h.b h2
  have hw:ssWn s=c:=by unfold ssWn;rw[hc];rfl
  rcases hs with hs | hs
  ·have ew:ssWaiting s=false:=by unfold ssWaiting;rw[h2,hw,hs];rfl
   have eh:ssHears s=true:=by unfold ssHears;rw[h2,hw,hs];rfl
   have e:ssLapse s={ ssCloses s 1001 with c:=s.c.map wnShut }:=by
    unfold ssLapse ssStop
    rw[ew,eh,if_neg (by decide),if_neg (by omega),if_pos rfl]
   have ht:(bxClose s.x (closW 1001)).1.told=s.x.told:=by unfold bxClose;split <;> rfl
   have e2:ssWaiting { ssCloses s 1001 with c:=s.c.map wnShut }=true:=by
    have:ssWn { ssCloses s 1001 with c:=s.c.map wnShut }=wnShut c:=by unfold ssWn;dsimp only;rw[hc];rfl
    unfold ssWaiting
    rw[this]
    have h22:({ ssCloses s 1001 with c:=s.c.map wnShut }:Ss).st=2:=h2
    rw[h22]
    unfold wnShut
    rw[if_pos hs];rfl
   rw[e]
   have e3:ssLapse { ssCloses s 1001 with c:=s.c.map wnShut }=ssEnds (ssOver { ssCloses s 1001 with c:=s.c.map wnShut }):=by
    unfold ssLapse
    rw[e2,if_pos rfl]
   rw[e3]
   exact⟨ends_ok (s:=ssOver { ssCloses s 1001 with c:=s.c.map wnShut }) (h.x.close _).1,rfl,ht⟩
  ·have ew:ssWaiting s=true:=by unfold ssWaiting;rw[h2,hw,hs];rfl
   have e:ssLapse s=ssEnds (ssOver s):=by
    unfold ssLapse
    rw[ew,if_pos rfl]
   rw[e,lapse_over (s:=ssEnds (ssOver s)) rfl]
   exact⟨ends_ok (s:=ssOver s) h.x,rfl,rfl⟩
 ·rw[lapse_over h3,lapse_over h3]
  exact⟨h,h3,rfl⟩
structure LastInv (t0:Bool) (x:Bx) (last:Bool) (i:Nat):Prop where
 b:Bok x
 e:x.ends=true
 t:t0=true→x.told=true
 u:x.told=true→t0=true∨last=true
 l:last=true→x.told=true∧t0=false
 n:bxCount x+i≤71
theorem LastInv.start {x:Bx} (h:Bok x) (he:x.ends=true):LastInv x.told x false 0:=by
 refine⟨h,he,id,.inl,fun e=>absurd e (by decide),?_⟩
 have h1:=h.r
 have h2:=h.m
 have h3:=h.q
 unfold bxCount
 repeat' split
 all_goals omega
theorem told_empty {x:Bx} (h:Bok x) (ht:x.told=true):bxCount x=0:=by
 obtain⟨h1,h2,h3,h4,h5⟩:=h.t ht
 unfold bxCount
 rw[h2,h3,h4,h5,ht,h1];rfl
theorem LastInv.step {t0 last:Bool} {x x':Bx} {it:It} {i:Nat} (h:LastInv t0 x last i) (hn:bxNext x=(x',some it)):LastInv t0 x' (outB' it).2 (i+1):=by
 have hb:=h.b.next
 rw[hn] at hb
 obtain⟨k1,k2,k3⟩:=bxNext_some hn h.b
 have hf:x.told=false:=by
  rw[Bool.eq_false_iff]
  intro e
  have:=told_empty h.b e
  omega
 have h0:t0=false:=by
  rw[Bool.eq_false_iff]
  intro e
  rw[h.t e] at hf;cases hf
 refine⟨hb.1,hb.2.1.trans h.e,fun e=>?_,fun e=>?_,fun e=>⟨k2 e,h0⟩,?_⟩
 ·rw[h0] at e;cases e
 ·right
  cases ho:(outB' it).2 with
  | true=>rfl
  | false=>rw[k3 ho,hf] at e;cases e
 ·have:=h.n;omega
theorem LastInv.stop {t0 last:Bool} {x x':Bx} {i:Nat} (h:LastInv t0 x last i) (hn:bxNext x=(x',none)):x'=x∧last=!t0∧x.told=true∧bxWaits x=false:=by
 obtain⟨rfl,hc⟩:=bxNext_none hn
 have ht:x'.told=true:=by
  cases e:x'.told with
  | true=>rfl
  | false =>
   unfold bxCount at hc
   rw[h.e,e] at hc
   simp at hc
 obtain⟨_,h2,h3,h4,h5⟩:=h.b.t ht
 refine⟨rfl,?_,ht,?_⟩
 ·cases hl:last with
  | true=>rw[(h.l hl).2];rfl
  | false =>
   rcases h.u ht with e | e
   ·rw[e];rfl
   ·rw[hl] at e;cases e
 ·unfold bxWaits
  rw[h2,h3,h4,h5,h.e,ht];rfl
open Go.RowKit Go.Shelf
attribute [local go_sem] Oper.semAt_some
section
variable {b:Nat} {hv:Value} {T:Nat→Prop} {W:World} {s:Ss}
theorem sn_wover {c:Nat→Nat} {pb bb:Nat} {cv:Value} {w:Wn} (h:SnS b hv c W s pb bb cv) (hT:∀ k,c k≠0→T k) (hl:∀ k,T k→k<W.heap.size) (hw:s.c=some w) :
  ∃ k0,cv=.pointer (some ⟨k0,0,none⟩)∧Calls Tryz.prog 46 #[.pointer (some ⟨k0,0,none⟩)] W fun e w'=>e=.returned (.tuple #[])∧Pst (SnAt b hv) T W (ssOver s) w':=by
 have kw:=h.kw
 rw[hw] at kw
 obtain⟨k0,rfl,kw⟩:=kw
 refine⟨k0,rfl,(wover_at kw).mono ?_⟩
 rintro e w' ⟨rfl,hp⟩
 have e1:ssOver s={ s with c:=some (wnOver w) }:=by unfold ssOver;rw[hw];rfl
 rw[e1]
 exact⟨rfl,(h.setW hw hp).pst hl (hp.2.mono (fun k e=>hT k (by rw[show c k=3 from e];decide))) (add_of hT (Nat.le_refl _))⟩
theorem sn_send (h:SnAt b hv T W s) (h2:s.st=2→s.c.isSome=true) (op:Int) (t:List UInt8):Calls Tryz.prog 15 #[.pointer (some ⟨b,0,none⟩),.int .i64 op,.string ⟨t.toArray⟩] W fun e w'=>e=.returned (.int .i64 (ssSend s op t).2)∧Pst (SnAt b hv) T W (ssSend s op t).1 w':=by
 have hh:=sn_hears h h2
 have h0:=hid h
 obtain⟨⟨c,pb,bb,cv,h,hT⟩,hl⟩:=h
 have h':=hid h
 have hT':=hid hT
 have hl':=hid hl
 have hbT:=hid (hT b (by rw[h.cb];decide))
 have c5:=h.c5
 obtain⟨v,hvv⟩:∃ v,ssHears s=v:=⟨_,rfl⟩
 rw[hvv] at hh
 have hh:=hid hh
 have hm:=hid (bmessage_any op t h.kx)
 have hq:=hid (show ssSend s op t=if !v then (s,11) else ({ s with x:=(bxMessage s.x op t).1 },(bxMessage s.x op t).2) by unfold ssSend;rw[hvv])
 clear h hT hl h2 hvv
 cases v with
 | false =>
  have hq2:=hid (hq.out.trans (if_pos rfl))
  clear hq
  go_enter Tryz.func15,Tryz.ntmps15
  go_wp2_with (fail)
  refine hh.out.mono ?_
  rintro e w1 ⟨rfl,rfl⟩
  go_wp2
  go_ret
  rw[hq2.out]
  exact⟨rfl,(snKin b hv).of_gr h0.out (Gr.refl _)⟩
 | true =>
  have hq2:=hid (hq.out.trans (if_neg (by decide)))
  clear hq
  go_enter Tryz.func15,Tryz.ntmps15
  go_wp2_with (fail)
  refine hh.out.mono ?_
  rintro e w1 ⟨rfl,rfl⟩
  go_wp2_with (fail)
  refine hm.out.mono ?_
  rintro e w1 ⟨rfl,hp⟩
  have hp':=hid hp
  clear hp
  go_wp2
  go_ret
  rw[hq2.out]
  exact⟨rfl,(h'.out.setX hp'.out).pst hl'.out (hp'.out.2.mono (fun k e=>hT'.out k (by rw[show c k=4 from e];decide))) (add_of hT'.out (Nat.le_refl _))⟩
theorem sn_finish (h:SnAt b hv T W s) (h2:s.st=2→s.c.isSome=true):Calls Tryz.prog 16 #[.pointer (some ⟨b,0,none⟩)] W fun e w'=>e=.returned (.tuple #[])∧Pst (SnAt b hv) T W (ssFinish s) w':=by
 have hs:=hid (sn_state h)
 have he:=hid (sn_ends h)
 have h0:=hid h
 obtain⟨⟨c,pb,bb,cv,h,hT⟩,hl⟩:=h
 have h':=hid h
 have hT':=hid hT
 have hl':=hid hl
 have hbT:=hid (hT b (by rw[h.cb];decide))
 have k2:=h.c2
 have k4:=h.c4
 by_cases q3:s.st=3
 ·have hq:=hid (show ssFinish s=s from if_pos q3)
  rw[q3] at hs
  clear h hT hl h2 q3 k2 k4
  go_enter Tryz.func16,Tryz.ntmps16
  go_wp2_with (fail)
  refine hs.out.mono ?_
  rintro e w1 ⟨rfl,rfl⟩
  go_wp2
  refine bodyPost_ret (v:=.tuple #[]) (by simp[results,Tryz.results16,go_sem]) rfl ?_
  rw[hq.out]
  exact⟨rfl,(snKin b hv).of_gr h0.out (Gr.refl _)⟩
 ·have z3:((s.st:Int)==3)=false:=beq_false_of_ne (by omega)
  by_cases q2:s.st=2
  ·cases hw:s.c with
   | none=>rw[hw] at h2;exact absurd (h2 q2) (by decide)
   | some w =>
    have hq:=hid (show ssFinish s=ssEnds (ssOver s) by unfold ssFinish;rw[if_neg q3,if_pos q2])
    obtain⟨k0,rfl,ho⟩:=sn_wover h hT hl hw
    have ho':=hid ho
    rw[q2] at hs k2
    clear h hT hl h2 q3 q2 hw ho
    go_enter Tryz.func16,Tryz.ntmps16
    go_wp2_with (fail)
    refine hs.out.mono ?_
    rintro e w1 ⟨rfl,rfl⟩
    go_wp2_with (fail)
    refine ho'.out.mono ?_
    rintro e w2 ⟨rfl,hp⟩
    have he2:=hid (sn_ends hp.1)
    have hp':=hid hp
    clear hp k2 k4
    go_wp2_with (fail)
    refine he2.out.mono ?_
    rintro e w3 ⟨rfl,hp3⟩
    have hp3':=hid hp3
    clear hp3
    go_wp2
    go_end0
    rw[hq.out]
    exact⟨rfl,(snKin b hv).trans hp'.out hp3'.out⟩
  ·have hq:=hid (show ssFinish s=ssEnds s by unfold ssFinish;rw[if_neg q3,if_neg q2])
   have z2:((s.st:Int)==2)=false:=beq_false_of_ne (by omega)
   clear h hT hl h2 q3 q2
   go_enter Tryz.func16,Tryz.ntmps16
   go_wp2_with (fail)
   refine hs.out.mono ?_
   rintro e w1 ⟨rfl,rfl⟩
   go_wp2_with (fail)
   refine he.out.mono ?_
   rintro e w3 ⟨rfl,hp3⟩
   have hp3':=hid hp3
   clear hp3
   go_wp2
   go_end0
   rw[hq.out]
   exact⟨rfl,hp3'.out⟩
theorem sn_stop (h:SnAt b hv T W s) (h2:s.st=2→s.c.isSome=true):Calls Tryz.prog 30 #[.pointer (some ⟨b,0,none⟩)] W fun e w'=>e=.returned (.tuple #[])∧Pst (SnAt b hv) T W (ssStop s) w':=by
 have hs:=hid (sn_state h)
 have he:=hid (sn_ends h)
 have hh:=sn_hears h h2
 have hcl:=hid (sn_closes h 1001 (by decide))
 have h0:=hid h
 by_cases q1:s.st=1
 ·have hq:=hid (show ssStop s=ssEnds s from if_pos q1)
  rw[q1] at hs
  clear h h2 q1 hh
  go_enter Tryz.func30,Tryz.ntmps30
  go_wp2_with (fail)
  refine hs.out.mono ?_
  rintro e w1 ⟨rfl,rfl⟩
  go_wp2_with (fail)
  refine he.out.mono ?_
  rintro e w3 ⟨rfl,hp3⟩
  have hp3':=hid hp3
  clear hp3
  go_wp2
  go_end0
  rw[hq.out]
  exact⟨rfl,hp3'.out⟩
 ·have z1:((s.st:Int)==1)=false:=beq_false_of_ne (by omega)
  obtain⟨v,hvv⟩:∃ v,ssHears s=v:=⟨_,rfl⟩
  have hq0:ssStop s=if v=true then { ssCloses s 1001 with c:=s.c.map wnShut } else s:=by unfold ssStop;rw[if_neg q1,hvv]
  rw[hvv] at hh
  have hh:=hid hh
  cases v with
  | false =>
   have hq:=hid (hq0.trans (if_neg (by decide)))
   clear h h2 q1 hvv hq0
   go_enter Tryz.func30,Tryz.ntmps30
   go_wp2_with (fail)
   refine hs.out.mono ?_
   rintro e w1 ⟨rfl,rfl⟩
   go_wp2_with (fail)
   refine hh.out.mono ?_
   rintro e w1 ⟨rfl,rfl⟩
   go_wp2
   go_end0
   rw[hq.out]
   exact⟨rfl,(snKin b hv).of_gr h0.out (Gr.refl _)⟩
  | true =>
   have hst:s.st=2:=by
    unfold ssHears at hvv
    rw[Bool.and_eq_true] at hvv
    exact eq_of_beq hvv.1
   cases hw:s.c with
   | none=>rw[hw] at h2;exact absurd (h2 hst) (by decide)
   | some w =>
    have hq:=hid (show ssStop s={ ssCloses s 1001 with c:=some (wnShut w) } by rw[hq0,if_pos rfl,hw];rfl)
    have hw':=hid hw
    clear h h2 q1 hvv hq0 hst hw
    go_enter Tryz.func30,Tryz.ntmps30
    go_wp2_with (fail)
    refine hs.out.mono ?_
    rintro e w1 ⟨rfl,rfl⟩
    go_wp2_with (fail)
    refine hh.out.mono ?_
    rintro e w1 ⟨rfl,rfl⟩
    go_wp2_with (fail)
    refine hcl.out.mono ?_
    rintro e w2 ⟨rfl,hp⟩
    have hp':=hid hp
    obtain⟨⟨⟨c,pb,bb,cv,h,hT⟩,hl⟩,hc2⟩:=hp
    have kw:=h.kw
    rw[show (ssCloses s 1001).c=s.c from rfl,hw'.out] at kw
    obtain⟨k0,rfl,kw⟩:=kw
    have k4:=h.c4
    have hsh0:=wshut_at kw
    obtain⟨nn,hnn⟩:∃ nn:Int,(if w.st=1 then (0:Int) else 11)=nn:=⟨_,rfl⟩
    rw[hnn] at hsh0
    have hsh:=hid hsh0
    clear hsh0 hnn
    have h':=hid h
    have hT':=hid hT
    have hl':=hid hl
    clear h hT hl hc2 kw
    go_wp2_with (fail)
    refine hsh.out.mono ?_
    rintro e w3 ⟨rfl,hp3⟩
    have hp3':=hid hp3
    clear hp3 k4
    go_wp2
    go_end0
    rw[hq.out]
    exact⟨rfl,(snKin b hv).trans hp'.out ((h'.out.setW hw'.out hp3'.out).pst hl'.out (hp3'.out.2.mono (fun k e=>hT'.out k (by rw[show c k=3 from e];decide))) (add_of hT'.out (Nat.le_refl _)))⟩
theorem sn_lapse (h:SnAt b hv T W s) (h2:s.st=2→s.c.isSome=true):Calls Tryz.prog 17 #[.pointer (some ⟨b,0,none⟩)] W fun e w'=>e=.returned (.tuple #[])∧Pst (SnAt b hv) T W (ssLapse s) w':=by
 have hh:=sn_waiting h h2
 have hst:=hid (sn_stop h h2)
 obtain⟨⟨c,pb,bb,cv,h,hT⟩,hl⟩:=h
 have h':=hid h
 have hT':=hid hT
 have hl':=hid hl
 have hbT:=hid (hT b (by rw[h.cb];decide))
 have k4:=h.c4
 obtain⟨v,hvv⟩:∃ v,ssWaiting s=v:=⟨_,rfl⟩
 have hq0:ssLapse s=if v=true then ssEnds (ssOver s) else ssStop s:=by unfold ssLapse;rw[hvv]
 rw[hvv] at hh
 have hh:=hid hh
 cases v with
 | false =>
  have hq:=hid (hq0.trans (if_neg (by decide)))
  clear h hT hl h2 hvv hq0 k4
  go_enter Tryz.func17,Tryz.ntmps17
  go_wp2_with (fail)
  refine hh.out.mono ?_
  rintro e w1 ⟨rfl,rfl⟩
  go_wp2_with (fail)
  refine hst.out.mono ?_
  rintro e w2 ⟨rfl,hp⟩
  have hp':=hid hp
  clear hp
  go_wp2
  go_end0
  rw[hq.out]
  exact⟨rfl,hp'.out⟩
 | true =>
  have hst2:s.st=2:=by
   unfold ssWaiting at hvv
   rw[Bool.and_eq_true] at hvv
   exact eq_of_beq hvv.1
  cases hw:s.c with
  | none=>rw[hw] at h2;exact absurd (h2 hst2) (by decide)
  | some w =>
   have hq:=hid (hq0.trans (if_pos rfl))
   obtain⟨k0,rfl,ho⟩:=sn_wover h hT hl hw
   have ho':=hid ho
   clear h hT hl h2 hvv hq0 hw ho hst2
   go_enter Tryz.func17,Tryz.ntmps17
   go_wp2_with (fail)
   refine hh.out.mono ?_
   rintro e w1 ⟨rfl,rfl⟩
   go_wp2_with (fail)
   refine ho'.out.mono ?_
   rintro e w2 ⟨rfl,hp⟩
   have he2:=hid (sn_ends hp.1)
   have hp':=hid hp
   clear hp k4
   go_wp2_with (fail)
   refine he2.out.mono ?_
   rintro e w3 ⟨rfl,hp3⟩
   have hp3':=hid hp3
   clear hp3
   go_wp2
   refine bodyPost_ret (v:=.tuple #[]) (by simp[results,Tryz.results17,go_sem]) rfl ?_
   rw[hq.out]
   exact⟨rfl,(snKin b hv).trans hp'.out hp3'.out⟩
end
def outV:Option (List UInt8×Bool)→Value
 | none=>.tuple #[.string ⟨#[]⟩,.bool false,.bool false]
 | some (t,e)=>.tuple #[.string ⟨t.toArray⟩,.bool e,.bool true]
theorem bxNext_kind {x:Bx} (h:Bok x) {it:It} (e:(bxNext x).2=some it):it.kind=1∨it.kind=2∨it.kind=3∨it.kind=4∨it.kind=5:=by
 obtain⟨q,reps,pong,msgs,close,closed,ends,told⟩:=x
 have hk:=h.k
 unfold bxNext at e
 dsimp only at e hk
 cases reps with
 | cons a l=>cases e;exact .inl rfl
 | nil =>
  cases pong with
  | some a=>cases e;exact .inr (.inl rfl)
  | none =>
   cases msgs with
   | cons a l=>cases e;exact .inr (.inr (.inl (hk _ (List.mem_cons_self ..))))
   | nil =>
    cases close with
    | some a=>cases e;exact .inr (.inr (.inr (.inl rfl)))
    | none =>
     dsimp only at e
     split at e
     ·cases e;exact .inr (.inr (.inr (.inr rfl)))
     ·cases e
theorem SnS.kw_of {b:Nat} {hv:Value} {c:Nat→Nat} {W:World} {s:Ss} {pb bb k0:Nat} {w:Wn} (h:SnS b hv c W s pb bb (.pointer (some ⟨k0,0,none⟩))) (hw:s.c=some w):WnAt k0 (fun k=>c k=3) W w:=by
 have k:=h.kw
 rw[hw] at k
 obtain⟨k1,e,k⟩:=k
 cases e
 exact k
section
variable {b:Nat} {hv:Value} {T:Nat→Prop} {W:World} {s:Ss}
theorem sn_out (h:SnAt b hv T W s) (hb:Bok s.x) (hx:∀ it,(bxNext s.x).2=some it→it.kind=1∨it.text.length≤4611686018427387900):Calls Tryz.prog 14 #[.pointer (some ⟨b,0,none⟩)] W fun e w'=>e=.returned (outV (ssOut s).2)∧Pst (SnAt b hv) T W (ssOut s).1 w':=by
 obtain⟨⟨c,pb,bb,cv,h,hT⟩,hl⟩:=h
 have h':=hid h
 have hT':=hid hT
 have hl':=hid hl
 have hbT:=hid (hT b (by rw[h.cb];decide))
 have c5:=h.c5
 have hn0:=bnext_any h.kx
 have hkd:=fun it=>bxNext_kind (it:=it) hb
 have hq0:ssOut s=({ s with x:=(bxNext s.x).1 },(bxNext s.x).2.map outB'):=rfl
 obtain⟨x',o,hxo⟩:∃ x' o,bxNext s.x=(x',o):=⟨_,_,rfl⟩
 rw[hxo] at hn0 hkd hx hq0
 dsimp only at hn0 hkd hx hq0
 have hn:=hid hn0
 clear h hT hl hn0 hxo hb
 cases o with
 | none =>
  have hq:=hid hq0
  rw[nextV_none] at hn
  unfold it0 It.V at hn
  clear hq0 hkd hx
  go_enter Tryz.func14,Tryz.ntmps14
  go_wp2_with (fail)
  refine hn.out.mono ?_
  rintro e w1 ⟨rfl,hp⟩
  have hp':=hid hp
  clear hp
  go_wp2
  refine bodyPost_ret (v:=.tuple #[.string ⟨#[]⟩,.bool false,.bool false]) (by simp[results,Tryz.results14,go_sem]) rfl ?_
  rw[hq.out]
  exact⟨rfl,(snKin b hv).behind ((h'.out.setX hp'.out).pst hl'.out (hp'.out.2.mono (fun k e=>hT'.out k (by rw[show c k=4 from e];decide))) (add_of hT'.out (Nat.le_refl _))) (Gr.alloc _ _)⟩
 | some it =>
  obtain⟨k,op,tx⟩:=it
  have hk:=hkd _ rfl
  have htx:=hx _ rfl
  have hfb0:=fun (op:Int) (W:World) (h:tx.length≤4611686018427387900)=>fbytes_any op tx W h
  unfold FbPost frV at hfb0
  have hfb:=hid hfb0
  have hq1:ssOut s=({ s with x:=x' },some (outB' ⟨k,op,tx⟩)):=hq0
  rw[nextV_some] at hn
  unfold It.V at hn
  clear hq0 hkd hx hfb0
  dsimp only at hk htx
  rcases hk with rfl | rfl | rfl | rfl | rfl
  ·have hq:=hid hq1
   clear hq1
   go_enter Tryz.func14,Tryz.ntmps14
   go_wp2_with (fail)
   refine hn.out.mono ?_
   rintro e w1 ⟨rfl,hp⟩
   have hp':=hid hp
   clear hp
   go_wp2
   refine bodyPost_ret (v:=.tuple #[.string ⟨tx.toArray⟩,.bool false,.bool true]) (by simp[results,Tryz.results14,go_sem]) rfl ?_
   rw[hq.out]
   exact⟨rfl,(snKin b hv).behind ((h'.out.setX hp'.out).pst hl'.out (hp'.out.2.mono (fun k e=>hT'.out k (by rw[show c k=4 from e];decide))) (add_of hT'.out (Nat.le_refl _))) (Gr.alloc _ _)⟩
  ·have hq:=hid hq1
   clear hq1
   go_enter Tryz.func14,Tryz.ntmps14
   go_wp2_with (fail)
   refine hn.out.mono ?_
   rintro e w1 ⟨rfl,hp⟩
   have hp':=hid hp
   clear hp
   go_wp2_with (fail)
   refine (hfb.out _ _ (htx.resolve_left (by decide))).mono ?_
   rintro e w2 ⟨⟨nn,rfl⟩,g2⟩
   have g2':=hid g2
   clear g2
   go_wp2
   refine bodyPost_ret (v:=.tuple #[.string ⟨(outF 10 tx).toArray⟩,.bool false,.bool true]) (by simp[results,Tryz.results14,go_sem]) rfl ?_
   rw[hq.out]
   exact⟨rfl,(snKin b hv).behind ((h'.out.setX hp'.out).pst hl'.out (hp'.out.2.mono (fun k e=>hT'.out k (by rw[show c k=4 from e];decide))) (add_of hT'.out (Nat.le_refl _))) ((Gr.alloc _ _).trans g2'.out)⟩
  ·have hq:=hid hq1
   clear hq1
   go_enter Tryz.func14,Tryz.ntmps14
   go_wp2_with (fail)
   refine hn.out.mono ?_
   rintro e w1 ⟨rfl,hp⟩
   have hp':=hid hp
   clear hp
   go_wp2_with (fail)
   refine (hfb.out _ _ (htx.resolve_left (by decide))).mono ?_
   rintro e w2 ⟨⟨nn,rfl⟩,g2⟩
   have g2':=hid g2
   clear g2
   go_wp2
   refine bodyPost_ret (v:=.tuple #[.string ⟨(outF op tx).toArray⟩,.bool false,.bool true]) (by simp[results,Tryz.results14,go_sem]) rfl ?_
   rw[hq.out]
   exact⟨rfl,(snKin b hv).behind ((h'.out.setX hp'.out).pst hl'.out (hp'.out.2.mono (fun k e=>hT'.out k (by rw[show c k=4 from e];decide))) (add_of hT'.out (Nat.le_refl _))) ((Gr.alloc _ _).trans g2'.out)⟩
  ·have hq:=hid hq1
   clear hq1
   go_enter Tryz.func14,Tryz.ntmps14
   go_wp2_with (fail)
   refine hn.out.mono ?_
   rintro e w1 ⟨rfl,hp⟩
   have hp':=hid hp
   clear hp
   go_wp2_with (fail)
   refine (hfb.out _ _ (htx.resolve_left (by decide))).mono ?_
   rintro e w2 ⟨⟨nn,rfl⟩,g2⟩
   have g2':=hid g2
   clear g2
   go_wp2
   refine bodyPost_ret (v:=.tuple #[.string ⟨(outF 8 tx).toArray⟩,.bool false,.bool true]) (by simp[results,Tryz.results14,go_sem]) rfl ?_
   rw[hq.out]
   exact⟨rfl,(snKin b hv).behind ((h'.out.setX hp'.out).pst hl'.out (hp'.out.2.mono (fun k e=>hT'.out k (by rw[show c k=4 from e];decide))) (add_of hT'.out (Nat.le_refl _))) ((Gr.alloc _ _).trans g2'.out)⟩
  ·have hq:=hid hq1
   clear hq1
   go_enter Tryz.func14,Tryz.ntmps14
   go_wp2_with (fail)
   refine hn.out.mono ?_
   rintro e w1 ⟨rfl,hp⟩
   have hp':=hid hp
   clear hp
   go_wp2
   refine bodyPost_ret (v:=.tuple #[.string ⟨#[]⟩,.bool true,.bool true]) (by simp[results,Tryz.results14,go_sem]) rfl ?_
   rw[hq.out]
   exact⟨rfl,(snKin b hv).behind ((h'.out.setX hp'.out).pst hl'.out (hp'.out.2.mono (fun k e=>hT'.out k (by rw[show c k=4 from e];decide))) (add_of hT'.out (Nat.le_refl _))) (Gr.alloc _ _)⟩
theorem sn_puts (h:SnAt b hv T W s) (hG:G W) (x:Rp) (t:Value) (hf:FieldsAt W t x.fs) (hx:RpSm x) (hd cl:Bool):Calls Tryz.prog 70 #[.pointer (some ⟨b,0,none⟩),x.V t,.bool hd,.bool cl] W fun e w'=>e=.returned (.tuple #[])∧Pst (SnAt b hv) T W (ssPuts s x hd cl) w':=by
 obtain⟨⟨c,pb,bb,cv,h,hT⟩,hl⟩:=h
 have h':=hid h
 have hT':=hid hT
 have hl':=hid hl
 have hbT:=hid (hT b (by rw[h.cb];decide))
 have hby:=hid (fun W1 (g:Gr W W1)=>bytes_any x t hd cl W1 (hG.gr g) (hf.gr g) hx.1 hx.2.1 hx.2.2.1 hx.2.2.2)
 have hno:=hid (fun W1 (g:Gr W W1)=>bytes_any noRp (.slice none 0 0) hd cl W1 (hG.gr g) (fieldsAt_none W1 0) (by decide) (fun f hf=>by cases hf) (by decide) (by decide))
 have hre:=hid (fun W1 (g:Gr W W1) (r:List UInt8)=>breply_any r (h.gr g).kx)
 obtain⟨p,cap,rfl,_⟩:=hf
 have hq0:ssPuts s x hd cl=if cl then ssEnds { s with x:=(bxReply s.x (putB x hd cl)).1 } else { s with x:=(bxReply s.x (putB x hd cl)).1 }:=rfl
 obtain⟨o,ho⟩:∃ o,bytesR x hd cl=o:=⟨_,rfl⟩
 obtain⟨o2,ho2⟩:∃ o2,bytesR noRp hd cl=o2:=⟨_,rfl⟩
 have hpb:putB x hd cl=o.getD (o2.getD []):=by
  rw[←ho,←ho2]
  unfold putB
  cases bytesR x hd cl <;> rfl
 rw[ho] at hby
 rw[ho2] at hno
 unfold noRp at hno
 unfold Rp.V at hby hno ⊢
 dsimp only at hby hno ⊢
 obtain⟨pb0,hpb0⟩:∃ y,putB x hd cl=y:=⟨_,rfl⟩
 rw[hpb0] at hq0 hpb
 have hq:=hid hq0
 have hfin:=hid (fun (w2 w3:World) (c5:True) (g:Gr W w2) (hp:Pst (BxAt bb) (fun k=>c k=4) w2 (bxReply s.x pb0).1 w3)=>(snKin b hv).ahead g (((h.gr g).setX hp).pst (fun k e=>Nat.lt_of_lt_of_le (hl k e) (Below.size g)) (hp.2.mono (fun k e=>hT k (by rw[show c k=4 from e];decide))) (add_of hT (Nat.le_refl _))))
 have hc5:=hid (fun (W1:World) (g:Gr W W1)=>(h.gr g).c5)
 clear h hT hl hG hx hq0 ho ho2 hpb0
 cases o with
 | some bs =>
  rw[show (some bs).getD (o2.getD [])=bs from rfl] at hpb
  subst hpb
  unfold byteV at hby
  dsimp only at hby
  go_enter Tryz.func70,Tryz.ntmps70
  go_wp2_with (fail)
  refine (hby.out _ (Gr.alloc _ _)).mono ?_
  rintro e w1 ⟨rfl,g0⟩
  have g1:=(Gr.alloc W (.cells #[.int .i64 x.code,.slice p x.fs.length cap,.string ⟨x.b.toArray⟩] 51)).trans g0
  clear g0
  have c5:=hc5.out _ g1
  have g1':=hid g1
  clear g1
  go_wp2_with (fail)
  refine (hre.out _ g1'.out _).mono ?_
  rintro e w3 ⟨rfl,hp⟩
  have hP:=hfin.out _ _ trivial g1'.out hp
  have he:=hid (sn_ends hP.1)
  have hP':=hid hP
  clear hp hP c5
  cases cl with
  | false =>
   go_wp2
   go_end0
   rw[hq.out]
   exact⟨rfl,hP'.out⟩
  | true =>
   go_wp2_with (fail)
   refine he.out.mono ?_
   rintro e w4 ⟨rfl,hp4⟩
   have hp4':=hid hp4
   clear hp4
   go_wp2
   go_end0
   rw[hq.out]
   exact⟨rfl,(snKin b hv).trans hP'.out hp4'.out⟩
 | none =>
  rw[show (none:Option (List UInt8)).getD (o2.getD [])=o2.getD [] from rfl] at hpb
  rw[show byteV none=.tuple #[.string ⟨#[]⟩,.int .i64 1] from rfl] at hby
  obtain⟨n2,hn2⟩:∃ n2:Int,byteV o2=.tuple #[.string ⟨pb0.toArray⟩,.int .i64 n2]:=by
   rw[hpb]
   cases o2 with
   | none=>exact⟨_,rfl⟩
   | some y=>exact⟨_,rfl⟩
  rw[hn2] at hno
  clear hn2 hpb
  go_enter Tryz.func70,Tryz.ntmps70
  go_wp2_with (fail)
  refine (hby.out _ (Gr.alloc _ _)).mono ?_
  rintro e w1 ⟨rfl,g0⟩
  have g00:=(Gr.alloc W (.cells #[.int .i64 x.code,.slice p x.fs.length cap,.string ⟨x.b.toArray⟩] 51)).trans g0
  clear g0
  go_wp2_with (fail)
  refine (hno.out _ g00).mono ?_
  rintro e w2 ⟨rfl,g0⟩
  have g1:=g00.trans g0
  clear g0 g00
  have c5:=hc5.out _ g1
  have g1':=hid g1
  clear g1
  go_wp2_with (fail)
  refine (hre.out _ g1'.out _).mono ?_
  rintro e w3 ⟨rfl,hp⟩
  have hP:=hfin.out _ _ trivial g1'.out hp
  have he:=hid (sn_ends hP.1)
  have hP':=hid hP
  clear hp hP c5
  cases cl with
  | false =>
   go_wp2
   go_end0
   rw[hq.out]
   exact⟨rfl,hP'.out⟩
  | true =>
   go_wp2_with (fail)
   refine he.out.mono ?_
   rintro e w4 ⟨rfl,hp4⟩
   have hp4':=hid hp4
   clear hp4
   go_wp2
   go_end0
   rw[hq.out]
   exact⟨rfl,(snKin b hv).trans hP'.out hp4'.out⟩
theorem sn_up (h:SnAt b hv T W s) (hlim:s.limit≤1099511627776) (hlen:s.p.inp.length+s.p.und.length≤90000):Calls Tryz.prog 93 #[.pointer (some ⟨b,0,none⟩)] W fun e w'=>e=.returned (.tuple #[])∧Pst (SnAt b hv) T W (ssUp s) w':=by
 obtain⟨⟨c,pb,bb,cv,h,hT⟩,hl⟩:=h
 have h':=hid h
 have hT':=hid hT
 have hl':=hid hl
 have hbT:=hid (hT b (by rw[h.cb];decide))
 have c1:=h.c1
 have hw:=hid (wnew_at W s.limit hlim)
 have hrl:(restQ s.p).2.length≤90000:=by
  unfold restQ
  split
  ·exact Nat.zero_le _
  ·simp only[List.length_append];omega
 have hlen':=hid hlen
 have hrl':=hid hrl
 clear h hT hl hlim hlen hrl
 go_enter Tryz.func93,Tryz.ntmps93
 go_wp2_with (fail)
 refine hw.out.mono ?_
 rintro e w1 ⟨kb,rfl,hk,g1⟩
 have h1:=(h'.out.gr g1).give h'.out.lt 3 (by decide)
 have hsk:SkP (.pointer (some ⟨kb,0,none⟩)) (fun k=>recol c W w1 3 k=3) w1 (some (wn0 s.limit)):=⟨kb,rfl,(wnKin kb).mono hk (fun k e=>recol_new e.1 e.2) (fun k e=>h1.lt k (by rw[e];decide))⟩
 have h2:=h1.setC hsk
 have g1':=hid g1
 have c4:=h1.c4
 have fz:=h1.fz
 have hbs:=h1.blt
 have h2':=hid h2
 clear hk h1 h2 hsk g1
 go_upto_region 1 with (fail)
 obtain⟨w2,hw2⟩:∃ w2,w1.setCell ⟨b,4,none⟩ (.pointer (some ⟨kb,0,none⟩))=w2:=⟨_,rfl⟩
 rw[hw2] at h2'
 rw[hw2]
 have hc2:=hid (show Ch T w1 w2 from hw2▸Ch.setCell w1 (a:=⟨b,4,none⟩) hbT.out _)
 have hs2:=hid (show w2.heap.size=w1.heap.size by rw[←hw2];simp)
 clear hw2 c4 fz hbs c1
 have c3:=h2'.out.c3
 have c4:=h2'.out.c4
 go_region_with (first
  |(go_at_call 113;refine (pqrest_at (h2'.out.gr (Gr.drew' _)).kp hlen'.out).mono ?_;rintro e w3 ⟨rfl,hp3⟩;have h3:=hid ((h2'.out.gr (Gr.drew' _)).setP hp3);have hp3':=hid hp3;clear hp3;have c4:=h3.out.c4)
  |(go_at_call 40;refine (wfeed_at (h3.out.kw_of rfl) _ (by have:=hrl'.out;show 0+_≤_;omega)).mono ?_;rintro e w4 ⟨rfl,hp4⟩;have h4:=hid (h3.out.setW rfl hp4);have hp4':=hid hp4;clear hp4))
 all_goals
  have k2:=h4.out.c2
  have fz:=h4.out.fz
  have hsd:=hp3'.out.2.size
  have gd:=hid (show Gr w2 w2.drew from Gr.drew' _)
  clear c3 c4
  have chA:Ch T W w3:=(g1'.out.to_ch T).trans (hc2.out.trans (((Gr.drew' _).to_ch T).trans (hp3'.out.2.mono (fun k e=>by
   have e:recol c W w1 3 k=2:=e
   rcases recol_cases c W w1 3 k with⟨_,e2⟩ | ⟨_,e2⟩
   ·rw[e2] at e;cases e
   ·exact hT'.out k (by rw[←e2,e];decide)))))
  have chB:Ch T W w4:=chA.drop_new hp4'.out.2 (fun k e=>by
   rcases recol_cases (recol c W w1 3) _ w3 2 k with⟨_,e2⟩ | ⟨_,e2⟩
   ·exact absurd (e2.symm.trans e) (by decide)
   ·have e:recol c W w1 3 k=3:=e2.symm.trans e
    rcases recol_cases c W w1 3 k with⟨e3,_⟩ | ⟨_,e3⟩
    ·exact .inr e3.1
    ·exact .inl (hT'.out k (by rw[←e3,e];decide)))
  have s1:=Below.size g1'.out
  have s2:=hs2.out
  have s4:=hp4'.out.2.size
  have sd:=Below.size (show Gr w2 w2.drew from Gr.drew' _)
  have hch:=hid chB
  have hfr:=hid (show ∀ k,recol (recol (recol c W w1 3) w2.drew w3 2) w3 w4 3 k≠0→Add T W w4 k from fun k e=>by
   rcases recol_imp k e with e | e
   ·rcases recol_imp k e with e | e
    ·rcases recol_imp k e with e | e
     ·exact .inl (hT'.out k e)
     ·exact .inr ⟨e.1,by have:=e.2;omega⟩
    ·exact .inr ⟨by have:=e.1;omega,by have:=e.2;omega⟩
   ·exact .inr ⟨by have:=e.1;omega,by have:=e.2;omega⟩)
  clear chA chB s1 s2 s4 sd hsd gd
  go_wp2
  go_end0
  exact⟨rfl,(h4.out.setSt 2).pst hl'.out (hch.out.trans (Ch.setCell w4 (a:=⟨b,2,none⟩) hbT.out _)) (fun k e=>(hfr.out k e).imp_right (fun e=>⟨e.1,by rw[World.size_setCell];exact e.2⟩))⟩
end
end Go.Proofs.YtadobobfjnmdlaaGreatDoor
