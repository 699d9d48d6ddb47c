/-
  Plain laws of sessions: however bytes are cut, a session tells the same; no program in sight.
-/
import Derived.Test.YtadobobfjnmdlaaGreatDoorEc
set_option linter.unnecessarySimpa false
set_option linter.unusedVariables false
set_option linter.unusedSimpArgs false
set_option maxHeartbeats 16000000
set_option maxRecDepth 100000
open Go.Lib (hid)
open Go.Proofs.Tryz
namespace Go.Proofs.YtadobobfjnmdlaaGreatDoor
inductive Kern where
 | http (s:List UInt8)
 | sock (c:Wn)
 | over
def kFeed (k:Kern) (b:List UInt8):Kern:=match k with
 | .http s=>.http (s++b)
 | .sock c=>.sock (wnFeed c b)
 | .over=>.over
def ansK (H:Rq→Rp) (r:Rq):List UInt8×Nat :=
 if (H r).code=101 then
  (if (answerB (checkB r)).2 then (putB (answerB (checkB r)).1 false false,2) else (putB (answerB (checkB r)).1 (r.m==qHEAD) r.c,if r.c then 1 else 0))
 else (putB (H r) (r.m==qHEAD) r.c,if r.c then 1 else 0)
def outW:Wev→List UInt8
 | .message _ _=>[]
 | .ping t=>outF 10 t
 | .closing code=>outF 8 (closW code)
 | .failing code=>outF 8 (closW code)
def saidW:Wev→List (Nat×List UInt8)
 | .message op t=>[(op,t)]
 | _=>[]
def sockK (c:Wn):Kern:=if c.st=3 then .over else .sock c
inductive KD (H:Rq→Rp) (limit:Nat):Kern→List UInt8→List (Nat×List UInt8)→Kern→Prop where
 | over:KD H limit .over [] [] .over
 | more {s:List UInt8} (h:oneQ s=.more):KD H limit (.http s) [] [] (.http s)
 | bad {s:List UInt8} {c:Nat} (h:oneQ s=.bad c):KD H limit (.http s) (putB ⟨c,[],reasonL c⟩ false true) [] .over
 | got {s:List UInt8} {r:Rq} {n:Nat} {t0 t:List UInt8} {l:List (Nat×List UInt8)} {k':Kern} (h:oneQ s=.got r n) (ha:ansK H r=(t0,0)) (k:KD H limit (.http (s.drop n)) t l k'):KD H limit (.http s) (t0++t) l k'
 | close {s:List UInt8} {r:Rq} {n:Nat} {t0:List UInt8} (h:oneQ s=.got r n) (ha:ansK H r=(t0,1)):KD H limit (.http s) t0 [] .over
 | up {s:List UInt8} {r:Rq} {n:Nat} {t0 t:List UInt8} {l:List (Nat×List UInt8)} {k':Kern} (h:oneQ s=.got r n) (ha:ansK H r=(t0,2)) (k:KD H limit (.sock (wnFeed (wn0 limit) (s.drop n))) t l k'):KD H limit (.http s) (t0++t) l k'
 | sock {c c':Wn} {l:List Wev} (h:Drains c l c'):KD H limit (.sock c) (l.flatMap outW) (l.flatMap saidW) (sockK c')
def KOk:Kern→Prop
 | .sock c=>Wok c∧c.st=1
 | _=>True
theorem wnTakes_st (c:Wn) (e:Fev):(wnTakes c e).1.st=c.st∨(wnTakes c e).1.st=3:=by
 unfold wnTakes wnControl wnJoin wnFail
 cases e <;> dsimp only <;> (repeat' split) <;> first | exact .inl rfl | exact .inr rfl
theorem wnStep_st {c c1:Wn} {o:Option Wev} (h:wnStep c=some (c1,o)):c1.st=c.st∨c1.st=3:=by
 obtain⟨_,r,e,_,ht,_⟩:=wnStep_at h
 have:=wnTakes_st { c with r:=r } e
 rw[ht] at this
 exact this
theorem Drains.keeps {c:Wn} {l:List Wev} {c':Wn} (h:Drains c l c'):(Wok c→Wok c')∧(c'.st=c.st∨c'.st=3)∧wnSize c'≤wnSize c:=by
 induction h with
 | stop _=>exact⟨id,.inl rfl,Nat.le_refl _⟩
 | quiet h _ ih=>exact⟨λhw=>ih.1 (hw.step h),ih.2.1.elim (λe=>(wnStep_st h).elim (λe2=>.inl (e.trans e2)) (λe2=>.inr (e.trans e2))) .inr,Nat.le_trans ih.2.2 (Nat.le_of_lt (wnStep_size h))⟩
 | tells h _ ih=>exact⟨λhw=>ih.1 (hw.step h),ih.2.1.elim (λe=>(wnStep_st h).elim (λe2=>.inl (e.trans e2)) (λe2=>.inr (e.trans e2))) .inr,Nat.le_trans ih.2.2 (Nat.le_of_lt (wnStep_size h))⟩
theorem ansK_cases (H:Rq→Rp) (r:Rq):∃ t,ansK H r=(t,0)∨ansK H r=(t,1)∨ansK H r=(t,2):=by
 unfold ansK
 split
 ·split
  ·exact⟨_,.inr (.inr rfl)⟩
  ·cases r.c
   ·exact⟨_,.inl rfl⟩
   ·exact⟨_,.inr (.inl rfl)⟩
 ·cases r.c
  ·exact⟨_,.inl rfl⟩
  ·exact⟨_,.inr (.inl rfl)⟩
section
variable {H:Rq→Rp} {limit:Nat}
theorem KD.ex_sock (c:Wn):∃ t l k',KD H limit (.sock c) t l k':=by
 obtain⟨l,c',h⟩:=Drains.ex _ c (Nat.lt_succ_self _)
 exact⟨_,_,_,.sock h⟩
theorem KD.ex_http:∀ (m:Nat) (s:List UInt8),s.length≤m→∃ t l k',KD H limit (.http s) t l k'
 | m,s,hm=>by
  cases e:oneQ s with
  | more=>exact⟨_,_,_,.more e⟩
  | bad c=>exact⟨_,_,_,.bad e⟩
  | got r n =>
   obtain⟨h1,h2⟩:=one_got e
   obtain⟨t,ha | ha | ha⟩:=ansK_cases H r
   ·cases m with
    | zero=>omega
    | succ m =>
     obtain⟨t,l,k',h⟩:=KD.ex_http m (s.drop n) (by rw[List.length_drop];omega)
     exact⟨_,_,_,.got e ha h⟩
   ·exact⟨_,_,_,.close e ha⟩
   ·obtain⟨t,l,k',h⟩:=KD.ex_sock (H:=H) (limit:=limit) (wnFeed (wn0 limit) (s.drop n))
    exact⟨_,_,_,.up e ha h⟩
theorem KD.ex (k:Kern):∃ t l k',KD H limit k t l k':=match k with
 | .http s=>KD.ex_http s.length s (Nat.le_refl _)
 | .sock c=>KD.ex_sock c
 | .over=>⟨_,_,_,.over⟩
theorem frFeed_app (r:Fr) (a b:List UInt8):frFeed r (a++b)=frFeed (frFeed r a) b:=by
 unfold frFeed
 by_cases h:r.st=2
 ·rw[if_pos h,if_pos h,if_pos h]
 ·rw[if_neg h,if_neg h,if_neg h,List.append_assoc]
theorem wnFeed_app (c:Wn) (a b:List UInt8):wnFeed c (a++b)=wnFeed (wnFeed c a) b:=by
 by_cases h:c.st=3
 ·rw[wnFeed_over h,wnFeed_over h,wnFeed_over h]
 ·rw[wnFeed_of h,wnFeed_of h,wnFeed_of (c:=fedW c a) h]
  unfold fedW
  rw[frFeed_app]
theorem wnFeed_st (c:Wn) (b:List UInt8):(wnFeed c b).st=c.st:=by unfold wnFeed;split <;> rfl
theorem KD.feed {k k1:Kern} {t:List UInt8} {l:List (Nat×List UInt8)} (h:KD H limit k t l k1) (hk:KOk k) (b:List UInt8) :
  ∃ t2 l2 k2,KD H limit (kFeed k1 b) t2 l2 k2∧KD H limit (kFeed k b) (t++t2) (l++l2) k2:=by
 induction h with
 | over=>exact⟨_,_,_,.over,.over⟩
 | @more s h =>
  obtain⟨t,l,k',e⟩:=KD.ex (H:=H) (limit:=limit) (.http (s++b))
  exact⟨t,l,k',e,e⟩
 | bad h=>exact⟨_,_,_,.over,by rw[List.append_nil];exact .bad (one_sticky h b)⟩
 | @got s r n t0 t l k' h ha k ih =>
  obtain⟨t2,l2,k2,e1,e2⟩:=ih trivial
  have ho:=one_app s b
  rw[h] at ho
  refine⟨t2,l2,k2,e1,?_⟩
  rw[List.append_assoc]
  refine .got ho.1 ha ?_
  rw[List.drop_append_of_le_length ho.2.1]
  exact e2
 | @close s r n t0 h ha =>
  have ho:=one_app s b
  rw[h] at ho
  exact⟨_,_,_,.over,by rw[List.append_nil];exact .close ho.1 ha⟩
 | @up s r n t0 t l k' h ha k ih =>
  obtain⟨t2,l2,k2,e1,e2⟩:=ih ⟨(wn0_ok limit).feed _,wnFeed_st _ _⟩
  have ho:=one_app s b
  rw[h] at ho
  refine⟨t2,l2,k2,e1,?_⟩
  rw[List.append_assoc]
  refine .up ho.1 ha ?_
  rw[List.drop_append_of_le_length ho.2.1,wnFeed_app]
  exact e2
 | @sock c c' l h =>
  obtain⟨m,d,d',k1,k2,k3⟩:=drains_feed _ c l c' (Nat.lt_succ_self _) h hk.1 b
  have e:sockK d'=sockK d:=by
   rcases k3 with k3 | ⟨k3,k4⟩
   ·rw[k3]
   ·unfold sockK;rw[if_pos k3,if_pos k4]
  by_cases h3:c'.st=3
  ·rw[wnFeed_over h3] at k1
   obtain⟨rfl,rfl⟩:=k1.over_is h3
   have e3:sockK d=.over:=if_pos h3
   rw[e3]
   refine⟨[],[],.over,.over,?_⟩
   have:=KD.sock (H:=H) (limit:=limit) k2
   rw[List.append_nil,e,e3] at this
   rw[List.append_nil,List.append_nil]
   exact this
  ·have e3:sockK c'=.sock c':=if_neg h3
   rw[e3]
   refine⟨_,_,_,.sock k1,?_⟩
   have:=KD.sock (H:=H) (limit:=limit) k2
   rw[e,List.flatMap_append,List.flatMap_append] at this
   exact this
end
def kSize:Kern→Nat
 | .http s=>s.length
 | .sock c=>wnSize c
 | .over=>0
theorem wnSize_feed (c:Wn) (b:List UInt8):wnSize (wnFeed c b)≤wnSize c+b.length:=by
 unfold wnFeed wnSize
 split
 ·omega
 ·unfold frFeed
  split
  ·dsimp only;omega
  ·simp only[List.length_append];omega
theorem kSize_feed (k:Kern) (b:List UInt8):kSize (kFeed k b)≤kSize k+b.length:=by
 cases k with
 | http s=>simp[kFeed,kSize]
 | sock c=>exact wnSize_feed c b
 | over=>exact Nat.zero_le _
theorem wnSize_new (limit:Nat) (b:List UInt8):wnSize (wnFeed (wn0 limit) b)≤b.length:=by
 have:=wnSize_feed (wn0 limit) b
 have e:wnSize (wn0 limit)=0:=rfl
 omega
section
variable {H:Rq→Rp} {limit:Nat}
theorem KOk.feed {k:Kern} (h:KOk k) (b:List UInt8):KOk (kFeed k b):=by
 cases k with
 | http s=>trivial
 | sock c=>exact⟨h.1.feed b,(wnFeed_st c b).trans h.2⟩
 | over=>trivial
theorem KD.keeps {k k':Kern} {t:List UInt8} {l:List (Nat×List UInt8)} (h:KD H limit k t l k'):KOk k→KOk k'∧kSize k'≤kSize k:=by
 induction h with
 | over=>exact λ_=>⟨trivial,Nat.le_refl _⟩
 | more _=>exact λ_=>⟨trivial,Nat.le_refl _⟩
 | bad _=>exact λ_=>⟨trivial,Nat.zero_le _⟩
 | @got s r n t0 t l k' h ha k ih =>
  intro _
  obtain⟨h1,h2⟩:=ih trivial
  refine⟨h1,Nat.le_trans h2 ?_⟩
  simp only[kSize,List.length_drop];omega
 | close _ _=>exact λ_=>⟨trivial,Nat.zero_le _⟩
 | @up s r n t0 t l k' h ha k ih =>
  intro _
  obtain⟨h1,h2⟩:=ih ⟨(wn0_ok limit).feed _,wnFeed_st _ _⟩
  refine⟨h1,Nat.le_trans h2 ?_⟩
  have:=wnSize_new limit (s.drop n)
  simp only[kSize,List.length_drop] at this ⊢;omega
 | @sock c c' l h =>
  intro hk
  obtain⟨h1,h2,h3⟩:=h.keeps
  unfold sockK
  split
  ·exact⟨trivial,Nat.zero_le _⟩
  ·rename_i h4
   exact⟨⟨h1 hk.1,by rcases h2 with h2 | h2;exact h2.trans hk.2;exact absurd h2 h4⟩,h3⟩
inductive Rep (limit:Nat):Ss→Kern→Prop where
 | http {s:Ss} {b:List UInt8} (h1:s.st=1) (hl:s.limit=limit) (hp:Stands s.p b) (hx:s.x=bx0 s.x.q):Rep limit s (.http b)
 | sock {s:Ss} {c:Wn} (h1:s.st=2) (hc:s.c=some c) (hx:s.x=bx0 s.x.q):Rep limit s (.sock c)
 | over {s:Ss} {cl:Bool} (h1:s.st=3) (hx:s.x=⟨s.x.q,[],none,[],none,cl,true,true⟩):Rep limit s .over
theorem rep_new (q limit:Nat):Rep limit (ss0 q limit) (.http []):=.http rfl rfl stands_new rfl
def saidS:Option Sev→List (Nat×List UInt8)
 | some (.said op t)=>[(op,t)]
 | _=>[]
def toldS:Option (List UInt8×Bool)→List UInt8
 | some x=>x.1
 | none=>[]
inductive Runs (H:Rq→Rp):Ss→List UInt8→List (Nat×List UInt8)→Nat→Ss→Prop where
 | stop {s:Ss} (h1:(ssNext H s).2=none) (h2:(ssOut (ssNext H s).1).2=none):Runs H s [] [] 0 (ssOut (ssNext H s).1).1
 | go {s:Ss} {t:List UInt8} {l:List (Nat×List UInt8)} {n:Nat} {s':Ss} (h:(ssNext H s).2.isSome=true∨(ssOut (ssNext H s).1).2.isSome=true) (k:Runs H (ssOut (ssNext H s).1).1 t l n s') :
   Runs H s (toldS (ssOut (ssNext H s).1).2++t) (saidS (ssNext H s).2++l) (n+1) s'
theorem ssNext_over {s:Ss} (h:s.st=3):ssNext H s=(s,none):=by
 unfold ssNext ssTakes
 rw[h];rfl
theorem runs_stop {s s1 s2:Ss} (h1:ssNext H s=(s1,none)) (h2:ssOut s1=(s2,none)):Runs H s [] [] 0 s2:=by
 have:=@Runs.stop H s (by rw[h1]) (by rw[h1,h2])
 rw[h1,h2] at this;exact this
theorem runs_go {s s1 s2 s':Ss} {e:Option Sev} {o:Option (List UInt8×Bool)} {t:List UInt8} {l:List (Nat×List UInt8)} {n:Nat} (h1:ssNext H s=(s1,e)) (h2:ssOut s1=(s2,o)) (h:e.isSome=true∨o.isSome=true) (k:Runs H s2 t l n s') :
  Runs H s (toldS o++t) (saidS e++l) (n+1) s':=by
 have:=@Runs.go H s t l n s' (by rw[h1,h2];exact h) (by rw[h1,h2];exact k)
 rw[h1,h2] at this;exact this
theorem runs_end {s:Ss} {cl:Bool} (h:s.st=3) (hx:s.x=⟨s.x.q,[],none,[],none,cl,true,false⟩):∃ s',Runs H s [] [] 1 s'∧Rep limit s' .over:=by
 have e2:ssOut s=({ s with x:=⟨s.x.q,[],none,[],none,cl,true,true⟩ },some ([],true)):=by
  unfold ssOut
  rw[hx];rfl
 refine⟨_,runs_go (e:=none) (ssNext_over h) e2 (.inr rfl) (runs_stop (ssNext_over h) (s2:={ s with x:=⟨s.x.q,[],none,[],none,cl,true,true⟩ }) rfl),.over h rfl⟩
theorem runs_last {s s1 s2:Ss} {e:Sev} {cl:Bool} {t:List UInt8} (h1:ssNext H s=(s1,some e)) (h3:s1.st=3) (h2:ssOut s1=(s2,some (t,false))) (hs:s2.st=3) (hx:s2.x=⟨s2.x.q,[],none,[],none,cl,true,false⟩) :
  ∃ s',Runs H s t (saidS (some e)) 2 s'∧Rep limit s' .over:=by
 obtain⟨s',k1,k2⟩:=runs_end (H:=H) (limit:=limit) hs hx
 refine⟨s',?_,k2⟩
 have:=runs_go h1 h2 (.inl rfl) k1
 rw[List.append_nil] at this
 rw[show saidS (some e)=saidS (some e)++[] from (List.append_nil _).symm]
 exact this
theorem takes_http {s:Ss} (h1:s.st≠3) (hx:s.x=bx0 s.x.q):ssTakes s=true:=by
 unfold ssTakes
 rw[hx]
 simp[h1,bx0]
theorem next_http {s:Ss} (h1:s.st=1) (hx:s.x=bx0 s.x.q) {y:Ss×Option Sev} (hy:ssAsks H s=y):ssNext H s=(if y.2.isNone||y.1.st==3 then { y.1 with fresh:=false } else y.1,y.2):=by
 unfold ssNext
 rw[takes_http (by omega) hx,if_neg (by decide),if_pos h1,hy]
theorem next_sock {s:Ss} (h1:s.st=2) (hx:s.x=bx0 s.x.q) {y:Ss×Option Sev} (hy:ssSays s=y):ssNext H s=(if y.2.isNone||y.1.st==3 then { y.1 with fresh:=false } else y.1,y.2):=by
 unfold ssNext
 rw[takes_http (by omega) hx,if_neg (by decide),if_neg (by omega),hy]
theorem puts_go {s:Ss} (x:Rp) (hd:Bool) (hx:s.x=bx0 s.x.q):ssPuts s x hd false={ s with x:={ bx0 s.x.q with reps:=[putB x hd false] } }:=by
 unfold ssPuts
 rw[if_neg (by decide),hx];rfl
theorem puts_end {s:Ss} (x:Rp) (hd:Bool) (hx:s.x=bx0 s.x.q):ssPuts s x hd true={ s with x:=⟨s.x.q,[putB x hd true],none,[],none,false,true,false⟩,st:=3,fresh:=false }:=by
 unfold ssPuts
 rw[if_pos rfl,hx];rfl
theorem out_reply {s:Ss} {q:Nat} {t:List UInt8} {cl en tl:Bool} (hx:s.x=⟨q,[t],none,[],none,cl,en,tl⟩):ssOut s=({ s with x:=⟨q,[],none,[],none,cl,en,tl⟩ },some (t,false)):=by
 unfold ssOut
 rw[hx];rfl
def evSt (o:Option Wev) (a b:Nat):Prop:=match o with
 | some (.closing _)=>b=3
 | some (.failing _)=>b=3
 | _=>b=a
theorem wnTakes_ev (c:Wn) (e:Fev):evSt (wnTakes c e).2 c.st (wnTakes c e).1.st:=by
 unfold wnTakes wnControl wnJoin wnFail
 cases e <;> dsimp only <;> (repeat' split) <;> (try exact rfl)
 all_goals (cases (jnEnd c.j).2 <;> exact rfl)
theorem wnGo_ev:∀ (n:Nat) (c:Wn),evSt (wnGo n c).2 c.st (wnGo n c).1.st
 | 0,_=>rfl
 | n+1,c=>by
  unfold wnGo
  split
  ·exact rfl
  ·cases hf:frNext c.r with
   | mk r o =>
    cases o with
    | none=>exact rfl
    | some ev =>
     dsimp only
     have hv:=wnTakes_ev { c with r:=r } ev
     cases ht:wnTakes { c with r:=r } ev with
     | mk c2 o2 =>
      rw[ht] at hv
      cases o2 with
      | none =>
       have hv:c2.st=c.st:=hv
       dsimp only
       rw[←hv]
       exact wnGo_ev n c2
      | some x=>exact hv
theorem wnNext_ev (c:Wn):evSt (wnNext c).2 c.st (wnNext c).1.st:=wnGo_ev _ c
theorem says_gone {s:Ss} {c1:Wn} {code:Nat} (hx:s.x=bx0 s.x.q):ssGone { s with c:=some c1 } 1 code={ s with c:=some c1,x:=⟨s.x.q,[],none,[],some (closW code),true,true,false⟩,st:=3,fresh:=false }:=by
 unfold ssGone ssCloses ssEnds
 rw[if_pos rfl]
 dsimp only
 rw[hx];rfl
theorem out_close {s:Ss} {q:Nat} {t:List UInt8} (hx:s.x=⟨q,[],none,[],some t,true,true,false⟩):ssOut s=({ s with x:=⟨q,[],none,[],none,true,true,false⟩ },some (outF 8 t,false)):=by
 unfold ssOut
 rw[hx];rfl
theorem runs_sock:∀ (n:Nat) (c:Wn) (l:List Wev) (c':Wn),wnSize c<n→Drains c l c'→KOk (.sock c)→∀ s,Rep limit s (.sock c)→∃ m s',Runs H s (l.flatMap outW) (l.flatMap saidW) m s'∧Rep limit s' (sockK c')∧m≤wnSize c+2
 | 0,_,_,_,h,_,_,_,_=>absurd h (Nat.not_lt_zero _)
 | n+1,c,l,c',hn,hd,hk,s,hs=>by
  cases hs with
  | sock h1 hc hx =>
   have hw:ssWn s=c:=by unfold ssWn;rw[hc];rfl
   cases e:wnNext c with
   | mk c1 o =>
    cases o with
    | none =>
     have hd1:=wnNext_none e
     obtain⟨rfl,rfl⟩:=hd.det hd1
     have hA:ssSays s=({ s with c:=some c' },none):=by
      unfold ssSays
      rw[hw,e]
     have hq:=next_sock (H:=H) h1 hx hA
     have hst:c'.st=1∨c'.st=3:=by
      rcases hd.keeps.2.1 with h | h
      ·exact .inl (h.trans hk.2)
      ·exact .inr h
     have hst1:c'.st=1:=by
      have:=wnNext_ev c
      rw[e] at this
      exact this.trans hk.2
     refine⟨0,{ s with c:=some c',x:=bx0 s.x.q,fresh:=false },runs_stop hq ?_,?_,Nat.zero_le _⟩
     ·unfold ssOut
      dsimp only[Option.isNone,Bool.true_or,if_true]
      rw[hx];rfl
     ·have:sockK c'=.sock c':=if_neg (by omega)
      rw[this]
      exact .sock h1 rfl rfl
    | some x =>
     obtain⟨z1,z2,z3⟩:=wnNext_some e
     obtain⟨l1,c9,hd1⟩:=Drains.ex _ c1 (Nat.lt_succ_self _)
     obtain⟨rfl,rfl⟩:=hd.det (z3 _ _ hd1)
     have hv:=wnNext_ev c
     rw[e] at hv
     have hz0:(s.st==3)=false:=by rw[h1];rfl
     cases x with
     | message op t =>
      have hv:c1.st=c.st:=hv
      have hA:ssSays s=({ s with c:=some c1 },some (.said op t)):=by
       unfold ssSays
       rw[hw,e]
      have hq:ssNext H s=({ s with c:=some c1 },some (.said op t)):=by
       rw[next_sock h1 hx hA]
       dsimp only[Option.isNone,Bool.false_or]
       rw[hz0];rfl
      have ho:ssOut { s with c:=some c1 }=({ s with c:=some c1,x:=bx0 s.x.q },none):=by
       unfold ssOut
       dsimp only
       rw[hx];rfl
      obtain⟨m,s',k1,k2,k3⟩:=runs_sock n c1 l1 c' (by omega) hd1 ⟨z2 hk.1,hv.trans hk.2⟩ { s with c:=some c1,x:=bx0 s.x.q } (.sock h1 rfl rfl)
      exact⟨m+1,s',runs_go hq ho (.inl rfl) k1,k2,by omega⟩
     | ping t =>
      have hv:c1.st=c.st:=hv
      have hA:ssSays s=({ s with c:=some c1,x:={ bx0 s.x.q with pong:=some t } },some .done):=by
       unfold ssSays
       rw[hw,e]
       dsimp only
       rw[hx];rfl
      have hq:ssNext H s=({ s with c:=some c1,x:={ bx0 s.x.q with pong:=some t } },some .done):=by
       rw[next_sock h1 hx hA]
       dsimp only[Option.isNone,Bool.false_or]
       rw[hz0];rfl
      have ho:ssOut { s with c:=some c1,x:={ bx0 s.x.q with pong:=some t } }=({ s with c:=some c1,x:=bx0 s.x.q },some (outF 10 t,false)):=rfl
      obtain⟨m,s',k1,k2,k3⟩:=runs_sock n c1 l1 c' (by omega) hd1 ⟨z2 hk.1,hv.trans hk.2⟩ { s with c:=some c1,x:=bx0 s.x.q } (.sock h1 rfl rfl)
      exact⟨m+1,s',runs_go hq ho (.inl rfl) k1,k2,by omega⟩
     | closing code =>
      have hv:c1.st=3:=hv
      obtain⟨rfl,rfl⟩:=hd1.over_is hv
      have hA:ssSays s=(ssGone { s with c:=some c' } 1 code,some .done):=by
       unfold ssSays
       rw[hw,e,hk.2]
      rw[says_gone hx] at hA
      have hq:=next_sock (H:=H) h1 hx hA
      obtain⟨s',k1,k2⟩:=runs_last (limit:=limit) hq rfl (out_close rfl) rfl rfl
      refine⟨2,s',?_,?_,by omega⟩
      ·rw[show [Wev.closing code].flatMap outW=outF 8 (closW code) from List.append_nil _]
       exact k1
      ·rw[show sockK c'=.over from if_pos hv];exact k2
     | failing code =>
      have hv:c1.st=3:=hv
      obtain⟨rfl,rfl⟩:=hd1.over_is hv
      have hA:ssSays s=(ssGone { s with c:=some c' } 1 code,some .done):=by
       unfold ssSays
       rw[hw,e,hk.2]
      rw[says_gone hx] at hA
      have hq:=next_sock (H:=H) h1 hx hA
      obtain⟨s',k1,k2⟩:=runs_last (limit:=limit) hq rfl (out_close rfl) rfl rfl
      refine⟨2,s',?_,?_,by omega⟩
      ·rw[show [Wev.failing code].flatMap outW=outF 8 (closW code) from List.append_nil _]
       exact k1
      ·rw[show sockK c'=.over from if_pos hv];exact k2
theorem runs_of {k k':Kern} {t:List UInt8} {l:List (Nat×List UInt8)} (h:KD H limit k t l k'):KOk k→∀ s,Rep limit s k→∃ n s',Runs H s t l n s'∧Rep limit s' k'∧n≤kSize k+2:=by
 induction h with
 | over =>
  intro _ s hs
  cases hs with
  | @over cl h1 hx =>
   refine⟨0,{ s with x:=⟨s.x.q,[],none,[],none,cl,true,true⟩ },runs_stop (ssNext_over h1) ?_,.over h1 rfl,Nat.zero_le _⟩
   unfold ssOut
   rw[hx];rfl
 | @more b h =>
  intro _ s hs
  cases hs with
  | http h1 hl hp hx =>
   have hn:=hp.next
   unfold NextOk at hn
   rw[h] at hn
   obtain⟨e1,e2,e3⟩:=hn
   have ha:ssAsks H s=({ s with p:=(nextQ s.p).1 },none):=by
    unfold ssAsks
    rw[show nextQ s.p=((nextQ s.p).1,(nextQ s.p).2) from rfl,e1]
    dsimp only
    rw[if_pos e2]
   have hq:=next_http h1 hx ha
   refine⟨0,{ s with p:=(nextQ s.p).1,x:=bx0 s.x.q,fresh:=false },runs_stop hq ?_,.http h1 hl e3 rfl,Nat.zero_le _⟩
   unfold ssOut
   dsimp only[Option.isNone,Bool.true_or,if_true]
   rw[hx];rfl
 | @bad b c h =>
  intro _ s hs
  cases hs with
  | http h1 hl hp hx =>
   have hn:=hp.next
   unfold NextOk at hn
   rw[h] at hn
   obtain⟨e1,e2,_⟩:=hn
   have hc:c≠0:=by rcases oneQ_codes h with h | h | h <;> omega
   have ha:ssAsks H s=(ssPuts { s with p:=(nextQ s.p).1 } ⟨c,[],reasonL c⟩ false true,some .done):=by
    unfold ssAsks
    rw[show nextQ s.p=((nextQ s.p).1,(nextQ s.p).2) from rfl,e1]
    dsimp only
    rw[e2,if_neg hc]
   rw[puts_end (s:={ s with p:=(nextQ s.p).1 }) _ _ hx] at ha
   have hq:=next_http h1 hx ha
   obtain⟨s',k1,k2⟩:=runs_last (limit:=limit) hq rfl (out_reply rfl) rfl rfl
   exact⟨2,s',k1,k2,by omega⟩
 | @got b r n t0 t l k' h ha k ih =>
  intro _ s hs
  cases hs with
  | http h1 hl hp hx =>
   have hn:=hp.next
   unfold NextOk at hn
   rw[h] at hn
   obtain⟨e1,e2⟩:=hn
   have hg:=one_got h
   have hA:ssAsks H s=((ssAnswers H { s with p:=(nextQ s.p).1 } r).1,some (ssAnswers H { s with p:=(nextQ s.p).1 } r).2):=by
    unfold ssAsks
    rw[show nextQ s.p=((nextQ s.p).1,(nextQ s.p).2) from rfl,e1]
   have hB:ssAnswers H { s with p:=(nextQ s.p).1 } r=({ s with p:=(nextQ s.p).1,x:={ bx0 s.x.q with reps:=[t0] } },.done):=by
    unfold ansK at ha
    unfold ssAnswers
    split at ha
    ·rename_i h101
     rw[if_pos h101]
     split at ha
     ·cases ha
     ·rename_i hz
      rw[if_neg hz]
      cases hcl:r.c with
      | true=>rw[hcl] at ha;cases ha
      | false =>
       rw[hcl] at ha
       cases ha
       rw[puts_go (s:={ s with p:=(nextQ s.p).1 }) _ _ hx]
    ·rename_i h101
     rw[if_neg h101]
     cases hcl:r.c with
     | true=>rw[hcl] at ha;cases ha
     | false =>
      rw[hcl] at ha
      cases ha
      rw[puts_go (s:={ s with p:=(nextQ s.p).1 }) _ _ hx]
   rw[hB] at hA
   have hq:=next_http h1 hx hA
   have hst:(s.st==3)=false:=by rw[h1];rfl
   have hq:ssNext H s=({ s with p:=(nextQ s.p).1,x:={ bx0 s.x.q with reps:=[t0] } },some .done):=by
    rw[hq]
    dsimp only[Option.isNone,Bool.false_or]
    rw[hst];rfl
   have ho:ssOut { s with p:=(nextQ s.p).1,x:={ bx0 s.x.q with reps:=[t0] } }=({ s with p:=(nextQ s.p).1,x:=bx0 s.x.q },some (t0,false)):=out_reply rfl
   obtain⟨m,s',k1,k2,k3⟩:=ih trivial { s with p:=(nextQ s.p).1,x:=bx0 s.x.q } (.http h1 hl (by rw[e2];exact .fresh rfl) rfl)
   have:=runs_go hq ho (.inl rfl) k1
   refine⟨_,s',this,k2,?_⟩
   simp only[kSize,List.length_drop] at k3 ⊢;omega
 | @close b r n t0 h ha =>
  intro _ s hs
  cases hs with
  | http h1 hl hp hx =>
   have hn:=hp.next
   unfold NextOk at hn
   rw[h] at hn
   obtain⟨e1,e2⟩:=hn
   have hA:ssAsks H s=((ssAnswers H { s with p:=(nextQ s.p).1 } r).1,some (ssAnswers H { s with p:=(nextQ s.p).1 } r).2):=by
    unfold ssAsks
    rw[show nextQ s.p=((nextQ s.p).1,(nextQ s.p).2) from rfl,e1]
   have hB:ssAnswers H { s with p:=(nextQ s.p).1 } r=({ s with p:=(nextQ s.p).1,x:=⟨s.x.q,[t0],none,[],none,false,true,false⟩,st:=3,fresh:=false },.done):=by
    unfold ansK at ha
    unfold ssAnswers
    split at ha
    ·rename_i h101
     rw[if_pos h101]
     split at ha
     ·cases ha
     ·rename_i hz
      rw[if_neg hz]
      cases hcl:r.c with
      | false=>rw[hcl] at ha;cases ha
      | true =>
       rw[hcl] at ha
       cases ha
       rw[puts_end (s:={ s with p:=(nextQ s.p).1 }) _ _ hx]
    ·rename_i h101
     rw[if_neg h101]
     cases hcl:r.c with
     | false=>rw[hcl] at ha;cases ha
     | true =>
      rw[hcl] at ha
      cases ha
      rw[puts_end (s:={ s with p:=(nextQ s.p).1 }) _ _ hx]
   rw[hB] at hA
   have hq:=next_http h1 hx hA
   obtain⟨s',k1,k2⟩:=runs_last (limit:=limit) hq rfl (out_reply rfl) rfl rfl
   exact⟨2,s',k1,k2,by omega⟩
 | @up b r n t0 t l k' h ha k ih =>
  intro _ s hs
  cases hs with
  | http h1 hl hp hx =>
   have hn:=hp.next
   unfold NextOk at hn
   rw[h] at hn
   obtain⟨e1,e2⟩:=hn
   have hg:=one_got h
   have hA:ssAsks H s=((ssAnswers H { s with p:=(nextQ s.p).1 } r).1,some (ssAnswers H { s with p:=(nextQ s.p).1 } r).2):=by
    unfold ssAsks
    rw[show nextQ s.p=((nextQ s.p).1,(nextQ s.p).2) from rfl,e1]
   have hr:restQ (nextQ s.p).1=(ps0,b.drop n):=by
    have hst:Stands (nextQ s.p).1 (b.drop n):=by rw[e2];exact .fresh rfl
    rw[hst.rest,if_neg (by rw[e2];exact λh=>h rfl)]
   have hB:ssAnswers H { s with p:=(nextQ s.p).1 } r=({ s with p:=ps0,x:={ bx0 s.x.q with reps:=[t0] },c:=some (wnFeed (wn0 limit) (b.drop n)),st:=2 },.upgraded):=by
    unfold ansK at ha
    unfold ssAnswers
    split at ha
    ·rename_i h101
     rw[if_pos h101]
     split at ha
     ·rename_i hz
      rw[if_pos hz]
      cases ha
      rw[puts_go (s:={ s with p:=(nextQ s.p).1 }) _ _ hx]
      unfold ssUp
      dsimp only
      rw[hr,hl]
     ·split at ha <;> cases ha
    ·split at ha <;> cases ha
   rw[hB] at hA
   have hq:=next_http h1 hx hA
   have ho:ssOut ({ s with p:=ps0,x:={ bx0 s.x.q with reps:=[t0] },c:=some (wnFeed (wn0 limit) (b.drop n)),st:=2 }:Ss)=({ s with p:=ps0,x:=bx0 s.x.q,c:=some (wnFeed (wn0 limit) (b.drop n)),st:=2 },some (t0,false)):=out_reply rfl
   obtain⟨m,s',k1,k2,k3⟩:=ih ⟨(wn0_ok limit).feed _,wnFeed_st _ _⟩ { s with p:=ps0,x:=bx0 s.x.q,c:=some (wnFeed (wn0 limit) (b.drop n)),st:=2 } (.sock rfl rfl rfl)
   have:=runs_go hq ho (.inl rfl) k1
   refine⟨_,s',this,k2,?_⟩
   have hz:=wnSize_new limit (b.drop n)
   simp only[kSize,List.length_drop] at k3 hz ⊢;omega
 | @sock c c' l h =>
  intro hk s hs
  exact runs_sock _ c l c' (Nat.lt_succ_self _) h hk s hs
end
structure Bok (x:Bx):Prop where
 t:x.told=true→x.ends=true∧x.reps=[]∧x.pong=none∧x.msgs=[]∧x.close=none
 r:x.reps.length≤4
 m:x.msgs.length≤x.q
 q:x.q≤64
 k:∀ m∈x.msgs,m.kind=3
structure Sok (s:Ss):Prop where
 a:s.st=1∨s.st=2∨s.st=3
 b:s.st=2→∃ c,s.c=some c∧(c.st=1∨c.st=2)
 e:s.x.ends=decide (s.st=3)
 x:Bok s.x
theorem bok0 {q:Nat} (h:q≤64):Bok (bx0 q):=⟨λe=>absurd (show false=true from e) (by decide),Nat.zero_le _,Nat.zero_le _,h,λ_ hm=>by cases hm⟩
theorem sok0 {q limit:Nat} (h:q≤64):Sok (ss0 q limit):=⟨.inl rfl,λe=>absurd (show (1:Nat)=2 from e) (by decide),rfl,bok0 h⟩
theorem Bok.reply {x:Bx} (h:Bok x) (s:List UInt8):Bok (bxReply x s).1∧(bxReply x s).1.ends=x.ends∧(bxReply x s).1.q=x.q:=by
 unfold bxReply
 split
 ·exact⟨h,rfl,rfl⟩
 ·rename_i hs
  split
  ·exact⟨h,rfl,rfl⟩
  ·refine⟨⟨λe=>?_,?_,h.m,h.q,h.k⟩,rfl,rfl⟩
   ·have:=(h.t e).1
    unfold bxShut at hs
    rw[this,Bool.or_true] at hs
    exact absurd rfl hs
   ·simp only[List.length_append,List.length_singleton];omega
theorem Bok.pong {x:Bx} (h:Bok x) (s:List UInt8):Bok (bxPong x s).1∧(bxPong x s).1.ends=x.ends∧(bxPong x s).1.q=x.q:=by
 unfold bxPong
 split
 ·exact⟨h,rfl,rfl⟩
 ·rename_i hs
  refine⟨⟨λe=>?_,h.r,h.m,h.q,h.k⟩,rfl,rfl⟩
  have:=(h.t e).1
  unfold bxShut at hs
  rw[this,Bool.or_true] at hs
  exact absurd rfl hs
theorem Bok.close {x:Bx} (h:Bok x) (s:List UInt8):Bok (bxClose x s).1∧(bxClose x s).1.ends=x.ends∧(bxClose x s).1.q=x.q:=by
 unfold bxClose
 split
 ·exact⟨h,rfl,rfl⟩
 ·rename_i hs
  refine⟨⟨λe=>?_,h.r,h.m,h.q,h.k⟩,rfl,rfl⟩
  have:=(h.t e).1
  unfold bxShut at hs
  rw[this,Bool.or_true] at hs
  exact absurd rfl hs
theorem Bok.end' {x:Bx} (h:Bok x):Bok (bxEnd x):=⟨λe=>⟨rfl,(h.t e).2⟩,h.r,h.m,h.q,h.k⟩
theorem Bok.next {x:Bx} (h:Bok x):Bok (bxNext x).1∧(bxNext x).1.ends=x.ends∧(bxNext x).1.q=x.q:=by
 obtain⟨q,reps,pong,msgs,close,closed,ends,told⟩:=x
 obtain⟨h1,h2,h3,h4,h5⟩:=h
 dsimp only at h1 h2 h3 h4 h5
 unfold bxNext
 dsimp only
 cases reps with
 | cons a l=>exact⟨⟨λe=>by (cases (h1 e).2.1),by simp only[List.length_cons] at h2 ⊢;omega,h3,h4,h5⟩,rfl,rfl⟩
 | nil =>
  cases pong with
  | some a=>exact⟨⟨λe=>by (cases (h1 e).2.2.1),h2,h3,h4,h5⟩,rfl,rfl⟩
  | none =>
   cases msgs with
   | cons a l=>exact⟨⟨λe=>by (cases (h1 e).2.2.2.1),h2,by simp only[List.length_cons] at h3 ⊢;omega,h4,λm hm=>h5 m (List.mem_cons_of_mem _ hm)⟩,rfl,rfl⟩
   | nil =>
    cases close with
    | some a=>exact⟨⟨λe=>by (cases (h1 e).2.2.2.2),h2,h3,h4,h5⟩,rfl,rfl⟩
    | none =>
     dsimp only
     split
     ·rename_i he
      exact⟨⟨λ_=>⟨by simpa using (Bool.and_eq_true _ _▸he).1,rfl,rfl,rfl,rfl⟩,h2,h3,h4,h5⟩,rfl,rfl⟩
     ·exact⟨⟨h1,h2,h3,h4,h5⟩,rfl,rfl⟩
theorem Sok.feed {s:Ss} (h:Sok s) (b:List UInt8):Sok (ssFeed s b):=by
 unfold ssFeed
 split
 ·exact⟨h.a,h.b,h.e,h.x⟩
 ·split
  ·rename_i h2
   obtain⟨c,hc,hs⟩:=h.b h2
   refine⟨h.a,λ_=>⟨wnFeed c b,by dsimp only;rw[hc];rfl,?_⟩,h.e,h.x⟩
   have:(wnFeed c b).st=c.st:=by unfold wnFeed;split <;> rfl
   rw[this];exact hs
  ·exact h
theorem Sok.ends {s:Ss} (h:Sok s):Sok (ssEnds s):=⟨.inr (.inr rfl),λe=>absurd (show (3:Nat)=2 from e) (by decide),rfl,h.x.end'⟩
theorem Sok.out {s:Ss} (h:Sok s):Sok (ssOut s).1:=⟨h.a,h.b,h.x.next.2.1.trans h.e,h.x.next.1⟩
theorem Sok.puts {s:Ss} (h:Sok s) (x:Rp) (hd cl:Bool):Sok (ssPuts s x hd cl):=by
 have h1:Sok { s with x:=(bxReply s.x (putB x hd cl)).1 }:=⟨h.a,h.b,(h.x.reply _).2.1.trans h.e,(h.x.reply _).1⟩
 unfold ssPuts
 split
 ·exact h1.ends
 ·exact h1
theorem Sok.fresh {s:Ss} (h:Sok s) (b:Bool):Sok { s with fresh:=b }:=⟨h.a,h.b,h.e,h.x⟩
theorem Sok.parser {s:Ss} (h:Sok s) (p:Ps):Sok { s with p:=p }:=⟨h.a,h.b,h.e,h.x⟩
theorem Sok.up {s:Ss} (h:Sok s) (h1:s.st=1):Sok (ssUp s):=by
 refine⟨.inr (.inl rfl),λ_=>⟨_,rfl,.inl (wnFeed_st _ _)⟩,?_,h.x⟩
 have:=h.e
 rw[h1] at this
 exact this
theorem ssPuts_st {s:Ss} (x:Rp) (hd:Bool):(ssPuts s x hd false).st=s.st:=rfl
theorem Sok.answers {H:Rq→Rp} {s:Ss} (h:Sok s) (h1:s.st=1) (r:Rq):Sok (ssAnswers H s r).1:=by
 unfold ssAnswers
 split
 ·split
  ·exact (h.puts _ _ _).up ((ssPuts_st _ _).trans h1)
  ·exact h.puts _ _ _
 ·exact h.puts _ _ _
theorem Sok.asks {H:Rq→Rp} {s:Ss} (h:Sok s) (h1:s.st=1):Sok (ssAsks H s).1:=by
 unfold ssAsks
 split
 ·rename_i p r _
  exact Sok.answers (s:={ s with p:=p }) (h.parser p) h1 r
 ·rename_i p _
  split
  ·exact h.parser p
  ·exact Sok.puts (s:={ s with p:=p }) (h.parser p) ⟨p.bad,[],reasonL p.bad⟩ false true
theorem ends_ok {s:Ss} (h:Bok s.x):Sok (ssEnds s):=⟨.inr (.inr rfl),λe=>absurd (show (3:Nat)=2 from e) (by decide),rfl,h.end'⟩
theorem gone_ok {s:Ss} (h:Bok s.x) (was code:Nat):Sok (ssGone s was code):=by
 unfold ssGone
 split
 ·exact ends_ok (h.close _).1
 ·exact ends_ok h
theorem Sok.says {s:Ss} (h:Sok s) (h2:s.st=2):Sok (ssSays s).1:=by
 obtain⟨c,hc,hs⟩:=h.b h2
 have hw:ssWn s=c:=by unfold ssWn;rw[hc];rfl
 have hv:=wnNext_ev c
 unfold ssSays
 rw[hw]
 cases e:wnNext c with
 | mk c1 o =>
  rw[e] at hv
  cases o with
  | none =>
   have hv:c1.st=c.st:=hv
   exact⟨h.a,λ_=>⟨c1,rfl,by rw[hv];exact hs⟩,h.e,h.x⟩
  | some x =>
   cases x with
   | message op t =>
    have hv:c1.st=c.st:=hv
    exact⟨h.a,λ_=>⟨c1,rfl,by rw[hv];exact hs⟩,h.e,h.x⟩
   | ping t =>
    have hv:c1.st=c.st:=hv
    exact⟨h.a,λ_=>⟨c1,rfl,by rw[hv];exact hs⟩,(h.x.pong t).2.1.trans h.e,(h.x.pong t).1⟩
   | closing code=>exact gone_ok (s:={ s with c:=some c1 }) h.x c.st code
   | failing code=>exact gone_ok (s:={ s with c:=some c1 }) h.x c.st code
theorem Sok.next {H:Rq→Rp} {s:Ss} (h:Sok s):Sok (ssNext H s).1:=by
 unfold ssNext
 cases ht:ssTakes s with
 | false=>exact h
 | true =>
  rw[if_neg (by decide)]
  dsimp only
  have h3:s.st≠3:=by
   intro e
   unfold ssTakes at ht
   rw[e] at ht
   cases ht
  by_cases h1:s.st=1
  ·rw[if_pos h1]
   split
   ·exact (h.asks h1).fresh _
   ·exact h.asks h1
  ·rw[if_neg h1]
   have h2:s.st=2:=by rcases h.a with e | e | e <;> omega
   split
   ·exact (h.says h2).fresh _
   ·exact h.says h2
open Go.RowKit Go.Shelf
attribute [local go_sem] Oper.semAt_some
section
variable {b:Nat} {hv:Value} {T:Nat→Prop} {W:World} {s:Ss}
end
