/-
  Plain laws of sessions: what waits to be written, frames of the server's, a session; no program in sight.
-/
import Derived.Test.YtadobobfjnmdlaaGreatDoorEa
import Derived.Test.YtadobobfjnmdlaaGreatDoorChecked
import Derived.Laws.BitsAllLaws
set_option linter.unnecessarySimpa false
set_option linter.unusedVariables false
set_option linter.unusedSimpArgs false
set_option maxHeartbeats 16000000
set_option maxRecDepth 100000
open Go.Lib (hid)
open Go.Proofs.Tryz
namespace Go.Proofs.YtadobobfjnmdlaaGreatDoor
def numF (n:Nat):List UInt8 :=
 if n≤125 then [UInt8.ofNat n]
 else if n≤65535 then [126,UInt8.ofNat (n / 256),UInt8.ofNat n]
 else [127,UInt8.ofNat (n / 72057594037927936),UInt8.ofNat (n / 281474976710656),UInt8.ofNat (n / 1099511627776),UInt8.ofNat (n / 4294967296),UInt8.ofNat (n / 16777216),UInt8.ofNat (n / 65536),UInt8.ofNat (n / 256),UInt8.ofNat n]
def outF (op:Int) (s:List UInt8):List UInt8:=if op<0∨15<op then [] else UInt8.ofNat (128+op.toNat) :: (numF s.length++s)
def closW (code:Nat):List UInt8:=if code=1005 then [] else if mayC code then [UInt8.ofNat (code / 256),UInt8.ofNat code] else []
structure It where
 kind:Nat
 op:Int
 text:List UInt8
def it0:It:=⟨0,0,[]⟩
structure Bx where
 q:Nat
 reps:List (List UInt8)
 pong:Option (List UInt8)
 msgs:List It
 close:Option (List UInt8)
 closed:Bool
 ends:Bool
 told:Bool
def bx0 (q:Nat):Bx:=⟨q,[],none,[],none,false,false,false⟩
def bxShut (b:Bx):Bool:=b.closed||b.ends
def bxReply (b:Bx) (s:List UInt8):Bx×Int:=if bxShut b then (b,11) else if 4≤b.reps.length then (b,6) else ({ b with reps:=b.reps++[s] },0)
def bxPong (b:Bx) (s:List UInt8):Bx×Int:=if bxShut b then (b,11) else ({ b with pong:=some s },0)
def bxClose (b:Bx) (s:List UInt8):Bx×Int:=if bxShut b then (b,11) else ({ b with close:=some s,closed:=true },0)
def bxEnd (b:Bx):Bx:={ b with ends:=true }
def bxNext (b:Bx):Bx×Option It:=match b.reps with
 | s :: l=>({ b with reps:=l },some ⟨1,0,s⟩)
 | []=>match b.pong with
  | some s=>({ b with pong:=none },some ⟨2,0,s⟩)
  | none=>match b.msgs with
   | x :: l=>({ b with msgs:=l },some x)
   | []=>match b.close with
    | some s=>({ b with close:=none },some ⟨4,0,s⟩)
    | none=>if b.ends&&!b.told then ({ b with told:=true },some ⟨5,0,[]⟩) else (b,none)
def bxWaits (b:Bx):Bool:=!b.reps.isEmpty||(b.pong.isSome||(!b.msgs.isEmpty||(b.close.isSome||(b.ends&&!b.told))))
inductive Sev where
 | upgraded
 | said (op:Nat) (s:List UInt8)
 | done
structure Ss where
 limit:Nat
 st:Nat
 p:Ps
 c:Option Wn
 x:Bx
 fresh:Bool
def ss0 (q limit:Nat):Ss:=⟨limit,1,ps0,none,bx0 q,false⟩
def noRp:Rp:=⟨500,[],[110,111,32,114,101,112,108,121]⟩
def ssFeed (s:Ss) (b:List UInt8):Ss :=
 if s.st=1 then { s with p:=feedQ s.p b,fresh:=s.fresh||!b.isEmpty }
 else if s.st=2 then { s with c:=s.c.map (wnFeed · b),fresh:=s.fresh||!b.isEmpty }
 else s
def ssTakes (s:Ss):Bool:=s.st != 3&&decide (s.x.reps.length<4)
def ssEnds (s:Ss):Ss:={ s with x:=bxEnd s.x,st:=3,fresh:=false }
def putB (x:Rp) (head close:Bool):List UInt8:=match bytesR x head close with
 | some b=>b
 | none=>(bytesR noRp head close).getD []
def ssPuts (s:Ss) (x:Rp) (head close:Bool):Ss :=
 if close then ssEnds { s with x:=(bxReply s.x (putB x head close)).1 } else { s with x:=(bxReply s.x (putB x head close)).1 }
def ssUp (s:Ss):Ss:={ s with p:=(restQ s.p).1,c:=some (wnFeed (wn0 s.limit) (restQ s.p).2),st:=2 }
def qHEAD:List UInt8:=[72,69,65,68]
def ssAnswers (H:Rq→Rp) (s:Ss) (r:Rq):Ss×Sev :=
 if (H r).code=101 then
  (if (answerB (checkB r)).2 then (ssUp (ssPuts s (answerB (checkB r)).1 false false),.upgraded) else (ssPuts s (answerB (checkB r)).1 (r.m==qHEAD) r.c,.done))
 else (ssPuts s (H r) (r.m==qHEAD) r.c,.done)
def ssAsks (H:Rq→Rp) (s:Ss):Ss×Option Sev:=match nextQ s.p with
 |(p,some r)=>((ssAnswers H { s with p:=p } r).1,some (ssAnswers H { s with p:=p } r).2)
 |(p,none)=>if p.bad=0 then ({ s with p:=p },none) else (ssPuts { s with p:=p } ⟨p.bad,[],reasonL p.bad⟩ false true,some .done)
def ssCloses (s:Ss) (code:Nat):Ss:={ s with x:=(bxClose s.x (closW code)).1 }
def ssWn (s:Ss):Wn:=s.c.getD (wn0 0)
def ssGone (s:Ss) (was code:Nat):Ss:=ssEnds (if was=1 then ssCloses s code else s)
def ssSays (s:Ss):Ss×Option Sev:=match wnNext (ssWn s) with
 |(c,none)=>({ s with c:=some c },none)
 |(c,some (.message op t))=>({ s with c:=some c },some (.said op t))
 |(c,some (.ping t))=>({ s with c:=some c,x:=(bxPong s.x t).1 },some .done)
 |(c,some (.closing code))=>(ssGone { s with c:=some c } (ssWn s).st code,some .done)
 |(c,some (.failing code))=>(ssGone { s with c:=some c } (ssWn s).st code,some .done)
def ssNext (H:Rq→Rp) (s:Ss):Ss×Option Sev :=
 if !ssTakes s then (s,none)
 else
  let y:=if s.st=1 then ssAsks H s else ssSays s
  (if y.2.isNone||y.1.st==3 then { y.1 with fresh:=false } else y.1,y.2)
def ssHears (s:Ss):Bool:=s.st==2&&(ssWn s).st==1
def outB' (x:It):List UInt8×Bool :=
 if x.kind=1 then (x.text,false) else if x.kind=5 then ([],true)
 else (outF (if x.kind=2 then 10 else if x.kind=3 then x.op else 8) x.text,false)
def ssOut (s:Ss):Ss×Option (List UInt8×Bool):=({ s with x:=(bxNext s.x).1 },(bxNext s.x).2.map outB')
open Go.RowKit
attribute [local go_sem] Oper.semAt_some
theorem cmay_0 (c:Nat) (h0:0≤c) (h1:c≤999) (W:World) :
  Calls prog 103 #[.int .i64 c] W λe w'=>e=.returned (.bool (mayC c))∧W=w':=by
 have hv:=hid (show mayC c=false by unfold mayC;simp;omega)
 have a0:(c:Int)<1000:=by omega
 have a1:(c:Int)≤1003:=by omega
 have a2:(c:Int)<1007:=by omega
 have a3:(c:Int)≤1014:=by omega
 have a4:(c:Int)<3000:=by omega
 have a5:(c:Int)≤4999:=by omega
 go_enter func103,ntmps103
 go_wp2
 go_ret
 exact⟨by rw[hv.out];rfl,rfl⟩
theorem cmay_1 (c:Nat) (h0:1000≤c) (h1:c≤1003) (W:World) :
  Calls prog 103 #[.int .i64 c] W λe w'=>e=.returned (.bool (mayC c))∧W=w':=by
 have hv:=hid (show mayC c=true by unfold mayC;simp;omega)
 have a0:(1000:Int)≤c:=by omega
 have a1:(c:Int)≤1003:=by omega
 have a2:(c:Int)<1007:=by omega
 have a3:(c:Int)≤1014:=by omega
 have a4:(c:Int)<3000:=by omega
 have a5:(c:Int)≤4999:=by omega
 go_enter func103,ntmps103
 go_wp2
 go_ret
 exact⟨by rw[hv.out];rfl,rfl⟩
theorem cmay_2 (c:Nat) (h0:1004≤c) (h1:c≤1006) (W:World) :
  Calls prog 103 #[.int .i64 c] W λe w'=>e=.returned (.bool (mayC c))∧W=w':=by
 have hv:=hid (show mayC c=false by unfold mayC;simp;omega)
 have a0:(1000:Int)≤c:=by omega
 have a1:(1003:Int)<c:=by omega
 have a2:(c:Int)<1007:=by omega
 have a3:(c:Int)≤1014:=by omega
 have a4:(c:Int)<3000:=by omega
 have a5:(c:Int)≤4999:=by omega
 go_enter func103,ntmps103
 go_wp2
 go_ret
 exact⟨by rw[hv.out];rfl,rfl⟩
theorem cmay_3 (c:Nat) (h0:1007≤c) (h1:c≤1014) (W:World) :
  Calls prog 103 #[.int .i64 c] W λe w'=>e=.returned (.bool (mayC c))∧W=w':=by
 have hv:=hid (show mayC c=true by unfold mayC;simp;omega)
 have a0:(1000:Int)≤c:=by omega
 have a1:(1003:Int)<c:=by omega
 have a2:(1007:Int)≤c:=by omega
 have a3:(c:Int)≤1014:=by omega
 have a4:(c:Int)<3000:=by omega
 have a5:(c:Int)≤4999:=by omega
 go_enter func103,ntmps103
 go_wp2
 go_ret
 exact⟨by rw[hv.out];rfl,rfl⟩
theorem cmay_4 (c:Nat) (h0:1015≤c) (h1:c≤2999) (W:World) :
  Calls prog 103 #[.int .i64 c] W λe w'=>e=.returned (.bool (mayC c))∧W=w':=by
 have hv:=hid (show mayC c=false by unfold mayC;simp;omega)
 have a0:(1000:Int)≤c:=by omega
 have a1:(1003:Int)<c:=by omega
 have a2:(1007:Int)≤c:=by omega
 have a3:(1014:Int)<c:=by omega
 have a4:(c:Int)<3000:=by omega
 have a5:(c:Int)≤4999:=by omega
 go_enter func103,ntmps103
 go_wp2
 go_ret
 exact⟨by rw[hv.out];rfl,rfl⟩
theorem cmay_5 (c:Nat) (h0:3000≤c) (h1:c≤4999) (W:World) :
  Calls prog 103 #[.int .i64 c] W λe w'=>e=.returned (.bool (mayC c))∧W=w':=by
 have hv:=hid (show mayC c=true by unfold mayC;simp;omega)
 have a0:(1000:Int)≤c:=by omega
 have a1:(1003:Int)<c:=by omega
 have a2:(1007:Int)≤c:=by omega
 have a3:(1014:Int)<c:=by omega
 have a4:(3000:Int)≤c:=by omega
 have a5:(c:Int)≤4999:=by omega
 go_enter func103,ntmps103
 go_wp2
 go_ret
 exact⟨by rw[hv.out];rfl,rfl⟩
theorem cmay_6 (c:Nat) (h0:5000≤c) (W:World) :
  Calls prog 103 #[.int .i64 c] W λe w'=>e=.returned (.bool (mayC c))∧W=w':=by
 have hv:=hid (show mayC c=false by unfold mayC;simp;omega)
 have a0:(1000:Int)≤c:=by omega
 have a1:(1003:Int)<c:=by omega
 have a2:(1007:Int)≤c:=by omega
 have a3:(1014:Int)<c:=by omega
 have a4:(3000:Int)≤c:=by omega
 have a5:(4999:Int)<c:=by omega
 go_enter func103,ntmps103
 go_wp2
 go_ret
 exact⟨by rw[hv.out];rfl,rfl⟩
theorem cmay_any (c:Nat) (W:World) :
  Calls prog 103 #[.int .i64 c] W λe w'=>e=.returned (.bool (mayC c))∧W=w':=by
 by_cases b1:c≤999
 ·exact cmay_0 c (by omega) b1 W
 by_cases b2:c≤1003
 ·exact cmay_1 c (by omega) b2 W
 by_cases b3:c≤1006
 ·exact cmay_2 c (by omega) b3 W
 by_cases b4:c≤1014
 ·exact cmay_3 c (by omega) b4 W
 by_cases b5:c≤2999
 ·exact cmay_4 c (by omega) b5 W
 by_cases b6:c≤4999
 ·exact cmay_5 c (by omega) b6 W
 exact cmay_6 c (by omega) W
theorem fmore_0 (n:Nat) (h:n=126) (W:World) :
  Calls prog 255 #[.int .i64 n] W λe w'=>e=.returned (.int .i64 (moreH n))∧W=w':=by
 subst h
 have hv:=hid (show moreH 126=2 from rfl)
 go_enter func255,ntmps255
 go_wp2
 go_ret
 exact⟨by rw[hv.out];rfl,rfl⟩
theorem fmore_1 (n:Nat) (h:n=127) (W:World) :
  Calls prog 255 #[.int .i64 n] W λe w'=>e=.returned (.int .i64 (moreH n))∧W=w':=by
 subst h
 have hv:=hid (show moreH 127=8 from rfl)
 go_enter func255,ntmps255
 go_wp2
 go_ret
 exact⟨by rw[hv.out];rfl,rfl⟩
theorem fmore_2 (n:Nat) (h:n≠126∧n≠127) (W:World) :
  Calls prog 255 #[.int .i64 n] W λe w'=>e=.returned (.int .i64 (moreH n))∧W=w':=by
 have q1:((n:Int)==126)=false:=beq_eq_false_iff_ne.2 (by omega)
 have q2:((n:Int)==127)=false:=beq_eq_false_iff_ne.2 (by omega)
 have hv:=hid (show moreH n=0 by unfold moreH;rw[if_neg h.1,if_neg h.2])
 go_enter func255,ntmps255
 go_wp2
 go_ret
 exact⟨by rw[hv.out];rfl,rfl⟩
theorem fmore_any (n:Nat) (W:World) :
  Calls prog 255 #[.int .i64 n] W λe w'=>e=.returned (.int .i64 (moreH n))∧W=w':=by
 by_cases h1:n=126
 ·exact fmore_0 n h1 W
 ·by_cases h2:n=127
  ·exact fmore_1 n h2 W
  ·exact fmore_2 n ⟨h1,h2⟩ W
theorem fleast_0 (n:Nat) (h:n≤125) (W:World) :
  Calls prog 77 #[.int .u64 n] W λe w'=>e=.returned (.int .i64 (leastH n))∧W=w':=by
 have hv:=hid (show leastH n=0 by unfold leastH;rw[if_pos h])
 have a0:(n:Int)≤125:=by omega
 go_enter func77,ntmps77
 go_wp2
 go_ret
 exact⟨by rw[hv.out];rfl,rfl⟩
theorem fleast_1 (n:Nat) (h:125<n∧n≤65535) (W:World) :
  Calls prog 77 #[.int .u64 n] W λe w'=>e=.returned (.int .i64 (leastH n))∧W=w':=by
 have hv:=hid (show leastH n=2 by unfold leastH;rw[if_neg (by omega),if_pos h.2])
 have a0:¬(n:Int)≤125:=by omega
 have a1:(n:Int)≤65535:=by omega
 go_enter func77,ntmps77
 go_wp2
 go_ret
 exact⟨by rw[hv.out];rfl,rfl⟩
theorem fleast_2 (n:Nat) (h:65535<n) (W:World) :
  Calls prog 77 #[.int .u64 n] W λe w'=>e=.returned (.int .i64 (leastH n))∧W=w':=by
 have hv:=hid (show leastH n=8 by unfold leastH;rw[if_neg (by omega),if_neg (by omega)])
 have a0:¬(n:Int)≤125:=by omega
 have a1:¬(n:Int)≤65535:=by omega
 go_enter func77,ntmps77
 go_wp2
 go_ret
 exact⟨by rw[hv.out];rfl,rfl⟩
theorem fleast_any (n:Nat) (W:World) :
  Calls prog 77 #[.int .u64 n] W λe w'=>e=.returned (.int .i64 (leastH n))∧W=w':=by
 by_cases h1:n≤125
 ·exact fleast_0 n h1 W
 ·by_cases h2:n≤65535
  ·exact fleast_1 n ⟨by omega,h2⟩ W
  ·exact fleast_2 n (by omega) W
theorem fop_0 (W:World) :
  Calls prog 257 #[.int .i64 0] W λe w'=>e=.returned (.bool true)∧W=w':=by
 go_enter func257,ntmps257
 go_wp2
 go_ret
 exact⟨rfl,rfl⟩
theorem fop_1 (W:World) :
  Calls prog 257 #[.int .i64 1] W λe w'=>e=.returned (.bool true)∧W=w':=by
 go_enter func257,ntmps257
 go_wp2
 go_ret
 exact⟨rfl,rfl⟩
theorem fop_2 (W:World) :
  Calls prog 257 #[.int .i64 2] W λe w'=>e=.returned (.bool true)∧W=w':=by
 go_enter func257,ntmps257
 go_wp2
 go_ret
 exact⟨rfl,rfl⟩
theorem fop_8 (W:World) :
  Calls prog 257 #[.int .i64 8] W λe w'=>e=.returned (.bool true)∧W=w':=by
 go_enter func257,ntmps257
 go_wp2
 go_ret
 exact⟨rfl,rfl⟩
theorem fop_9 (W:World) :
  Calls prog 257 #[.int .i64 9] W λe w'=>e=.returned (.bool true)∧W=w':=by
 go_enter func257,ntmps257
 go_wp2
 go_ret
 exact⟨rfl,rfl⟩
theorem fop_10 (W:World) :
  Calls prog 257 #[.int .i64 10] W λe w'=>e=.returned (.bool true)∧W=w':=by
 go_enter func257,ntmps257
 go_wp2
 go_ret
 exact⟨rfl,rfl⟩
theorem fop_no (n:Nat) (h:n≠0∧n≠1∧n≠2∧n≠8∧n≠9∧n≠10) (W:World) :
  Calls prog 257 #[.int .i64 n] W λe w'=>e=.returned (.bool false)∧W=w':=by
 have q0:((n:Int)==0)=false:=beq_eq_false_iff_ne.2 (by omega)
 have q1:((n:Int)==1)=false:=beq_eq_false_iff_ne.2 (by omega)
 have q2:((n:Int)==2)=false:=beq_eq_false_iff_ne.2 (by omega)
 have q8:((n:Int)==8)=false:=beq_eq_false_iff_ne.2 (by omega)
 have q9:((n:Int)==9)=false:=beq_eq_false_iff_ne.2 (by omega)
 have q10:((n:Int)==10)=false:=beq_eq_false_iff_ne.2 (by omega)
 go_enter func257,ntmps257
 go_wp2
 go_ret
 exact⟨rfl,rfl⟩
theorem fop_any (n:Nat) (W:World) :
  Calls prog 257 #[.int .i64 n] W λe w'=>e=.returned (.bool (opH n))∧W=w':=by
 by_cases h0:n=0
 ·subst h0;exact fop_0 W
 by_cases h1:n=1
 ·subst h1;exact fop_1 W
 by_cases h2:n=2
 ·subst h2;exact fop_2 W
 by_cases h8:n=8
 ·subst h8;exact fop_8 W
 by_cases h9:n=9
 ·subst h9;exact fop_9 W
 by_cases h10:n=10
 ·subst h10;exact fop_10 W
 have:opH n=false:=by unfold opH;simp[h0,h1,h2,h8,h9,h10]
 rw[this]
 exact fop_no n ⟨h0,h1,h2,h8,h9,h10⟩ W
end Go.Proofs.YtadobobfjnmdlaaGreatDoor
namespace Go.Proofs.YtadobobfjnmdlaaGreatDoor
open Go.RowKit
theorem or32 {a b:Nat} (ha:a<4294967296) (hb:b<4294967296):bits .or .u32 (a:Int) (b:Int)=((a ||| b:Nat):Int):=Go.u32_or_nat a b ha hb
theorem rot_val {x n:Nat} (hx:x<4294967296):bits .or .u32 ((x:Int)*(2 ^ n:Nat) % 4294967296) ((x:Int) / (2 ^ (32 - n):Nat))=(rotW n x:Int):=by
 have:=or32 (a:=x*2 ^ n % 4294967296) (b:=x / 2 ^ (32 - n)) (Nat.mod_lt _ (by decide)) (Nat.lt_of_le_of_lt (Nat.div_le_self _ _) hx)
 rw[Int.natCast_emod,Int.natCast_mul,Int.natCast_ediv] at this
 exact this
theorem rot1_any (x:Nat) (hx:x<4294967296) (w:World):Calls prog 269 #[.int .u32 x,.int .i64 1] w λe w'=>e=.returned (.int .u32 (rotW 1 x))∧w=w':=by
 have e5:bits .and .u64 1 31=1:=by decide
 have e27:IntKind.u64.wrap (32 - 1)=31:=by decide
 have hxI:(x:Int)<4294967296:=by omega
 have hv:bits .or .u32 ((x:Int)*2 % 4294967296) ((x:Int) / 2147483648)=(rotW 1 x:Int):=rot_val (n:=1) hx
 go_enter func269,ntmps269
 go_wp2
 go_ret
 exact⟨rfl,rfl⟩
theorem rot5_any (x:Nat) (hx:x<4294967296) (w:World):Calls prog 269 #[.int .u32 x,.int .i64 5] w λe w'=>e=.returned (.int .u32 (rotW 5 x))∧w=w':=by
 have e5:bits .and .u64 5 31=5:=by decide
 have e27:IntKind.u64.wrap (32 - 5)=27:=by decide
 have hxI:(x:Int)<4294967296:=by omega
 have hv:bits .or .u32 ((x:Int)*32 % 4294967296) ((x:Int) / 134217728)=(rotW 5 x:Int):=rot_val (n:=5) hx
 go_enter func269,ntmps269
 go_wp2
 go_ret
 exact⟨rfl,rfl⟩
theorem rot30_any (x:Nat) (hx:x<4294967296) (w:World):Calls prog 269 #[.int .u32 x,.int .i64 30] w λe w'=>e=.returned (.int .u32 (rotW 30 x))∧w=w':=by
 have e5:bits .and .u64 30 31=30:=by decide
 have e27:IntKind.u64.wrap (32 - 30)=2:=by decide
 have hxI:(x:Int)<4294967296:=by omega
 have hv:bits .or .u32 ((x:Int)*1073741824 % 4294967296) ((x:Int) / 4)=(rotW 30 x:Int):=rot_val (n:=30) hx
 go_enter func269,ntmps269
 go_wp2
 go_ret
 exact⟨rfl,rfl⟩
theorem and32 {a b:Nat} (ha:a<4294967296) (hb:b<4294967296):bits .and .u32 (a:Int) (b:Int)=((a&&&b:Nat):Int):=Go.u32_and_nat a b ha hb
theorem xor32 {a b:Nat} (ha:a<4294967296) (hb:b<4294967296):bits .xor .u32 (a:Int) (b:Int)=((a^^^b:Nat):Int):=Go.u32_xor_nat a b ha hb
theorem mixed_any (t b c d:Nat) (ht:t<80) (hb:b<4294967296) (hc:c<4294967296) (hd:d<4294967296) (w:World) :
  Calls prog 268 #[.int .i64 t,.int .u32 b,.int .u32 c,.int .u32 d] w λe w'=>e=.returned (.tuple #[.int .u32 (mixF t b c d),.int .u32 (mixK t)])∧w=w':=by
 obtain⟨F,hF⟩:∃ F,mixF t b c d=F:=⟨_,rfl⟩
 obtain⟨K,hK⟩:∃ K,mixK t=K:=⟨_,rfl⟩
 rw[hF,hK]
 unfold mixF at hF
 unfold mixK at hK
 have ht80:=hid ht
 clear ht
 by_cases h20:t<20
 ·have h1:(t:Int)<20:=by omega
  rw[if_pos h20] at hF hK
  subst hF hK
  clear h20
  have x1:bits .and .u32 (b:Int) (c:Int)=((b&&&c:Nat):Int):=and32 hb hc
  have x2:bits .xor .u32 IntKind.u32.max (b:Int)=((4294967295^^^b:Nat):Int):=xor32 (a:=4294967295) (by decide) hb
  have x3:bits .and .u32 ((4294967295^^^b:Nat):Int) (d:Int)=(((4294967295^^^b)&&&d:Nat):Int):=and32 (xor_lt32 (by decide) hb) hd
  have x4:bits .xor .u32 ((b&&&c:Nat):Int) (((4294967295^^^b)&&&d:Nat):Int)=(((b&&&c)^^^((4294967295^^^b)&&&d):Nat):Int):=xor32 (and_lt32 hb) (and_lt32 (xor_lt32 (by decide) hb))
  clear hb hc hd
  go_enter func268,ntmps268
  go_wp2
  go_ret2
  exact⟨rfl,rfl⟩
 ·rw[if_neg h20] at hF hK
  by_cases h40:t<40
  ·have h1:¬(t:Int)<20:=by omega
   have h2:(t:Int)<40:=by omega
   rw[if_pos h40] at hF hK
   subst hF hK
   clear h20 h40
   have x1:bits .xor .u32 (b:Int) (c:Int)=((b^^^c:Nat):Int):=xor32 hb hc
   have x2:bits .xor .u32 ((b^^^c:Nat):Int) (d:Int)=((b^^^c^^^d:Nat):Int):=xor32 (xor_lt32 hb hc) hd
   clear hb hc hd
   go_enter func268,ntmps268
   go_wp2
   go_ret2
   exact⟨rfl,rfl⟩
  ·rw[if_neg h40] at hF hK
   by_cases h60:t<60
   ·have h1:¬(t:Int)<20:=by omega
    have h2:¬(t:Int)<40:=by omega
    have h3:(t:Int)<60:=by omega
    rw[if_pos h60] at hF hK
    subst hF hK
    clear h20 h40 h60
    have x1:bits .and .u32 (b:Int) (c:Int)=((b&&&c:Nat):Int):=and32 hb hc
    have x2:bits .and .u32 (b:Int) (d:Int)=((b&&&d:Nat):Int):=and32 hb hd
    have x3:bits .and .u32 (c:Int) (d:Int)=((c&&&d:Nat):Int):=and32 hc hd
    have x4:bits .xor .u32 ((b&&&c:Nat):Int) ((b&&&d:Nat):Int)=(((b&&&c)^^^(b&&&d):Nat):Int):=xor32 (and_lt32 hb) (and_lt32 hb)
    have x5:bits .xor .u32 (((b&&&c)^^^(b&&&d):Nat):Int) ((c&&&d:Nat):Int)=(((b&&&c)^^^(b&&&d)^^^(c&&&d):Nat):Int):=xor32 (xor_lt32 (and_lt32 hb) (and_lt32 hb)) (and_lt32 hc)
    clear hb hc hd
    go_enter func268,ntmps268
    go_wp2
    go_ret2
    exact⟨rfl,rfl⟩
   ·have h1:¬(t:Int)<20:=by omega
    have h2:¬(t:Int)<40:=by omega
    have h3:¬(t:Int)<60:=by omega
    rw[if_neg h60] at hF hK
    subst hF hK
    clear h20 h40 h60
    have x1:bits .xor .u32 (b:Int) (c:Int)=((b^^^c:Nat):Int):=xor32 hb hc
    have x2:bits .xor .u32 ((b^^^c:Nat):Int) (d:Int)=((b^^^c^^^d:Nat):Int):=xor32 (xor_lt32 hb hc) hd
    clear hb hc hd
    go_enter func268,ntmps268
    go_wp2
    go_ret2
    exact⟨rfl,rfl⟩
attribute [local go_sem] Oper.semAt_some
def bigP (s:List UInt8) (k:Nat):Nat:=(s.take k).foldl (λx c=>x*256+c.toNat) 0
theorem bigP_succ {s:List UInt8} {k:Nat} (h:k<s.length):bigP s (k+1)=bigP s k*256+s[k].toNat:=by
 unfold bigP
 rw[List.take_succ_eq_append_getElem h,List.foldl_append];rfl
theorem bigP_lt (s:List UInt8):∀ k,k≤s.length→bigP s k<256 ^ k
 | 0,_=>by unfold bigP;simp
 | k+1,h=>by
  have h1:=bigP_lt s k (by omega)
  have h2:=(s[k]'(by omega)).toNat_lt
  rw[bigP_succ (by omega),Nat.pow_succ]
  omega
theorem bigH_fold:∀ (s:List UInt8) (x:Nat) (n:Nat),x<256 ^ n→n+s.length≤8→s.foldl (λx c=>(x*256+c.toNat) % 18446744073709551616) x=s.foldl (λx c=>x*256+c.toNat) x
 | [],_,_,_,_=>rfl
 | c :: t,x,n,hx,hn=>by
  rw[List.length_cons] at hn
  have hc:=c.toNat_lt
  have h8:256 ^ (n+1)≤256 ^ 8:=Nat.pow_le_pow_right (by decide) (by omega)
  have hxc:x*256+c.toNat<256 ^ (n+1):=by rw[Nat.pow_succ];omega
  rw[List.foldl_cons,List.foldl_cons,Nat.mod_eq_of_lt (Nat.lt_of_lt_of_le hxc h8)]
  exact bigH_fold t _ (n+1) hxc (by omega)
theorem bigH_small {s:List UInt8} (h:s.length≤8):bigH s=bigP s s.length:=by
 unfold bigH bigP
 rw[List.take_length,bigH_fold s 0 0 (by decide) (by omega)]
theorem fbig_any (s:List UInt8) (hs:s.length≤8) (w:World):Calls prog 256 #[.string ⟨s.toArray⟩] w λe w'=>e=.returned (.int .u64 (bigH s))∧w=w':=by
 have hbh:=hid (bigH_small hs)
 go_enter func256,ntmps256
 go_wp2
 go_loop [2,6] (λx i=>∃ k:Nat,k≤s.length∧i=.int .i64 k∧x=.int .u64 (bigP s k)) (λ_ i=>s.length - (intOf i).toNat)
 case atStart=>exact⟨0,by omega,rfl,rfl⟩
 case round =>
  obtain⟨k,hk,rfl,rfl⟩:=hrel
  obtain⟨m,hm⟩:∃ m,bigP s k=m:=⟨_,rfl⟩
  have hm':=hid hm
  rw[hm]
  by_cases hk4:k<s.length
  ·have hkI:(k:Int)<s.length:=by omega
   obtain⟨c,hc⟩:∃ c,(⟨s.toArray⟩:ByteArray)[k]'(by rw[size_mk];omega)=c:=⟨_,rfl⟩
   have hb':=hid (show s[k]=c from hc)
   have hml:m<256 ^ 7:=Nat.lt_of_lt_of_le (hm▸bigP_lt s k hk) (Nat.pow_le_pow_right (by decide) (by omega))
   have hmI:(m:Int)≤72057594037927935:=by omega
   have hor:bits .or .u64 ((m:Int)*256) (c.toNat:Int)=((m*256+c.toNat:Nat):Int):=by
    have h1:=Go.u64_or_nat (m*256) c.toNat (by omega) (by have:=c.toNat_lt;omega)
    rw[Go.nat_join 8 (m*256) c.toNat (by omega) (by have:=c.toNat_lt;omega)] at h1
    rw[←h1];rfl
   have hcw:IntKind.u64.wrap (c.toNat:Int)=c.toNat:=by rw[Go.IntKind.wrap_u64];have:=c.toNat_lt;omega
   clear hm hml
   go_wp2
   go_round
   case rel=>exact⟨k+1,by omega,by go_num,by rw[bigP_succ hk4,hm'.out,hb'.out];go_num⟩
   case measure=>simp[intOf];omega
  ·have hkI:¬(k:Int)<s.length:=by omega
   have h4:k=s.length:=by omega
   go_wp2
   go_ret
   exact⟨by rw[hbh.out,←hm'.out,h4];rfl,rfl⟩
theorem and8:∀ n:Nat,n<256→(bits .and .u8 (n:Int) 31=((UInt8.ofNat n&&&31).toNat:Int))∧(bits .and .u8 (n:Int) 15=((UInt8.ofNat n&&&15).toNat:Int))∧(bits .and .u8 (n:Int) 7=((UInt8.ofNat n&&&7).toNat:Int))∧(bits .and .u8 (n:Int) 63=((UInt8.ofNat n&&&63).toNat:Int)):=by
 decide +kernel
theorem and8_of (b:UInt8):(bits .and .u8 (b.toNat:Int) 31=((b&&&31).toNat:Int))∧(bits .and .u8 (b.toNat:Int) 15=((b&&&15).toNat:Int))∧(bits .and .u8 (b.toNat:Int) 7=((b&&&7).toNat:Int))∧(bits .and .u8 (b.toNat:Int) 63=((b&&&63).toNat:Int)):=by
 have:=and8 b.toNat b.toNat_lt
 rwa [UInt8.ofNat_toNat] at this
def begV (x:Int×UInt8×UInt8×Nat):Value:=.tuple #[.int .i64 x.1,.int .u8 x.2.1.toNat,.int .u8 x.2.2.1.toNat,.int .i32 x.2.2.2]
theorem wrap32_small {n:Nat} (h:n<2147483648):wrap32 (n:Int)=n:=by unfold wrap32;omega
theorem beg_1 (b:UInt8) (h0:b.toNat<128):begU b=(0,0,0,b.toNat):=by
 have e:∀ k:UInt8,(b<k)=(b.toNat<k.toNat):=λk=>propext UInt8.lt_iff_toNat_lt
 have e':∀ k:UInt8,(k<b)=(k.toNat<b.toNat):=λk=>propext UInt8.lt_iff_toNat_lt
 have q:∀ k:UInt8,(b==k)=(b.toNat==k.toNat):=λk=>by rw[Bool.eq_iff_iff,beq_iff_eq,beq_iff_eq,UInt8.toNat_inj]
 unfold begU
 simp only[e,e',q,UInt8.reduceToNat]
 repeat' split
 all_goals (first | rfl | (exfalso;(try simp only[Bool.or_eq_true,decide_eq_true_eq,beq_iff_eq,not_or,Nat.not_lt,Bool.not_eq_true,beq_eq_false_iff_ne,ne_eq] at *);omega))
theorem ubegins_1 (b:UInt8) (h0:b.toNat<128) (W:World) :
  Calls prog 189 #[.int .u8 b.toNat] W λe w'=>e=.returned (begV (begU b))∧W=w':=by
 have hv:=hid (beg_1 b h0)
 go_enter func189,ntmps189
 go_wp2
 refine bodyPost_ret (v:=begV (begU b)) (by simp[results,results189,go_sem,begV,hv.out]) rfl ⟨rfl,rfl⟩
theorem beg_2 (b:UInt8) (h0:128≤b.toNat) (h1:b.toNat<194):begU b=(-1,0,0,0):=by
 have e:∀ k:UInt8,(b<k)=(b.toNat<k.toNat):=λk=>propext UInt8.lt_iff_toNat_lt
 have e':∀ k:UInt8,(k<b)=(k.toNat<b.toNat):=λk=>propext UInt8.lt_iff_toNat_lt
 have q:∀ k:UInt8,(b==k)=(b.toNat==k.toNat):=λk=>by rw[Bool.eq_iff_iff,beq_iff_eq,beq_iff_eq,UInt8.toNat_inj]
 unfold begU
 simp only[e,e',q,UInt8.reduceToNat]
 repeat' split
 all_goals (first | rfl | (exfalso;(try simp only[Bool.or_eq_true,decide_eq_true_eq,beq_iff_eq,not_or,Nat.not_lt,Bool.not_eq_true,beq_eq_false_iff_ne,ne_eq] at *);omega))
theorem ubegins_2 (b:UInt8) (h0:128≤b.toNat) (h1:b.toNat<194) (W:World) :
  Calls prog 189 #[.int .u8 b.toNat] W λe w'=>e=.returned (begV (begU b))∧W=w':=by
 have hv:=hid (beg_2 b h0 h1)
 go_enter func189,ntmps189
 go_wp2
 refine bodyPost_ret (v:=begV (begU b)) (by simp[results,results189,go_sem,begV,hv.out]) rfl ⟨rfl,rfl⟩
theorem beg_3 (b:UInt8) (h0:244<b.toNat):begU b=(-1,0,0,0):=by
 have e:∀ k:UInt8,(b<k)=(b.toNat<k.toNat):=λk=>propext UInt8.lt_iff_toNat_lt
 have e':∀ k:UInt8,(k<b)=(k.toNat<b.toNat):=λk=>propext UInt8.lt_iff_toNat_lt
 have q:∀ k:UInt8,(b==k)=(b.toNat==k.toNat):=λk=>by rw[Bool.eq_iff_iff,beq_iff_eq,beq_iff_eq,UInt8.toNat_inj]
 unfold begU
 simp only[e,e',q,UInt8.reduceToNat]
 repeat' split
 all_goals (first | rfl | (exfalso;(try simp only[Bool.or_eq_true,decide_eq_true_eq,beq_iff_eq,not_or,Nat.not_lt,Bool.not_eq_true,beq_eq_false_iff_ne,ne_eq] at *);omega))
theorem ubegins_3 (b:UInt8) (h0:244<b.toNat) (W:World) :
  Calls prog 189 #[.int .u8 b.toNat] W λe w'=>e=.returned (begV (begU b))∧W=w':=by
 have hv:=hid (beg_3 b h0)
 go_enter func189,ntmps189
 go_wp2
 refine bodyPost_ret (v:=begV (begU b)) (by simp[results,results189,go_sem,begV,hv.out]) rfl ⟨rfl,rfl⟩
theorem beg_4 (b:UInt8) (h0:194≤b.toNat) (h1:b.toNat<224):begU b=(1,128,191,(b&&&31).toNat):=by
 have e:∀ k:UInt8,(b<k)=(b.toNat<k.toNat):=λk=>propext UInt8.lt_iff_toNat_lt
 have e':∀ k:UInt8,(k<b)=(k.toNat<b.toNat):=λk=>propext UInt8.lt_iff_toNat_lt
 have q:∀ k:UInt8,(b==k)=(b.toNat==k.toNat):=λk=>by rw[Bool.eq_iff_iff,beq_iff_eq,beq_iff_eq,UInt8.toNat_inj]
 unfold begU
 simp only[e,e',q,UInt8.reduceToNat]
 repeat' split
 all_goals (first | rfl | (exfalso;(try simp only[Bool.or_eq_true,decide_eq_true_eq,beq_iff_eq,not_or,Nat.not_lt,Bool.not_eq_true,beq_eq_false_iff_ne,ne_eq] at *);omega))
theorem ubegins_4 (b:UInt8) (h0:194≤b.toNat) (h1:b.toNat<224) (W:World) :
  Calls prog 189 #[.int .u8 b.toNat] W λe w'=>e=.returned (begV (begU b))∧W=w':=by
 have hv:=hid (beg_4 b h0 h1)
 have a1:=(and8_of b).1
 go_enter func189,ntmps189
 go_wp2
 refine bodyPost_ret (v:=begV (begU b)) (by simp[results,results189,go_sem,begV,hv.out];have:=@Nat.and_le_right b.toNat 31;rw[wrap32_small (by omega)]) rfl ⟨rfl,rfl⟩
theorem beg_5 (b:UInt8) (h0:b.toNat=224):begU b=(2,160,191,0):=by
 have e:∀ k:UInt8,(b<k)=(b.toNat<k.toNat):=λk=>propext UInt8.lt_iff_toNat_lt
 have e':∀ k:UInt8,(k<b)=(k.toNat<b.toNat):=λk=>propext UInt8.lt_iff_toNat_lt
 have q:∀ k:UInt8,(b==k)=(b.toNat==k.toNat):=λk=>by rw[Bool.eq_iff_iff,beq_iff_eq,beq_iff_eq,UInt8.toNat_inj]
 unfold begU
 simp only[e,e',q,UInt8.reduceToNat]
 repeat' split
 all_goals (first | rfl | (exfalso;(try simp only[Bool.or_eq_true,decide_eq_true_eq,beq_iff_eq,not_or,Nat.not_lt,Bool.not_eq_true,beq_eq_false_iff_ne,ne_eq] at *);omega))
theorem ubegins_5 (b:UInt8) (h0:b.toNat=224) (W:World) :
  Calls prog 189 #[.int .u8 b.toNat] W λe w'=>e=.returned (begV (begU b))∧W=w':=by
 have hv:=hid (beg_5 b h0)
 have hq:=hid h0
 rw[h0]
 go_enter func189,ntmps189
 go_wp2
 refine bodyPost_ret (v:=begV (begU b)) (by simp[results,results189,go_sem,begV,hv.out]) rfl ⟨rfl,rfl⟩
theorem beg_6 (b:UInt8) (h0:b.toNat=237):begU b=(2,128,159,(b&&&15).toNat):=by
 have e:∀ k:UInt8,(b<k)=(b.toNat<k.toNat):=λk=>propext UInt8.lt_iff_toNat_lt
 have e':∀ k:UInt8,(k<b)=(k.toNat<b.toNat):=λk=>propext UInt8.lt_iff_toNat_lt
 have q:∀ k:UInt8,(b==k)=(b.toNat==k.toNat):=λk=>by rw[Bool.eq_iff_iff,beq_iff_eq,beq_iff_eq,UInt8.toNat_inj]
 unfold begU
 simp only[e,e',q,UInt8.reduceToNat]
 repeat' split
 all_goals (first | rfl | (exfalso;(try simp only[Bool.or_eq_true,decide_eq_true_eq,beq_iff_eq,not_or,Nat.not_lt,Bool.not_eq_true,beq_eq_false_iff_ne,ne_eq] at *);omega))
theorem ubegins_6 (b:UInt8) (h0:b.toNat=237) (W:World) :
  Calls prog 189 #[.int .u8 b.toNat] W λe w'=>e=.returned (begV (begU b))∧W=w':=by
 have hv:=hid (beg_6 b h0)
 have hq:=hid h0
 have a1:bits .and .u8 237 15=((b&&&15).toNat:Int):=by have:=(and8_of b).2.1;rw[h0] at this;exact this
 rw[h0]
 go_enter func189,ntmps189
 go_wp2
 refine bodyPost_ret (v:=begV (begU b)) (by simp[results,results189,go_sem,begV,hv.out];rw[hq.out];rfl) rfl ⟨rfl,rfl⟩
theorem beg_7 (b:UInt8) (h0:224<b.toNat) (h1:b.toNat<240) (h2:b.toNat≠237):begU b=(2,128,191,(b&&&15).toNat):=by
 have e:∀ k:UInt8,(b<k)=(b.toNat<k.toNat):=λk=>propext UInt8.lt_iff_toNat_lt
 have e':∀ k:UInt8,(k<b)=(k.toNat<b.toNat):=λk=>propext UInt8.lt_iff_toNat_lt
 have q:∀ k:UInt8,(b==k)=(b.toNat==k.toNat):=λk=>by rw[Bool.eq_iff_iff,beq_iff_eq,beq_iff_eq,UInt8.toNat_inj]
 unfold begU
 simp only[e,e',q,UInt8.reduceToNat]
 repeat' split
 all_goals (first | rfl | (exfalso;(try simp only[Bool.or_eq_true,decide_eq_true_eq,beq_iff_eq,not_or,Nat.not_lt,Bool.not_eq_true,beq_eq_false_iff_ne,ne_eq] at *);omega))
theorem ubegins_7 (b:UInt8) (h0:224<b.toNat) (h1:b.toNat<240) (h2:b.toNat≠237) (W:World) :
  Calls prog 189 #[.int .u8 b.toNat] W λe w'=>e=.returned (begV (begU b))∧W=w':=by
 have hv:=hid (beg_7 b h0 h1 h2)
 have a1:=(and8_of b).2.1
 go_enter func189,ntmps189
 go_wp2
 refine bodyPost_ret (v:=begV (begU b)) (by simp[results,results189,go_sem,begV,hv.out];have:=@Nat.and_le_right b.toNat 15;rw[wrap32_small (by omega)]) rfl ⟨rfl,rfl⟩
theorem beg_8 (b:UInt8) (h0:b.toNat=240):begU b=(3,144,191,0):=by
 have e:∀ k:UInt8,(b<k)=(b.toNat<k.toNat):=λk=>propext UInt8.lt_iff_toNat_lt
 have e':∀ k:UInt8,(k<b)=(k.toNat<b.toNat):=λk=>propext UInt8.lt_iff_toNat_lt
 have q:∀ k:UInt8,(b==k)=(b.toNat==k.toNat):=λk=>by rw[Bool.eq_iff_iff,beq_iff_eq,beq_iff_eq,UInt8.toNat_inj]
 unfold begU
 simp only[e,e',q,UInt8.reduceToNat]
 repeat' split
 all_goals (first | rfl | (exfalso;(try simp only[Bool.or_eq_true,decide_eq_true_eq,beq_iff_eq,not_or,Nat.not_lt,Bool.not_eq_true,beq_eq_false_iff_ne,ne_eq] at *);omega))
theorem ubegins_8 (b:UInt8) (h0:b.toNat=240) (W:World) :
  Calls prog 189 #[.int .u8 b.toNat] W λe w'=>e=.returned (begV (begU b))∧W=w':=by
 have hv:=hid (beg_8 b h0)
 have hq:=hid h0
 rw[h0]
 go_enter func189,ntmps189
 go_wp2
 refine bodyPost_ret (v:=begV (begU b)) (by simp[results,results189,go_sem,begV,hv.out]) rfl ⟨rfl,rfl⟩
theorem beg_9 (b:UInt8) (h0:b.toNat=244):begU b=(3,128,143,(b&&&7).toNat):=by
 have e:∀ k:UInt8,(b<k)=(b.toNat<k.toNat):=λk=>propext UInt8.lt_iff_toNat_lt
 have e':∀ k:UInt8,(k<b)=(k.toNat<b.toNat):=λk=>propext UInt8.lt_iff_toNat_lt
 have q:∀ k:UInt8,(b==k)=(b.toNat==k.toNat):=λk=>by rw[Bool.eq_iff_iff,beq_iff_eq,beq_iff_eq,UInt8.toNat_inj]
 unfold begU
 simp only[e,e',q,UInt8.reduceToNat]
 repeat' split
 all_goals (first | rfl | (exfalso;(try simp only[Bool.or_eq_true,decide_eq_true_eq,beq_iff_eq,not_or,Nat.not_lt,Bool.not_eq_true,beq_eq_false_iff_ne,ne_eq] at *);omega))
theorem ubegins_9 (b:UInt8) (h0:b.toNat=244) (W:World) :
  Calls prog 189 #[.int .u8 b.toNat] W λe w'=>e=.returned (begV (begU b))∧W=w':=by
 have hv:=hid (beg_9 b h0)
 have hq:=hid h0
 have a1:bits .and .u8 244 7=((b&&&7).toNat:Int):=by have:=(and8_of b).2.2.1;rw[h0] at this;exact this
 rw[h0]
 go_enter func189,ntmps189
 go_wp2
 refine bodyPost_ret (v:=begV (begU b)) (by simp[results,results189,go_sem,begV,hv.out];rw[hq.out];rfl) rfl ⟨rfl,rfl⟩
theorem beg_10 (b:UInt8) (h0:240<b.toNat) (h1:b.toNat<244):begU b=(3,128,191,(b&&&7).toNat):=by
 have e:∀ k:UInt8,(b<k)=(b.toNat<k.toNat):=λk=>propext UInt8.lt_iff_toNat_lt
 have e':∀ k:UInt8,(k<b)=(k.toNat<b.toNat):=λk=>propext UInt8.lt_iff_toNat_lt
 have q:∀ k:UInt8,(b==k)=(b.toNat==k.toNat):=λk=>by rw[Bool.eq_iff_iff,beq_iff_eq,beq_iff_eq,UInt8.toNat_inj]
 unfold begU
 simp only[e,e',q,UInt8.reduceToNat]
 repeat' split
 all_goals (first | rfl | (exfalso;(try simp only[Bool.or_eq_true,decide_eq_true_eq,beq_iff_eq,not_or,Nat.not_lt,Bool.not_eq_true,beq_eq_false_iff_ne,ne_eq] at *);omega))
theorem ubegins_10 (b:UInt8) (h0:240<b.toNat) (h1:b.toNat<244) (W:World) :
  Calls prog 189 #[.int .u8 b.toNat] W λe w'=>e=.returned (begV (begU b))∧W=w':=by
 have hv:=hid (beg_10 b h0 h1)
 have a1:=(and8_of b).2.2.1
 go_enter func189,ntmps189
 go_wp2
 refine bodyPost_ret (v:=begV (begU b)) (by simp[results,results189,go_sem,begV,hv.out];have:=@Nat.and_le_right b.toNat 7;rw[wrap32_small (by omega)]) rfl ⟨rfl,rfl⟩
theorem ubegins_any (b:UInt8) (W:World) :
  Calls prog 189 #[.int .u8 b.toNat] W λe w'=>e=.returned (begV (begU b))∧W=w':=by
 by_cases h1:b.toNat<128
 ·exact ubegins_1 b h1 W
 ·by_cases h2:b.toNat<194
  ·exact ubegins_2 b (by omega) h2 W
  ·by_cases h3:244<b.toNat
   ·exact ubegins_3 b h3 W
   ·by_cases h4:b.toNat<224
    ·exact ubegins_4 b (by omega) h4 W
    ·by_cases h5:b.toNat=224
     ·exact ubegins_5 b h5 W
     ·by_cases h6:b.toNat=237
      ·exact ubegins_6 b h6 W
      ·by_cases h7:b.toNat<240
       ·exact ubegins_7 b (by omega) h7 h6 W
       ·by_cases h8:b.toNat=240
        ·exact ubegins_8 b h8 W
        ·by_cases h9:b.toNat=244
         ·exact ubegins_9 b h9 W
         ·exact ubegins_10 b (by omega) (by omega) W
