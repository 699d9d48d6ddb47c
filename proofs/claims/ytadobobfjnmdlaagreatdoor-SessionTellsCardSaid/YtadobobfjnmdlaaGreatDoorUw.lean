/-
  Small functions of closing, frame and frames. (Printed by mk_uw.py.)
-/
import Derived.Test.YtadobobfjnmdlaaGreatDoorEa
import Derived.Test.YtadobobfjnmdlaaGreatDoorChecked
import Derived.Laws.BitsAllLaws
set_option linter.unnecessarySimpa false
set_option linter.unusedVariables false
set_option linter.unusedSimpArgs false
set_option maxHeartbeats 16000000
set_option maxRecDepth 100000
open Go.Proofs.Tryz
namespace Go.Proofs.YtadobobfjnmdlaaGreatDoor
open Go.RowKit
attribute [local go_sem] Oper.semAt_some
theorem Fy (c:Nat)(h0:0≤c)(d:c≤999)(W:World) :
  Calls prog 103 #[.int .i64 c] W λe w'=>e=.returned (.bool (eo c))∧W=w':=by
 have a:=qq (show eo c=false by unfold eo;simp;omega);have a0:(c:Int)<1000:=by omega
 have a1:(c:Int)≤1003:=by omega
 have a2:(c:Int)<1007:=by omega
 have a3:(c:Int)≤1014:=by omega
 have a4:(c:Int)<3000:=by omega
 have b:(c:Int)≤4999:=by omega
 go_enter func103,ntmps103;go_wp2;go_ret;exact⟨by rw[a.out];rfl,rfl⟩
theorem Fz (c:Nat)(h0:1000≤c)(d:c≤1003)(W:World) :
  Calls prog 103 #[.int .i64 c] W λe w'=>e=.returned (.bool (eo c))∧W=w':=by
 have a:=qq (show eo c=true by unfold eo;simp;omega);have a0:(1000:Int)≤c:=by omega
 have a1:(c:Int)≤1003:=by omega
 have a2:(c:Int)<1007:=by omega
 have a3:(c:Int)≤1014:=by omega
 have a4:(c:Int)<3000:=by omega
 have b:(c:Int)≤4999:=by omega
 go_enter func103,ntmps103;go_wp2;go_ret;exact⟨by rw[a.out];rfl,rfl⟩
theorem FA (c:Nat)(h0:1004≤c)(d:c≤1006)(W:World) :
  Calls prog 103 #[.int .i64 c] W λe w'=>e=.returned (.bool (eo c))∧W=w':=by
 have a:=qq (show eo c=false by unfold eo;simp;omega);have a0:(1000:Int)≤c:=by omega
 have a1:(1003:Int)<c:=by omega
 have a2:(c:Int)<1007:=by omega
 have a3:(c:Int)≤1014:=by omega
 have a4:(c:Int)<3000:=by omega
 have b:(c:Int)≤4999:=by omega
 go_enter func103,ntmps103;go_wp2;go_ret;exact⟨by rw[a.out];rfl,rfl⟩
theorem FB (c:Nat)(h0:1007≤c)(d:c≤1014)(W:World) :
  Calls prog 103 #[.int .i64 c] W λe w'=>e=.returned (.bool (eo c))∧W=w':=by
 have a:=qq (show eo c=true by unfold eo;simp;omega);have a0:(1000:Int)≤c:=by omega
 have a1:(1003:Int)<c:=by omega
 have a2:(1007:Int)≤c:=by omega
 have a3:(c:Int)≤1014:=by omega
 have a4:(c:Int)<3000:=by omega
 have b:(c:Int)≤4999:=by omega
 go_enter func103,ntmps103;go_wp2;go_ret;exact⟨by rw[a.out];rfl,rfl⟩
theorem FC (c:Nat)(h0:1015≤c)(d:c≤2999)(W:World) :
  Calls prog 103 #[.int .i64 c] W λe w'=>e=.returned (.bool (eo c))∧W=w':=by
 have a:=qq (show eo c=false by unfold eo;simp;omega);have a0:(1000:Int)≤c:=by omega
 have a1:(1003:Int)<c:=by omega
 have a2:(1007:Int)≤c:=by omega
 have a3:(1014:Int)<c:=by omega
 have a4:(c:Int)<3000:=by omega
 have b:(c:Int)≤4999:=by omega
 go_enter func103,ntmps103;go_wp2;go_ret;exact⟨by rw[a.out];rfl,rfl⟩
theorem FD (c:Nat)(h0:3000≤c)(d:c≤4999)(W:World) :
  Calls prog 103 #[.int .i64 c] W λe w'=>e=.returned (.bool (eo c))∧W=w':=by
 have a:=qq (show eo c=true by unfold eo;simp;omega);have a0:(1000:Int)≤c:=by omega
 have a1:(1003:Int)<c:=by omega
 have a2:(1007:Int)≤c:=by omega
 have a3:(1014:Int)<c:=by omega
 have a4:(3000:Int)≤c:=by omega
 have b:(c:Int)≤4999:=by omega
 go_enter func103,ntmps103;go_wp2;go_ret;exact⟨by rw[a.out];rfl,rfl⟩
theorem FE (c:Nat)(h0:5000≤c)(W:World) :
  Calls prog 103 #[.int .i64 c] W λe w'=>e=.returned (.bool (eo c))∧W=w':=by
 have a:=qq (show eo c=false by unfold eo;simp;omega);have a0:(1000:Int)≤c:=by omega
 have a1:(1003:Int)<c:=by omega
 have a2:(1007:Int)≤c:=by omega
 have a3:(1014:Int)<c:=by omega
 have a4:(3000:Int)≤c:=by omega
 have b:(4999:Int)<c:=by omega
 go_enter func103,ntmps103;go_wp2;go_ret;exact⟨by rw[a.out];rfl,rfl⟩
theorem tU (c:Nat)(W:World) :
  Calls prog 103 #[.int .i64 c] W λe w'=>e=.returned (.bool (eo c))∧W=w':=by
 by_cases a:c≤999
 ·exact Fy c (by omega) a W
 by_cases b:c≤1003
 ·exact Fz c (by omega) b W
 by_cases d:c≤1006
 ·exact FA c (by omega) d W
 by_cases f:c≤1014
 ·exact FB c (by omega) f W
 by_cases g:c≤2999
 ·exact FC c (by omega) g W
 by_cases h:c≤4999
 ·exact FD c (by omega) h W
 exact FE c (by omega) W
theorem EA (n:Nat)(h:n=126)(W:World) :
  Calls prog 255 #[.int .i64 n] W λe w'=>e=.returned (.int .i64 (eV n))∧W=w':=by
 subst h;have a:=qq (show eV 126=2 from rfl);go_enter func255,ntmps255;go_wp2;go_ret;exact⟨by rw[a.out];rfl,rfl⟩
theorem EB (n:Nat)(h:n=127)(W:World) :
  Calls prog 255 #[.int .i64 n] W λe w'=>e=.returned (.int .i64 (eV n))∧W=w':=by
 subst h;have a:=qq (show eV 127=8 from rfl);go_enter func255,ntmps255;go_wp2;go_ret;exact⟨by rw[a.out];rfl,rfl⟩
theorem EC (n:Nat)(h:n≠126∧n≠127)(W:World) :
  Calls prog 255 #[.int .i64 n] W λe w'=>e=.returned (.int .i64 (eV n))∧W=w':=by
 have b:((n:Int)==126)=false:=qk.2 (by omega);have c:((n:Int)==127)=false:=qk.2 (by omega);have a:=qq (show eV n=0 by unfold eV;rw[if_neg h.1,if_neg h.2]);go_enter func255,ntmps255;go_wp2;go_ret;exact⟨by rw[a.out];rfl,rfl⟩
theorem AA (n:Nat)(W:World) :
  Calls prog 255 #[.int .i64 n] W λe w'=>e=.returned (.int .i64 (eV n))∧W=w':=by
 by_cases a:n=126
 ·exact EA n a W
 ·by_cases b:n=127
  ·exact EB n b W
  ·exact EC n ⟨a,b⟩ W
theorem Dl (n:Nat)(h:n≤125)(W:World) :
  Calls prog 77 #[.int .u64 n] W λe w'=>e=.returned (.int .i64 (cB n))∧W=w':=by
 have a:=qq (show cB n=0 by unfold cB;rw[if_pos h]);have a0:(n:Int)≤125:=by omega
 go_enter func77,ntmps77;go_wp2;go_ret;exact⟨by rw[a.out];rfl,rfl⟩
theorem Dm (n:Nat)(h:125<n∧n≤65535)(W:World) :
  Calls prog 77 #[.int .u64 n] W λe w'=>e=.returned (.int .i64 (cB n))∧W=w':=by
 have a:=qq (show cB n=2 by unfold cB;rw[if_neg (by omega),if_pos h.2]);have a0:¬(n:Int)≤125:=by omega
 have a1:(n:Int)≤65535:=by omega
 go_enter func77,ntmps77;go_wp2;go_ret;exact⟨by rw[a.out];rfl,rfl⟩
theorem Dn (n:Nat)(h:65535<n)(W:World) :
  Calls prog 77 #[.int .u64 n] W λe w'=>e=.returned (.int .i64 (cB n))∧W=w':=by
 have a:=qq (show cB n=8 by unfold cB;rw[if_neg (by omega),if_neg (by omega)]);have a0:¬(n:Int)≤125:=by omega
 have a1:¬(n:Int)≤65535:=by omega
 go_enter func77,ntmps77;go_wp2;go_ret;exact⟨by rw[a.out];rfl,rfl⟩
theorem jU (n:Nat)(W:World) :
  Calls prog 77 #[.int .u64 n] W λe w'=>e=.returned (.int .i64 (cB n))∧W=w':=by
 by_cases a:n≤125
 ·exact Dl n a W
 ·by_cases b:n≤65535
  ·exact Dm n ⟨by omega,b⟩ W
  ·exact Dn n (by omega) W
theorem Ge (W:World) :
  Calls prog 257 #[.int .i64 0] W λe w'=>e=.returned (.bool true)∧W=w':=by
 go_enter func257,ntmps257;go_wp2;go_ret;exact⟨rfl,rfl⟩
theorem Gf (W:World) :
  Calls prog 257 #[.int .i64 1] W λe w'=>e=.returned (.bool true)∧W=w':=by
 go_enter func257,ntmps257;go_wp2;go_ret;exact⟨rfl,rfl⟩
theorem Gg (W:World) :
  Calls prog 257 #[.int .i64 2] W λe w'=>e=.returned (.bool true)∧W=w':=by
 go_enter func257,ntmps257;go_wp2;go_ret;exact⟨rfl,rfl⟩
theorem Gh (W:World) :
  Calls prog 257 #[.int .i64 8] W λe w'=>e=.returned (.bool true)∧W=w':=by
 go_enter func257,ntmps257;go_wp2;go_ret;exact⟨rfl,rfl⟩
theorem Gi (W:World) :
  Calls prog 257 #[.int .i64 9] W λe w'=>e=.returned (.bool true)∧W=w':=by
 go_enter func257,ntmps257;go_wp2;go_ret;exact⟨rfl,rfl⟩
theorem FF (W:World) :
  Calls prog 257 #[.int .i64 10] W λe w'=>e=.returned (.bool true)∧W=w':=by
 go_enter func257,ntmps257;go_wp2;go_ret;exact⟨rfl,rfl⟩
theorem FG (n:Nat)(h:n≠0∧n≠1∧n≠2∧n≠8∧n≠9∧n≠10)(W:World) :
  Calls prog 257 #[.int .i64 n] W λe w'=>e=.returned (.bool false)∧W=w':=by
 have b:((n:Int)==0)=false:=qk.2 (by omega);have c:((n:Int)==1)=false:=qk.2 (by omega);have d:((n:Int)==2)=false:=qk.2 (by omega);have f:((n:Int)==8)=false:=qk.2 (by omega);have g:((n:Int)==9)=false:=qk.2 (by omega);have a:((n:Int)==10)=false:=qk.2 (by omega);go_enter func257,ntmps257;go_wp2;go_ret;exact⟨rfl,rfl⟩
theorem ED (n:Nat)(W:World) :
  Calls prog 257 #[.int .i64 n] W λe w'=>e=.returned (.bool (opH n))∧W=w':=by
 by_cases h0:n=0
 ·subst h0;exact Ge W
 by_cases b:n=1
 ·subst b;exact Gf W
 by_cases c:n=2
 ·subst c;exact Gg W
 by_cases d:n=8
 ·subst d;exact Gh W
 by_cases f:n=9
 ·subst f;exact Gi W
 by_cases a:n=10
 ·subst a;exact FF W
 have:opH n=false:=by unfold opH;simp[h0,b,c,d,f,a]
 rw[this];exact FG n ⟨h0,b,c,d,f,a⟩ W
theorem GF {a b:Nat}(c:a<4294967296)(d:b<4294967296):bits .or .u32 (a:Int) (b:Int)=((a ||| b:Nat):Int):=Go.u32_or_nat a b c d
theorem ru {x n:Nat}(c:x<4294967296):bits .or .u32 ((x:Int)*(2 ^ n:Nat) % 4294967296) ((x:Int) / (2 ^ (32 - n):Nat))=(gY n x:Int):=by
 have:=GF (a:=x*2 ^ n % 4294967296) (b:=x / 2 ^ (32 - n)) (Nat.mod_lt _ (by decide)) (Nat.lt_of_le_of_lt (Nat.div_le_self _ _) c);rw[Int.natCast_emod,Int.natCast_mul,Int.natCast_ediv]at this;exact this
theorem Do (x:Nat)(b:x<4294967296)(w:World):Calls prog 269 #[.int .u32 x,.int .i64 1] w λe w'=>e=.returned (.int .u32 (gY 1 x))∧w=w':=by
 have d:bits .and .u64 1 31=1:=by decide
 have a:IntKind.u64.wrap (32 - 1)=31:=by decide
 have c:(x:Int)<4294967296:=by omega
 have f:bits .or .u32 ((x:Int)*2 % 4294967296) ((x:Int) / 2147483648)=(gY 1 x:Int):=ru (n:=1) b;go_enter func269,ntmps269;go_wp2;go_ret;exact⟨rfl,rfl⟩
theorem Dp (x:Nat)(b:x<4294967296)(w:World):Calls prog 269 #[.int .u32 x,.int .i64 5] w λe w'=>e=.returned (.int .u32 (gY 5 x))∧w=w':=by
 have d:bits .and .u64 5 31=5:=by decide
 have a:IntKind.u64.wrap (32 - 5)=27:=by decide
 have c:(x:Int)<4294967296:=by omega
 have f:bits .or .u32 ((x:Int)*32 % 4294967296) ((x:Int) / 134217728)=(gY 5 x:Int):=ru (n:=5) b;go_enter func269,ntmps269;go_wp2;go_ret;exact⟨rfl,rfl⟩
theorem AB (x:Nat)(b:x<4294967296)(w:World):Calls prog 269 #[.int .u32 x,.int .i64 30] w λe w'=>e=.returned (.int .u32 (gY 30 x))∧w=w':=by
 have d:bits .and .u64 30 31=30:=by decide
 have a:IntKind.u64.wrap (32 - 30)=2:=by decide
 have c:(x:Int)<4294967296:=by omega
 have f:bits .or .u32 ((x:Int)*1073741824 % 4294967296) ((x:Int) / 4)=(gY 30 x:Int):=ru (n:=30) b;go_enter func269,ntmps269;go_wp2;go_ret;exact⟨rfl,rfl⟩
theorem tV {a b:Nat}(c:a<4294967296)(d:b<4294967296):bits .and .u32 (a:Int) (b:Int)=((a&&&b:Nat):Int):=Go.u32_and_nat a b c d
theorem iK {a b:Nat}(c:a<4294967296)(d:b<4294967296):bits .xor .u32 (a:Int) (b:Int)=((a^^^b:Nat):Int):=Go.u32_xor_nat a b c d
theorem AC (t b c d:Nat)(q:t<80)(f:b<4294967296)(i:c<4294967296)(l:d<4294967296)(w:World) :
  Calls prog 268 #[.int .i64 t,.int .u32 b,.int .u32 c,.int .u32 d] w λe w'=>e=.returned (.tuple #[.int .u32 (AX t b c d),.int .u32 (AY t)])∧w=w':=by
 obtain⟨F,hF⟩:∃F,AX t b c d=F:=⟨_,rfl⟩;obtain⟨K,h⟩:∃K,AY t=K:=⟨_,rfl⟩;rw[hF,h];unfold AX at hF;unfold AY at h;have r:=qq q;clear q;by_cases g:t<20
 ·have m:(t:Int)<20:=by omega
  rw[if_pos g]at hF h;subst hF h;clear g;have n:bits .and .u32 (b:Int) (c:Int)=((b&&&c:Nat):Int):=tV f i;have o:bits .xor .u32 IntKind.u32.max (b:Int)=((4294967295^^^b:Nat):Int):=iK (a:=4294967295) (by decide) f;have u:bits .and .u32 ((4294967295^^^b:Nat):Int) (d:Int)=(((4294967295^^^b)&&&d:Nat):Int):=tV (bZ (by decide) f) l;have v:bits .xor .u32 ((b&&&c:Nat):Int) (((4294967295^^^b)&&&d:Nat):Int)=(((b&&&c)^^^((4294967295^^^b)&&&d):Nat):Int):=iK (ft f) (ft (bZ (by decide) f));clear f i l;go_enter func268,ntmps268;go_wp2;go_ret2;exact⟨rfl,rfl⟩
 ·rw[if_neg g]at hF h;by_cases j:t<40
  ·have m:¬(t:Int)<20:=(by omega);have p:(t:Int)<40:=(by omega);rw[if_pos j]at hF h;subst hF h;clear g j;have n:bits .xor .u32 (b:Int) (c:Int)=((b^^^c:Nat):Int):=iK f i;have o:bits .xor .u32 ((b^^^c:Nat):Int) (d:Int)=((b^^^c^^^d:Nat):Int):=iK (bZ f i) l;clear f i l;go_enter func268,ntmps268;go_wp2;go_ret2;exact⟨rfl,rfl⟩
  ·rw[if_neg j]at hF h;by_cases k:t<60
   ·have m:¬(t:Int)<20:=(by omega);have p:¬(t:Int)<40:=(by omega);have s:(t:Int)<60:=(by omega);rw[if_pos k]at hF h;subst hF h;clear g j k;have n:bits .and .u32 (b:Int) (c:Int)=((b&&&c:Nat):Int):=tV f i;have o:bits .and .u32 (b:Int) (d:Int)=((b&&&d:Nat):Int):=tV f l;have u:bits .and .u32 (c:Int) (d:Int)=((c&&&d:Nat):Int):=tV i l;have v:bits .xor .u32 ((b&&&c:Nat):Int) ((b&&&d:Nat):Int)=(((b&&&c)^^^(b&&&d):Nat):Int):=iK (ft f) (ft f);have x:bits .xor .u32 (((b&&&c)^^^(b&&&d):Nat):Int) ((c&&&d:Nat):Int)=(((b&&&c)^^^(b&&&d)^^^(c&&&d):Nat):Int):=iK (bZ (ft f) (ft f)) (ft i);clear f i l;go_enter func268,ntmps268;go_wp2;go_ret2;exact⟨rfl,rfl⟩
   ·have m:¬(t:Int)<20:=(by omega);have p:¬(t:Int)<40:=(by omega);have s:¬(t:Int)<60:=(by omega);rw[if_neg k]at hF h;subst hF h;clear g j k;have n:bits .xor .u32 (b:Int) (c:Int)=((b^^^c:Nat):Int):=iK f i;have o:bits .xor .u32 ((b^^^c:Nat):Int) (d:Int)=((b^^^c^^^d:Nat):Int):=iK (bZ f i) l;clear f i l;go_enter func268,ntmps268;go_wp2;go_ret2;exact⟨rfl,rfl⟩
def ry (s:List UInt8)(k:Nat):Nat:=(s.take k).foldl (λx c=>x*256+c.toNat) 0
theorem pU {s:List UInt8}{k:Nat}(h:k<s.length):ry s (k+1)=ry s k*256+s[k].toNat:=by
 unfold ry;rw[List.take_succ_eq_append_getElem h,List.foldl_append];rfl
theorem xU (s:List UInt8):∀k,k≤s.length→ry s k<256 ^ k
 | 0,_=>by unfold ry;simp
 | k+1,h=>by
  have a:=xU s k (by omega);have b:=(s[k]'(by omega)).toNat_lt;rw[pU (by omega),Nat.pow_succ];omega
theorem pV:∀(s:List UInt8) (x:Nat) (n:Nat),x<256 ^ n→n+s.length≤8→s.foldl (λx c=>(x*256+c.toNat) % 18446744073709551616) x=s.foldl (λx c=>x*256+c.toNat) x
 | [],_,_,_,_=>rfl
 | c :: t,x,n,hx,hn=>by
  rw[List.length_cons]at hn;have d:=c.toNat_lt;have b:256 ^ (n+1)≤256 ^ 8:=Nat.pow_le_pow_right (by decide) (by omega);have a:x*256+c.toNat<256 ^ (n+1):=by rw[Nat.pow_succ];omega
  rw[List.foldl_cons,List.foldl_cons,Nat.mod_eq_of_lt (qj a b)];exact pV t _ (n+1) a (by omega)
theorem wU {s:List UInt8}(h:s.length≤8):yc s=ry s s.length:=by
 unfold yc ry;rw[List.take_length,pV s 0 0 (by decide) (by omega)]
theorem Dq (s:List UInt8)(hs:s.length≤8)(w:World):Calls prog 256 #[.string ⟨s.toArray⟩] w λe w'=>e=.returned (.int .u64 (yc s))∧w=w':=by
 have d:=qq (wU hs);go_enter func256,ntmps256;go_wp2;go_loop [2,6] (λx i=>∃k:Nat,k≤s.length∧i=.int .i64 k∧x=.int .u64 (ry s k)) (λ_ i=>s.length - (intOf i).toNat)
 case atStart=>exact⟨0,by omega,rfl,rfl⟩
 case round =>
  obtain⟨k,p,rfl,rfl⟩:=hrel;obtain⟨m,hm⟩:∃m,ry s k=m:=⟨_,rfl⟩;have a:=qq hm;rw[hm];by_cases f:k<s.length
  ·have g:(k:Int)<s.length:=(by omega);obtain⟨c,n⟩:∃c,(⟨s.toArray⟩:ByteArray)[k]'(by rw[aj];omega)=c:=⟨_,rfl⟩;have b:=qq (show s[k]=c from n);have h:m<256 ^ 7:=qj (hm▸xU s k p) (Nat.pow_le_pow_right (by decide) (by omega));have q:(m:Int)≤72057594037927935:=(by omega);have r:bits .or .u64 ((m:Int)*256) (c.toNat:Int)=((m*256+c.toNat:Nat):Int):=by
    have j:=Go.u64_or_nat (m*256) c.toNat (by omega) (by have:=c.toNat_lt;omega);rw[Go.nat_join 8 (m*256) c.toNat (by omega) (by have:=c.toNat_lt;omega)]at j;rw[←j];rfl
   have o:IntKind.u64.wrap (c.toNat:Int)=c.toNat:=(by rw[Go.IntKind.wrap_u64];have:=c.toNat_lt;omega);clear hm h;go_wp2;go_round
   case rel=>exact⟨k+1,by omega,by go_num,by rw[pU f,a.out,b.out];go_num⟩
   case measure=>simp[intOf];omega
  ·have g:¬(k:Int)<s.length:=(by omega);have l:k=s.length:=(by omega);go_wp2;go_ret;exact⟨by rw[d.out,←a.out,l];rfl,rfl⟩
theorem GG:∀n:Nat,n<256→(bits .and .u8 (n:Int) 31=((UInt8.ofNat n&&&31).toNat:Int))∧(bits .and .u8 (n:Int) 15=((UInt8.ofNat n&&&15).toNat:Int))∧(bits .and .u8 (n:Int) 7=((UInt8.ofNat n&&&7).toNat:Int))∧(bits .and .u8 (n:Int) 63=((UInt8.ofNat n&&&63).toNat:Int)):=by
 decide +kernel
theorem iW (b:UInt8):(bits .and .u8 (b.toNat:Int) 31=((b&&&31).toNat:Int))∧(bits .and .u8 (b.toNat:Int) 15=((b&&&15).toNat:Int))∧(bits .and .u8 (b.toNat:Int) 7=((b&&&7).toNat:Int))∧(bits .and .u8 (b.toNat:Int) 63=((b&&&63).toNat:Int)):=by
 have:=GG b.toNat b.toNat_lt
 rwa [UInt8.ofNat_toNat]at this
def dy (x:Int×UInt8×UInt8×Nat):Value:=.tuple #[.int .i64 x.1,.int .u8 x.2.1.toNat,.int .u8 x.2.2.1.toNat,.int .i32 x.2.2.2]
theorem fh {n:Nat}(h:n<2147483648):wrap32 (n:Int)=n:=by unfold wrap32;omega
theorem Gj (b:UInt8)(h0:b.toNat<128):bB b=(0,0,0,b.toNat):=by
 have e:∀k:UInt8,(b<k)=(b.toNat<k.toNat):=λk=>propext UInt8.lt_iff_toNat_lt;have a:∀k:UInt8,(k<b)=(k.toNat<b.toNat):=λk=>propext UInt8.lt_iff_toNat_lt;have q:∀k:UInt8,(b==k)=(b.toNat==k.toNat):=λk=>by rw[Bool.eq_iff_iff,beq_iff_eq,beq_iff_eq,UInt8.toNat_inj]
 unfold bB;simp only[e,a,q,UInt8.reduceToNat]
 repeat' split
 all_goals (first | rfl | (exfalso;(try simp only[Bool.or_eq_true,decide_eq_true_eq,beq_iff_eq,not_or,Nat.not_lt,Bool.not_eq_true,qk,ne_eq]at *);omega))
theorem AD (b:UInt8)(h0:b.toNat<128)(W:World) :
  Calls prog 189 #[.int .u8 b.toNat] W λe w'=>e=.returned (dy (bB b))∧W=w':=by
 have a:=qq (Gj b h0);go_enter func189,ntmps189;go_wp2;refine bodyPost_ret (v:=dy (bB b)) (by simp[results,results189,go_sem,dy,a.out]) rfl ⟨rfl,rfl⟩
theorem Gk (b:UInt8)(h0:128≤b.toNat)(c:b.toNat<194):bB b=(-1,0,0,0):=by
 have e:∀k:UInt8,(b<k)=(b.toNat<k.toNat):=λk=>propext UInt8.lt_iff_toNat_lt;have a:∀k:UInt8,(k<b)=(k.toNat<b.toNat):=λk=>propext UInt8.lt_iff_toNat_lt;have q:∀k:UInt8,(b==k)=(b.toNat==k.toNat):=λk=>by rw[Bool.eq_iff_iff,beq_iff_eq,beq_iff_eq,UInt8.toNat_inj]
 unfold bB;simp only[e,a,q,UInt8.reduceToNat]
 repeat' split
 all_goals (first | rfl | (exfalso;(try simp only[Bool.or_eq_true,decide_eq_true_eq,beq_iff_eq,not_or,Nat.not_lt,Bool.not_eq_true,qk,ne_eq]at *);omega))
theorem AE (b:UInt8)(h0:128≤b.toNat)(a:b.toNat<194)(W:World) :
  Calls prog 189 #[.int .u8 b.toNat] W λe w'=>e=.returned (dy (bB b))∧W=w':=by
 have c:=qq (Gk b h0 a);go_enter func189,ntmps189;go_wp2;refine bodyPost_ret (v:=dy (bB b)) (by simp[results,results189,go_sem,dy,c.out]) rfl ⟨rfl,rfl⟩
theorem Gl (b:UInt8)(h0:244<b.toNat):bB b=(-1,0,0,0):=by
 have e:∀k:UInt8,(b<k)=(b.toNat<k.toNat):=λk=>propext UInt8.lt_iff_toNat_lt;have a:∀k:UInt8,(k<b)=(k.toNat<b.toNat):=λk=>propext UInt8.lt_iff_toNat_lt;have q:∀k:UInt8,(b==k)=(b.toNat==k.toNat):=λk=>by rw[Bool.eq_iff_iff,beq_iff_eq,beq_iff_eq,UInt8.toNat_inj]
 unfold bB;simp only[e,a,q,UInt8.reduceToNat]
 repeat' split
 all_goals (first | rfl | (exfalso;(try simp only[Bool.or_eq_true,decide_eq_true_eq,beq_iff_eq,not_or,Nat.not_lt,Bool.not_eq_true,qk,ne_eq]at *);omega))
theorem AF (b:UInt8)(h0:244<b.toNat)(W:World) :
  Calls prog 189 #[.int .u8 b.toNat] W λe w'=>e=.returned (dy (bB b))∧W=w':=by
 have a:=qq (Gl b h0);go_enter func189,ntmps189;go_wp2;refine bodyPost_ret (v:=dy (bB b)) (by simp[results,results189,go_sem,dy,a.out]) rfl ⟨rfl,rfl⟩
theorem Gm (b:UInt8)(h0:194≤b.toNat)(c:b.toNat<224):bB b=(1,128,191,(b&&&31).toNat):=by
 have e:∀k:UInt8,(b<k)=(b.toNat<k.toNat):=λk=>propext UInt8.lt_iff_toNat_lt;have a:∀k:UInt8,(k<b)=(k.toNat<b.toNat):=λk=>propext UInt8.lt_iff_toNat_lt;have q:∀k:UInt8,(b==k)=(b.toNat==k.toNat):=λk=>by rw[Bool.eq_iff_iff,beq_iff_eq,beq_iff_eq,UInt8.toNat_inj]
 unfold bB;simp only[e,a,q,UInt8.reduceToNat]
 repeat' split
 all_goals (first | rfl | (exfalso;(try simp only[Bool.or_eq_true,decide_eq_true_eq,beq_iff_eq,not_or,Nat.not_lt,Bool.not_eq_true,qk,ne_eq]at *);omega))
theorem AG (b:UInt8)(h0:194≤b.toNat)(a:b.toNat<224)(W:World) :
  Calls prog 189 #[.int .u8 b.toNat] W λe w'=>e=.returned (dy (bB b))∧W=w':=by
 have c:=qq (Gm b h0 a);have a1:=(iW b).1;go_enter func189,ntmps189;go_wp2;refine bodyPost_ret (v:=dy (bB b)) (by simp[results,results189,go_sem,dy,c.out];have:=@Nat.and_le_right b.toNat 31;rw[fh (by omega)]) rfl ⟨rfl,rfl⟩
theorem Gn (b:UInt8)(h0:b.toNat=224):bB b=(2,160,191,0):=by
 have e:∀k:UInt8,(b<k)=(b.toNat<k.toNat):=λk=>propext UInt8.lt_iff_toNat_lt;have a:∀k:UInt8,(k<b)=(k.toNat<b.toNat):=λk=>propext UInt8.lt_iff_toNat_lt;have q:∀k:UInt8,(b==k)=(b.toNat==k.toNat):=λk=>by rw[Bool.eq_iff_iff,beq_iff_eq,beq_iff_eq,UInt8.toNat_inj]
 unfold bB;simp only[e,a,q,UInt8.reduceToNat]
 repeat' split
 all_goals (first | rfl | (exfalso;(try simp only[Bool.or_eq_true,decide_eq_true_eq,beq_iff_eq,not_or,Nat.not_lt,Bool.not_eq_true,qk,ne_eq]at *);omega))
theorem AH (b:UInt8)(h0:b.toNat=224)(W:World) :
  Calls prog 189 #[.int .u8 b.toNat] W λe w'=>e=.returned (dy (bB b))∧W=w':=by
 have a:=qq (Gn b h0);have c:=qq h0;rw[h0];go_enter func189,ntmps189;go_wp2;refine bodyPost_ret (v:=dy (bB b)) (by simp[results,results189,go_sem,dy,a.out]) rfl ⟨rfl,rfl⟩
theorem Gq (b:UInt8)(h0:b.toNat=237):bB b=(2,128,159,(b&&&15).toNat):=by
 have e:∀k:UInt8,(b<k)=(b.toNat<k.toNat):=λk=>propext UInt8.lt_iff_toNat_lt;have a:∀k:UInt8,(k<b)=(k.toNat<b.toNat):=λk=>propext UInt8.lt_iff_toNat_lt;have q:∀k:UInt8,(b==k)=(b.toNat==k.toNat):=λk=>by rw[Bool.eq_iff_iff,beq_iff_eq,beq_iff_eq,UInt8.toNat_inj]
 unfold bB;simp only[e,a,q,UInt8.reduceToNat]
 repeat' split
 all_goals (first | rfl | (exfalso;(try simp only[Bool.or_eq_true,decide_eq_true_eq,beq_iff_eq,not_or,Nat.not_lt,Bool.not_eq_true,qk,ne_eq]at *);omega))
theorem AI (b:UInt8)(h0:b.toNat=237)(W:World) :
  Calls prog 189 #[.int .u8 b.toNat] W λe w'=>e=.returned (dy (bB b))∧W=w':=by
 have c:=qq (Gq b h0);have a:=qq h0;have a1:bits .and .u8 237 15=((b&&&15).toNat:Int):=by have:=(iW b).2.1;rw[h0]at this;exact this
 rw[h0];go_enter func189,ntmps189;go_wp2;refine bodyPost_ret (v:=dy (bB b)) (by simp[results,results189,go_sem,dy,c.out];rw[a.out];rfl) rfl ⟨rfl,rfl⟩
theorem Gs (b:UInt8)(h0:224<b.toNat)(c:b.toNat<240)(d:b.toNat≠237):bB b=(2,128,191,(b&&&15).toNat):=by
 have e:∀k:UInt8,(b<k)=(b.toNat<k.toNat):=λk=>propext UInt8.lt_iff_toNat_lt;have a:∀k:UInt8,(k<b)=(k.toNat<b.toNat):=λk=>propext UInt8.lt_iff_toNat_lt;have q:∀k:UInt8,(b==k)=(b.toNat==k.toNat):=λk=>by rw[Bool.eq_iff_iff,beq_iff_eq,beq_iff_eq,UInt8.toNat_inj]
 unfold bB;simp only[e,a,q,UInt8.reduceToNat]
 repeat' split
 all_goals (first | rfl | (exfalso;(try simp only[Bool.or_eq_true,decide_eq_true_eq,beq_iff_eq,not_or,Nat.not_lt,Bool.not_eq_true,qk,ne_eq]at *);omega))
theorem AJ (b:UInt8)(h0:224<b.toNat)(a:b.toNat<240)(c:b.toNat≠237)(W:World) :
  Calls prog 189 #[.int .u8 b.toNat] W λe w'=>e=.returned (dy (bB b))∧W=w':=by
 have d:=qq (Gs b h0 a c);have a1:=(iW b).2.1;go_enter func189,ntmps189;go_wp2;refine bodyPost_ret (v:=dy (bB b)) (by simp[results,results189,go_sem,dy,d.out];have:=@Nat.and_le_right b.toNat 15;rw[fh (by omega)]) rfl ⟨rfl,rfl⟩
theorem Gt (b:UInt8)(h0:b.toNat=240):bB b=(3,144,191,0):=by
 have e:∀k:UInt8,(b<k)=(b.toNat<k.toNat):=λk=>propext UInt8.lt_iff_toNat_lt;have a:∀k:UInt8,(k<b)=(k.toNat<b.toNat):=λk=>propext UInt8.lt_iff_toNat_lt;have q:∀k:UInt8,(b==k)=(b.toNat==k.toNat):=λk=>by rw[Bool.eq_iff_iff,beq_iff_eq,beq_iff_eq,UInt8.toNat_inj]
 unfold bB;simp only[e,a,q,UInt8.reduceToNat]
 repeat' split
 all_goals (first | rfl | (exfalso;(try simp only[Bool.or_eq_true,decide_eq_true_eq,beq_iff_eq,not_or,Nat.not_lt,Bool.not_eq_true,qk,ne_eq]at *);omega))
theorem AK (b:UInt8)(h0:b.toNat=240)(W:World) :
  Calls prog 189 #[.int .u8 b.toNat] W λe w'=>e=.returned (dy (bB b))∧W=w':=by
 have a:=qq (Gt b h0);have c:=qq h0;rw[h0];go_enter func189,ntmps189;go_wp2;refine bodyPost_ret (v:=dy (bB b)) (by simp[results,results189,go_sem,dy,a.out]) rfl ⟨rfl,rfl⟩
theorem Gu (b:UInt8)(h0:b.toNat=244):bB b=(3,128,143,(b&&&7).toNat):=by
 have e:∀k:UInt8,(b<k)=(b.toNat<k.toNat):=λk=>propext UInt8.lt_iff_toNat_lt;have a:∀k:UInt8,(k<b)=(k.toNat<b.toNat):=λk=>propext UInt8.lt_iff_toNat_lt;have q:∀k:UInt8,(b==k)=(b.toNat==k.toNat):=λk=>by rw[Bool.eq_iff_iff,beq_iff_eq,beq_iff_eq,UInt8.toNat_inj]
 unfold bB;simp only[e,a,q,UInt8.reduceToNat]
 repeat' split
 all_goals (first | rfl | (exfalso;(try simp only[Bool.or_eq_true,decide_eq_true_eq,beq_iff_eq,not_or,Nat.not_lt,Bool.not_eq_true,qk,ne_eq]at *);omega))
theorem AL (b:UInt8)(h0:b.toNat=244)(W:World) :
  Calls prog 189 #[.int .u8 b.toNat] W λe w'=>e=.returned (dy (bB b))∧W=w':=by
 have c:=qq (Gu b h0);have a:=qq h0;have a1:bits .and .u8 244 7=((b&&&7).toNat:Int):=by have:=(iW b).2.2.1;rw[h0]at this;exact this
 rw[h0];go_enter func189,ntmps189;go_wp2;refine bodyPost_ret (v:=dy (bB b)) (by simp[results,results189,go_sem,dy,c.out];rw[a.out];rfl) rfl ⟨rfl,rfl⟩
theorem FH (b:UInt8)(h0:240<b.toNat)(c:b.toNat<244):bB b=(3,128,191,(b&&&7).toNat):=by
 have e:∀k:UInt8,(b<k)=(b.toNat<k.toNat):=λk=>propext UInt8.lt_iff_toNat_lt;have a:∀k:UInt8,(k<b)=(k.toNat<b.toNat):=λk=>propext UInt8.lt_iff_toNat_lt;have q:∀k:UInt8,(b==k)=(b.toNat==k.toNat):=λk=>by rw[Bool.eq_iff_iff,beq_iff_eq,beq_iff_eq,UInt8.toNat_inj]
 unfold bB;simp only[e,a,q,UInt8.reduceToNat]
 repeat' split
 all_goals (first | rfl | (exfalso;(try simp only[Bool.or_eq_true,decide_eq_true_eq,beq_iff_eq,not_or,Nat.not_lt,Bool.not_eq_true,qk,ne_eq]at *);omega))
theorem wV (b:UInt8)(h0:240<b.toNat)(a:b.toNat<244)(W:World) :
  Calls prog 189 #[.int .u8 b.toNat] W λe w'=>e=.returned (dy (bB b))∧W=w':=by
 have c:=qq (FH b h0 a);have a1:=(iW b).2.2.1;go_enter func189,ntmps189;go_wp2;refine bodyPost_ret (v:=dy (bB b)) (by simp[results,results189,go_sem,dy,c.out];have:=@Nat.and_le_right b.toNat 7;rw[fh (by omega)]) rfl ⟨rfl,rfl⟩
theorem tW (b:UInt8)(W:World) :
  Calls prog 189 #[.int .u8 b.toNat] W λe w'=>e=.returned (dy (bB b))∧W=w':=by
 by_cases c:b.toNat<128
 ·exact AD b c W
 ·by_cases d:b.toNat<194
  ·exact AE b (by omega) d W
  ·by_cases f:244<b.toNat
   ·exact AF b f W
   ·by_cases g:b.toNat<224
    ·exact AG b (by omega) g W
    ·by_cases h:b.toNat=224
     ·exact AH b h W
     ·by_cases a:b.toNat=237
      ·exact AI b a W
      ·by_cases i:b.toNat<240
       ·exact AJ b (by omega) i a W
       ·by_cases j:b.toNat=240
        ·exact AK b j W
        ·by_cases k:b.toNat=244
         ·exact AL b k W
         ·exact wV b (by omega) (by omega) W
structure UkAt (B:Nat)(W:World)(k:Uk):Prop where
 c0:W.cell? ⟨B,0,none⟩=some (.int .i64 k.c.left)
 c1:W.cell? ⟨B,1,none⟩=some (.int .u8 k.c.low.toNat)
 c2:W.cell? ⟨B,2,none⟩=some (.int .u8 k.c.high.toNat)
 c3:W.cell? ⟨B,3,none⟩=some (.int .i32 k.c.x)
 c4:∃n,W.cell? ⟨B,4,none⟩=some (.int .i64 n)
 c5:W.cell? ⟨B,5,none⟩=some (.bool k.bad)
 fz:∀o,W.frozen? ⟨B,o,none⟩=false
 ok:UcOk k.c
theorem UkAt.lt {B:Nat}{W:World}{k:Uk}(h:UkAt B W k):B<W.heap.size:=ae h.c0
theorem UkAt.gr {B:Nat}{W a:World}{k:Uk}(h:UkAt B W k)(g:Gr W a):UkAt B a k :=
 ⟨g.cell h.c0,g.cell h.c1,g.cell h.c2,g.cell h.c3,h.c4.imp λ_ e=>g.cell e,g.cell h.c5,λo=>(Below.frozen g (show B<W.heap.size from h.lt)).trans (h.fz o),h.ok⟩
theorem UkAt.put {B:Nat}{W:World}{k:Uk}(h:UkAt B W k){c:Uc}(a:UcOk c) :
  UkAt B ((((W.setCell ⟨B,0,none⟩ (.int .i64 c.left)).setCell ⟨B,1,none⟩ (.int .u8 c.low.toNat)).setCell ⟨B,2,none⟩ (.int .u8 c.high.toNat)).setCell ⟨B,3,none⟩ (.int .i32 c.x)) { k with c:=c }:=by
 refine⟨?_,?_,?_,?_,h.c4.imp λn e=>?_,?_,λo=>by rw[ag,ag,ag,ag];exact h.fz o,a⟩;all_goals simp[go_sem,h.c0,h.c1,h.c2,h.c3,h.c5]
 exact e
def kJ (B:Nat)(W:World)(k:Uk)(o:Option Uc)(e:Ending)(W':World):Prop :=
 e=.returned (.bool o.isSome)∧UkAt B W' { k with c:=o.getD k.c }∧Ch (λj=>j=B) W W'
theorem ch4 {B:Nat}{W:World}(a b c d:Value):Ch (λj=>j=B) W ((((W.setCell ⟨B,0,none⟩ a).setCell ⟨B,1,none⟩ b).setCell ⟨B,2,none⟩ c).setCell ⟨B,3,none⟩ d) :=
 (((Ch.setCell (T:=λj=>j=B) W (a:=⟨B,0,none⟩) rfl a).trans (Ch.setCell (T:=λj=>j=B) _ (a:=⟨B,1,none⟩) rfl b)).trans (Ch.setCell (T:=λj=>j=B) _ (a:=⟨B,2,none⟩) rfl c)).trans (Ch.setCell (T:=λj=>j=B) _ (a:=⟨B,3,none⟩) rfl d)
theorem AM (b:UInt8):-1≤(bB b).1∧(bB b).1≤3:=by
 unfold bB
 repeat' split
 all_goals (constructor <;> (try simp only[]) <;> omega)
theorem EE (B:Nat)(W:World)(k:Uk)(b:UInt8)(h:UkAt B W k)(h0:k.c.left=0) :
  Calls prog 154 #[.pointer (some ⟨B,0,none⟩),.int .u8 b.toNat] W (kJ B W k (ei k.c b)):=by
 have i:=qq h;have c0:=h.c0;rw[h0]at c0;have fz:=h.fz;have k0:=h.c0;have k1:=h.c1;have k2:=h.c2;have k3:=h.c3;have hl:=AM b;have a:=qq (tW b W);have hs:=qq (show ei k.c b=if (bB b).1<0 then none else some ⟨(bB b).1.toNat,(bB b).2.1,(bB b).2.2.1,(bB b).2.2.2⟩ by unfold ei;rw[if_pos h0]);have f:=qq (λc' e=>h.ok.step (b:=b) (c':=c') e);clear h h0 k0;obtain⟨⟨g,m,n,o⟩,d⟩:∃x,bB b=x:=⟨_,rfl⟩;rw[d]at hl hs a;dsimp only at hl hs;go_enter func154,ntmps154;go_wp2_with fail;refine(a.out).mono ?_;rintro e l⟨rfl,rfl⟩;unfold dy;by_cases hn:g<0
 ·rw[if_pos hn]at hs;go_wp2;go_ret;exact⟨by rw[hs.out];rfl,by rw[hs.out];exact i.out,Ch.refl _ _⟩
 ·rw[if_neg hn]at hs;go_wp2;go_ret;refine⟨by rw[hs.out];rfl,?_,ch4 _ _ _ _⟩;rw[hs.out];have j:((g.toNat:Nat):Int)=g:=Int.toNat_of_nonneg (by omega);have:=i.out.put (f.out _ hs.out);simp only[Option.getD_some];dsimp only at this;rw[j]at this;exact this
theorem EF (B:Nat)(W:World)(k:Uk)(b:UInt8)(h:UkAt B W k)(h0:k.c.left≠0)(a:(b<k.c.low||k.c.high<b)=true) :
  Calls prog 154 #[.pointer (some ⟨B,0,none⟩),.int .u8 b.toNat] W (kJ B W k (ei k.c b)):=by
 have e:=qq h;have c0:=h.c0;have c1:=h.c1;have c2:=h.c2;have i:((k.c.left:Int)==0)=false:=qk.2 (by omega);have hs:=qq (show ei k.c b=none by unfold ei;rw[if_neg h0,if_pos a]);have d:b.toNat<k.c.low.toNat∨k.c.high.toNat<b.toNat:=by simpa[UInt8.lt_iff_toNat_lt]using a
 clear h h0 a;by_cases f:b.toNat<k.c.low.toNat
 ·go_enter func154,ntmps154;go_wp2;go_ret;exact⟨by rw[hs.out];rfl,by rw[hs.out];exact e.out,Ch.refl _ _⟩
 ·have g:k.c.high.toNat<b.toNat:=by omega
  have f:¬(b.toNat:Int)<k.c.low.toNat:=by omega
  clear d;go_enter func154,ntmps154;go_wp2;go_ret;exact⟨by rw[hs.out];rfl,by rw[hs.out];exact e.out,Ch.refl _ _⟩
theorem or6 {x y:Nat}(a:x<33554432)(b:y<64):bits .or .i32 ((x:Int)*64) (y:Int)=((x*64+y:Nat):Int):=by
 have:=i32_or6 (x:=(x:Int)*64) (y:=(y:Int)) (by omega) (by omega) (by omega) (by omega) (by omega);rw[this];omega
theorem EG (B:Nat)(W:World)(k:Uk)(b:UInt8)(h:UkAt B W k)(h0:k.c.left≠0)(r:(b<k.c.low||k.c.high<b)=false) :
  Calls prog 154 #[.pointer (some ⟨B,0,none⟩),.int .u8 b.toNat] W (kJ B W k (ei k.c b)):=by
 have C:=qq h;have c0:=h.c0;have c1:=h.c1;have c2:=h.c2;have c3:=h.c3;have fz:=h.fz;have O:((k.c.left:Int)==0)=false:=qk.2 (by omega);have hs:=qq (show ei k.c b=some ⟨k.c.left - 1,128,191,k.c.x*64+(b&&&63).toNat⟩ by unfold ei;rw[if_neg h0,r,if_neg (by decide)]);have s:¬b.toNat<k.c.low.toNat∧¬k.c.high.toNat<b.toNat:=by simpa[UInt8.lt_iff_toNat_lt]using r
 have D:¬(b.toNat:Int)<k.c.low.toNat:=by omega
 have E:¬(k.c.high.toNat:Int)<b.toNat:=by omega
 have t:=qq (λc' e=>h.ok.step (b:=b) (c':=c') e);have N:=(iW b).2.2.2;haveI:Nonempty (Later (Gr W)):=⟨⟨W,Gr.refl W⟩⟩;have L:∀x:Later (Gr W),x.w.cell? ⟨B,0,none⟩=some (.int .i64 k.c.left):=λx=>x.ok.cell h.c0;have M:∀x:Later (Gr W),x.w.cell? ⟨B,3,none⟩=some (.int .i32 k.c.x):=λx=>x.ok.cell h.c3;obtain⟨J,z,m,n,o⟩:=h.ok;have A:k.c.x<33554432:=by
  have:k.c.left=1∨k.c.left=2∨k.c.left=3:=by omega
  rcases this with e | e | e
  ·have:=m e;omega
  ·have:=n e;omega
  ·have:=o e;omega
 clear h r s z m n o;go_enter func154,ntmps154;go_upto_region 9 with(fail);have F:(1:Int)≤k.c.left:=by omega
 have H:(k.c.left:Int)≤3:=by omega
 have I:IntKind.i64.wrap ((k.c.left:Int) - 1)=(k.c.left:Int) - 1:=IntWalk.i64_in _ (by omega);have g:(b&&&63).toNat<64:=by
  rw[UInt8.toNat_and];exact Nat.lt_of_le_of_lt Nat.and_le_right (by decide)
 have a:(b&&&63).toNat=b.toNat&&&63:=UInt8.toNat_and b 63;have d:bits .or .i32 ((k.c.x:Int)*64) (((b&&&63).toNat:Nat):Int)=((k.c.x*64+(b&&&63).toNat:Nat):Int):=or6 A g;have i:IntKind.i32.wrap ((k.c.x:Int)*64)=(k.c.x:Int)*64:=IntWalk.i32_in _ (by omega);have f:((b.toNat&&&63:Nat):Int)<64:=by omega
 have l:IntKind.i32.wrap ((b.toNat&&&63:Nat):Int)=((b.toNat&&&63:Nat):Int):=IntWalk.i32_in _ (by omega);have j:wrap32 ((b.toNat&&&63:Nat):Int)=((b.toNat&&&63:Nat):Int):=fh (by omega);have u:=qq (show bits .or .i32 (IntKind.i32.wrap ((k.c.x:Int)*64)) (IntKind.i32.wrap ((b.toNat&&&63:Nat):Int))=((k.c.x*64+(b&&&63).toNat:Nat):Int) by
  rw[i,l,←a];exact d)
 have v:=qq (show bits .or .i32 ((k.c.x:Int)*64) (wrap32 ((b.toNat&&&63:Nat):Int))=((k.c.x*64+(b&&&63).toNat:Nat):Int) by
  rw[j,←a];exact d)
 have y:=qq (show bits .or .i32 ((k.c.x:Int)*64) ((b.toNat&&&63:Nat):Int)=((k.c.x*64+(b&&&63).toNat:Nat):Int) by
  rw[←a];exact d)
 clear L M d i j l f a g;go_region_law (fail);all_goals
  go_wp2;go_ret;refine⟨by rw[hs.out];rfl,?_,(ch4 _ _ _ _).trans (Ch.drew _ _)⟩;rw[hs.out];have p:=(C.out.put (t.out _ hs.out)).gr (Gr.drew (Gr.refl _));have q:((k.c.left - 1:Nat):Int)=(k.c.left:Int) - 1:=by omega
  dsimp only at p;rw[q]at p;first
   |(rw[←u.out]at p;exact p)
   |(rw[←v.out]at p;exact p)
   |(rw[←y.out]at p;exact p)
theorem pW (B:Nat)(W:World)(k:Uk)(b:UInt8)(h:UkAt B W k) :
  Calls prog 154 #[.pointer (some ⟨B,0,none⟩),.int .u8 b.toNat] W (kJ B W k (ei k.c b)):=by
 by_cases h0:k.c.left=0
 ·exact EE B W k b h h0
 ·cases a:(b<k.c.low||k.c.high<b)with
  | true=>exact EF B W k b h h0 a
  | false=>exact EG B W k b h h0 a
