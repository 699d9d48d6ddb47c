/-
  The document's frames: their heads read. (Printed by mk_fa.py.)
-/
import Derived.Test.YtadobobfjnmdlaaGreatDoorEm
set_option linter.unnecessarySimpa false
set_option linter.unusedVariables false
set_option linter.unusedSimpArgs false
set_option maxHeartbeats 16000000
set_option maxRecDepth 100000
open Go.Proofs.Tryz
namespace Go.Proofs.YtadobobfjnmdlaaGreatDoor
open Go.RowKit Go.Shelf
attribute [local go_sem] Oper.semAt_some
def rU (op len:Nat):Value:=.agg #[.bool true,.bool false,.bool true,.int .i64 0,.int .i64 op,.int .u8 0,.int .u8 0,.int .u8 0,.int .u8 0,.int .u64 len]
theorem oG (op:Nat)(s l:List UInt8)(W:World)(h:op≤15)(hn:s.length≤125)(hl:UInt8.ofNat (128+op) :: UInt8.ofNat s.length :: s=l) :
  Calls prog 57 #[.string ⟨l.toArray⟩] W λe w'=>e=.returned (.tuple #[rU op s.length,.int .i64 2,.bool true])∧Gr W w':=by
 obtain⟨y0,k⟩:∃y,UInt8.ofNat (128+op)=y:=⟨_,rfl⟩;have q0:(y0.toNat:Int)=(op:Int)+128:=by rw[←k];simp[UInt8.toNat_ofNat'] <;> omega
 obtain⟨y1,m⟩:∃y,UInt8.ofNat s.length=y:=⟨_,rfl⟩;have q1:(y1.toNat:Int)=(s.length:Int):=by rw[←m];simp[UInt8.toNat_ofNat'] <;> omega
 rw[k,m]at hl;have C:l.length=s.length+2:=by rw[←hl];simp
 have T:0<l.length:=by omega
 have U:1<l.length:=by omega
 have x0:(⟨l.toArray⟩:ByteArray)[0]'(by rw[aj];exact T)=y0:=by subst hl;rfl
 have x1:(⟨l.toArray⟩:ByteArray)[1]'(by rw[aj];exact U)=y1:=by subst hl;rfl
 have m1:(s.length:Int).tmod 128=s.length:=Int.tmod_eq_of_lt (by omega) (by omega);have w1:IntKind.u64.wrap (s.length:Int)=s.length:=by simp[IntKind.wrap,IntKind.bits,IntKind.signed];omega
 have c1:((s.length:Int)==126)=false:=beq_false_of_ne (by omega);have c2:((s.length:Int)==127)=false:=beq_false_of_ne (by omega);have Z:¬(128:Int)≤s.length:=by omega
 have g2:¬(l.length:Int)<2:=by omega
 have d1:((op:Int)+128).tdiv 16=8:=by rw[Int.tdiv_eq_ediv_of_nonneg (by omega)];omega
 have d2:((op:Int)+128).tmod 16=op:=by rw[Int.tmod_eq_emod_of_nonneg (by omega)];omega
 have g0:(128:Int)≤(op:Int)+128:=by omega
 have c0:=qq C;clear k m C;go_enter func57,ntmps57;go_upto_region 4 with(fail);obtain⟨W2,a⟩:∃W2,(W.alloc (.cells #[.bool false,.bool false,.bool false,.int .i64 0,.int .i64 0,.int .u8 0,.int .u8 0,.int .u8 0,.int .u8 0,.int .u64 0] 96)).alloc (.cells #[.bool false,.bool false,.bool false,.int .i64 0,.int .i64 0,.int .u8 0,.int .u8 0,.int .u8 0,.int .u8 0,.int .u64 0] 96)=W2:=⟨_,rfl⟩;rw[a];obtain⟨X,f⟩:∃X,W.heap.size=X:=⟨_,rfl⟩;have z:Gr W W2:=by rw[←a];exact(Gr.alloc _ _).alloc1 _
 have a0:W2.cell? ⟨X,0,none⟩=some (.bool false):=by rw[←a,←f];simp[go_sem]
 have D:W2.cell? ⟨X+1,0,none⟩=some (.bool false):=by rw[←a,←f];simp[go_sem]
 have a1:W2.cell? ⟨X,1,none⟩=some (.bool false):=by rw[←a,←f];simp[go_sem]
 have E:W2.cell? ⟨X+1,1,none⟩=some (.bool false):=by rw[←a,←f];simp[go_sem]
 have a2:W2.cell? ⟨X,2,none⟩=some (.bool false):=by rw[←a,←f];simp[go_sem]
 have F:W2.cell? ⟨X+1,2,none⟩=some (.bool false):=by rw[←a,←f];simp[go_sem]
 have a3:W2.cell? ⟨X,3,none⟩=some (.int .i64 0):=by rw[←a,←f];simp[go_sem]
 have H:W2.cell? ⟨X+1,3,none⟩=some (.int .i64 0):=by rw[←a,←f];simp[go_sem]
 have a4:W2.cell? ⟨X,4,none⟩=some (.int .i64 0):=by rw[←a,←f];simp[go_sem]
 have I:W2.cell? ⟨X+1,4,none⟩=some (.int .i64 0):=by rw[←a,←f];simp[go_sem]
 have q:W2.cell? ⟨X,5,none⟩=some (.int .u8 0):=by rw[←a,←f];simp[go_sem]
 have J:W2.cell? ⟨X+1,5,none⟩=some (.int .u8 0):=by rw[←a,←f];simp[go_sem]
 have r:W2.cell? ⟨X,6,none⟩=some (.int .u8 0):=by rw[←a,←f];simp[go_sem]
 have L:W2.cell? ⟨X+1,6,none⟩=some (.int .u8 0):=by rw[←a,←f];simp[go_sem]
 have t:W2.cell? ⟨X,7,none⟩=some (.int .u8 0):=by rw[←a,←f];simp[go_sem]
 have M:W2.cell? ⟨X+1,7,none⟩=some (.int .u8 0):=by rw[←a,←f];simp[go_sem]
 have u:W2.cell? ⟨X,8,none⟩=some (.int .u8 0):=by rw[←a,←f];simp[go_sem]
 have N:W2.cell? ⟨X+1,8,none⟩=some (.int .u8 0):=by rw[←a,←f];simp[go_sem]
 have w:W2.cell? ⟨X,9,none⟩=some (.int .u64 0):=by rw[←a,←f];simp[go_sem]
 have O:W2.cell? ⟨X+1,9,none⟩=some (.int .u64 0):=by rw[←a,←f];simp[go_sem]
 have R:∀o,W2.frozen? ⟨X,o,none⟩=false:=λo=>by rw[←a,←f];simp[go_sem]
 have V:∀o,W2.frozen? ⟨X+1,o,none⟩=false:=λo=>by rw[←a,←f];simp[go_sem]
 have B:=qq f;have A:=qq z;rw[f];clear a f z;go_region;all_goals
  go_upto_region 17 with(fail);have j:=qq (A.out.trans (Gr.drew' W2));obtain⟨d,b⟩:∃d,W2.drew=d:=⟨_,rfl⟩;replace a0:d.cell? ⟨X,0,none⟩=some (.bool false):=by rw[←b];exact a0
  replace D:d.cell? ⟨X+1,0,none⟩=some (.bool false):=by rw[←b];exact D
  replace a1:d.cell? ⟨X,1,none⟩=some (.bool false):=by rw[←b];exact a1
  replace E:d.cell? ⟨X+1,1,none⟩=some (.bool false):=by rw[←b];exact E
  replace a2:d.cell? ⟨X,2,none⟩=some (.bool false):=by rw[←b];exact a2
  replace F:d.cell? ⟨X+1,2,none⟩=some (.bool false):=by rw[←b];exact F
  replace a3:d.cell? ⟨X,3,none⟩=some (.int .i64 0):=by rw[←b];exact a3
  replace H:d.cell? ⟨X+1,3,none⟩=some (.int .i64 0):=by rw[←b];exact H
  replace a4:d.cell? ⟨X,4,none⟩=some (.int .i64 0):=by rw[←b];exact a4
  replace I:d.cell? ⟨X+1,4,none⟩=some (.int .i64 0):=by rw[←b];exact I
  replace q:d.cell? ⟨X,5,none⟩=some (.int .u8 0):=by rw[←b];exact q
  replace J:d.cell? ⟨X+1,5,none⟩=some (.int .u8 0):=by rw[←b];exact J
  replace r:d.cell? ⟨X,6,none⟩=some (.int .u8 0):=by rw[←b];exact r
  replace L:d.cell? ⟨X+1,6,none⟩=some (.int .u8 0):=by rw[←b];exact L
  replace t:d.cell? ⟨X,7,none⟩=some (.int .u8 0):=by rw[←b];exact t
  replace M:d.cell? ⟨X+1,7,none⟩=some (.int .u8 0):=by rw[←b];exact M
  replace u:d.cell? ⟨X,8,none⟩=some (.int .u8 0):=by rw[←b];exact u
  replace N:d.cell? ⟨X+1,8,none⟩=some (.int .u8 0):=by rw[←b];exact N
  replace w:d.cell? ⟨X,9,none⟩=some (.int .u64 0):=by rw[←b];exact w
  replace O:d.cell? ⟨X+1,9,none⟩=some (.int .u64 0):=by rw[←b];exact O
  replace R:∀o,d.frozen? ⟨X,o,none⟩=false:=by rw[←b];exact R
  replace V:∀o,d.frozen? ⟨X+1,o,none⟩=false:=by rw[←b];exact V
  rw[b]at j;rw[b];clear b A;go_loopw [8,9,11] (λn x i wr=>n=.int .i64 2∧x=.int .u64 s.length∧i=.int .i64 0∧wr=d) (λ_ _ _ _=>0)
  case atStart=>exact⟨rfl,rfl,rfl,rfl⟩
  case round =>
   obtain⟨rfl,rfl,rfl,rfl⟩:=hrel;go_upto_region 35 with(fail);have Y:decide ((128:Int)≤s.length)=false:=decide_eq_false (by omega);rw[Y];obtain⟨g,c⟩:∃g,((((((wr.setCell ⟨X+1,0,none⟩ (.bool true)).setCell ⟨X+1,3,none⟩ (.int .i64 0)).setCell ⟨X+1,4,none⟩ (.int .i64 op)).setCell ⟨X+1,1,none⟩ (.bool false)).setCell ⟨X+1,9,none⟩ (.int .u64 s.length)).setCell ⟨X+1,2,none⟩ (.bool true))=g:=⟨_,rfl⟩;rw[c];have S:=qq (show Gr W g by
    have e:=B.out;rw[←c];exact(((((j.out.setCell (p:=⟨X+1,0,none⟩) (by show _≤X+1;omega) _).setCell (p:=⟨X+1,3,none⟩) (by show _≤X+1;omega) _).setCell (p:=⟨X+1,4,none⟩) (by show _≤X+1;omega) _).setCell (p:=⟨X+1,1,none⟩) (by show _≤X+1;omega) _).setCell (p:=⟨X+1,9,none⟩) (by show _≤X+1;omega) _).setCell (p:=⟨X+1,2,none⟩) (by show _≤X+1;omega) _)
   replace a0:g.cell? ⟨X,0,none⟩=some (.bool false):=(by rw[←c];simp[go_sem,a0]);replace D:g.cell? ⟨X+1,0,none⟩=some (.bool true):=(by rw[←c];simp[go_sem,D]);replace a1:g.cell? ⟨X,1,none⟩=some (.bool false):=(by rw[←c];simp[go_sem,a1]);replace E:g.cell? ⟨X+1,1,none⟩=some (.bool false):=(by rw[←c];simp[go_sem,E]);replace a2:g.cell? ⟨X,2,none⟩=some (.bool false):=(by rw[←c];simp[go_sem,a2]);replace F:g.cell? ⟨X+1,2,none⟩=some (.bool true):=(by rw[←c];simp[go_sem,F]);replace a3:g.cell? ⟨X,3,none⟩=some (.int .i64 0):=(by rw[←c];simp[go_sem,a3]);replace H:g.cell? ⟨X+1,3,none⟩=some (.int .i64 0):=(by rw[←c];simp[go_sem,H]);replace a4:g.cell? ⟨X,4,none⟩=some (.int .i64 0):=(by rw[←c];simp[go_sem,a4]);replace I:g.cell? ⟨X+1,4,none⟩=some (.int .i64 op):=(by rw[←c];simp[go_sem,I]);replace q:g.cell? ⟨X,5,none⟩=some (.int .u8 0):=(by rw[←c];simp[go_sem,q]);replace J:g.cell? ⟨X+1,5,none⟩=some (.int .u8 0):=(by rw[←c];simp[go_sem,J]);replace r:g.cell? ⟨X,6,none⟩=some (.int .u8 0):=(by rw[←c];simp[go_sem,r]);replace L:g.cell? ⟨X+1,6,none⟩=some (.int .u8 0):=(by rw[←c];simp[go_sem,L]);replace t:g.cell? ⟨X,7,none⟩=some (.int .u8 0):=(by rw[←c];simp[go_sem,t]);replace M:g.cell? ⟨X+1,7,none⟩=some (.int .u8 0):=(by rw[←c];simp[go_sem,M]);replace u:g.cell? ⟨X,8,none⟩=some (.int .u8 0):=(by rw[←c];simp[go_sem,u]);replace N:g.cell? ⟨X+1,8,none⟩=some (.int .u8 0):=(by rw[←c];simp[go_sem,N]);replace w:g.cell? ⟨X,9,none⟩=some (.int .u64 0):=(by rw[←c];simp[go_sem,w]);replace O:g.cell? ⟨X+1,9,none⟩=some (.int .u64 s.length):=(by rw[←c];simp[go_sem,O]);replace R:∀o,g.frozen? ⟨X,o,none⟩=false:=λo=>(by rw[←c];simp[go_sem,R]);clear V c j Y;go_wp2;exact bodyPost_ret (v:=.tuple #[rU op s.length,.int .i64 2,.bool true]) (by simp[results,results57,go_sem,rU,a0,a1,a2,a3,a4,q,r,t,u,w]) rfl ⟨rfl,Am S.out (Nat.le_of_eq B.out) _ _ _ _ _ _ _ _ _ _⟩
theorem rV (op:Nat)(s l:List UInt8)(W:World)(h:op≤15)(hn:125<s.length∧s.length≤65535)(hl:UInt8.ofNat (128+op) :: 126 :: UInt8.ofNat (s.length / 256) :: UInt8.ofNat (s.length % 256) :: s=l) :
  Calls prog 57 #[.string ⟨l.toArray⟩] W λe w'=>e=.returned (.tuple #[rU op s.length,.int .i64 4,.bool true])∧Gr W w':=by
 obtain⟨y0,k⟩:∃y,UInt8.ofNat (128+op)=y:=⟨_,rfl⟩;have q0:(y0.toNat:Int)=(op:Int)+128:=by rw[←k];simp[UInt8.toNat_ofNat'] <;> omega
 obtain⟨U,m⟩:∃y,UInt8.ofNat (s.length / 256)=y:=⟨_,rfl⟩;obtain⟨V,q⟩:∃y,UInt8.ofNat (s.length % 256)=y:=⟨_,rfl⟩;have q2:(U.toNat:Int)=((s.length / 256:Nat):Int):=by rw[←m];simp[UInt8.toNat_ofNat'] <;> omega
 have q3:(V.toNat:Int)=((s.length % 256:Nat):Int):=by rw[←q];simp[UInt8.toNat_ofNat'] <;> omega
 have t:=U.toNat_lt;have u:=V.toNat_lt;rw[k,m,q]at hl;have I:l.length=s.length+4:=by rw[←hl];simp
 have c0:0<l.length:=by omega
 have c1:1<l.length:=by omega
 have c2:2<l.length:=by omega
 have c3:3<l.length:=by omega
 have x0:(⟨l.toArray⟩:ByteArray)[0]'(by rw[aj];exact c0)=y0:=by subst hl;rfl
 have x1:(⟨l.toArray⟩:ByteArray)[1]'(by rw[aj];exact c1)=126:=by subst hl;rfl
 have x2:(⟨l.toArray⟩:ByteArray)[2]'(by rw[aj];exact c2)=U:=by subst hl;rfl
 have x3:(⟨l.toArray⟩:ByteArray)[3]'(by rw[aj];exact c3)=V:=by subst hl;rfl
 have c6:((126:UInt8).toNat:Int)=126:=rfl;have m1:(126:Int).tmod 128=126:=rfl;have g2:¬(l.length:Int)<2:=by omega
 have g4:¬(l.length:Int)<4:=by omega
 have j2:(2:Int)<l.length:=by omega
 have j3:(3:Int)<l.length:=by omega
 have d1:((op:Int)+128).tdiv 16=8:=by rw[Int.tdiv_eq_ediv_of_nonneg (by omega)];omega
 have d2:((op:Int)+128).tmod 16=op:=by rw[Int.tmod_eq_emod_of_nonneg (by omega)];omega
 have g0:(128:Int)≤(op:Int)+128:=by omega
 obtain⟨r,c7⟩:∃z:Int,(U.toNat:Int)=z:=⟨_,rfl⟩;obtain⟨Y3,c8⟩:∃z:Int,(V.toNat:Int)=z:=⟨_,rfl⟩;have v1:IntKind.u64.wrap (r*256)=r*256:=by simp[IntKind.wrap,IntKind.bits,IntKind.signed];omega
 have v2:IntKind.u64.wrap r=r:=by simp[IntKind.wrap,IntKind.bits,IntKind.signed];omega
 have v3:r*256+Y3=s.length:=by omega
 have v4:IntKind.u64.wrap (s.length:Int)=s.length:=by simp[IntKind.wrap,IntKind.bits,IntKind.signed];omega
 have c4:(125:Int)<s.length:=by omega
 have c5:=qq I;clear k m q I q2 q3 t u;go_enter func57,ntmps57;go_upto_region 4 with(fail);obtain⟨W2,a⟩:∃W2,(W.alloc (.cells #[.bool false,.bool false,.bool false,.int .i64 0,.int .i64 0,.int .u8 0,.int .u8 0,.int .u8 0,.int .u8 0,.int .u64 0] 96)).alloc (.cells #[.bool false,.bool false,.bool false,.int .i64 0,.int .i64 0,.int .u8 0,.int .u8 0,.int .u8 0,.int .u8 0,.int .u64 0] 96)=W2:=⟨_,rfl⟩;rw[a];obtain⟨X,f⟩:∃X,W.heap.size=X:=⟨_,rfl⟩;have E:Gr W W2:=by rw[←a];exact(Gr.alloc _ _).alloc1 _
 have a0:W2.cell? ⟨X,0,none⟩=some (.bool false):=by rw[←a,←f];simp[go_sem]
 have J:W2.cell? ⟨X+1,0,none⟩=some (.bool false):=by rw[←a,←f];simp[go_sem]
 have a1:W2.cell? ⟨X,1,none⟩=some (.bool false):=by rw[←a,←f];simp[go_sem]
 have L:W2.cell? ⟨X+1,1,none⟩=some (.bool false):=by rw[←a,←f];simp[go_sem]
 have a2:W2.cell? ⟨X,2,none⟩=some (.bool false):=by rw[←a,←f];simp[go_sem]
 have t:W2.cell? ⟨X+1,2,none⟩=some (.bool false):=by rw[←a,←f];simp[go_sem]
 have a3:W2.cell? ⟨X,3,none⟩=some (.int .i64 0):=by rw[←a,←f];simp[go_sem]
 have u:W2.cell? ⟨X+1,3,none⟩=some (.int .i64 0):=by rw[←a,←f];simp[go_sem]
 have a4:W2.cell? ⟨X,4,none⟩=some (.int .i64 0):=by rw[←a,←f];simp[go_sem]
 have M:W2.cell? ⟨X+1,4,none⟩=some (.int .i64 0):=by rw[←a,←f];simp[go_sem]
 have w:W2.cell? ⟨X,5,none⟩=some (.int .u8 0):=by rw[←a,←f];simp[go_sem]
 have N:W2.cell? ⟨X+1,5,none⟩=some (.int .u8 0):=by rw[←a,←f];simp[go_sem]
 have A:W2.cell? ⟨X,6,none⟩=some (.int .u8 0):=by rw[←a,←f];simp[go_sem]
 have O:W2.cell? ⟨X+1,6,none⟩=some (.int .u8 0):=by rw[←a,←f];simp[go_sem]
 have B:W2.cell? ⟨X,7,none⟩=some (.int .u8 0):=by rw[←a,←f];simp[go_sem]
 have R:W2.cell? ⟨X+1,7,none⟩=some (.int .u8 0):=by rw[←a,←f];simp[go_sem]
 have C:W2.cell? ⟨X,8,none⟩=some (.int .u8 0):=by rw[←a,←f];simp[go_sem]
 have S:W2.cell? ⟨X+1,8,none⟩=some (.int .u8 0):=by rw[←a,←f];simp[go_sem]
 have D:W2.cell? ⟨X,9,none⟩=some (.int .u64 0):=by rw[←a,←f];simp[go_sem]
 have T:W2.cell? ⟨X+1,9,none⟩=some (.int .u64 0):=by rw[←a,←f];simp[go_sem]
 have Y:∀o,W2.frozen? ⟨X,o,none⟩=false:=λo=>by rw[←a,←f];simp[go_sem]
 have zY:∀o,W2.frozen? ⟨X+1,o,none⟩=false:=λo=>by rw[←a,←f];simp[go_sem]
 have H:=qq f;have F:=qq E;rw[f];clear a f E;go_region;all_goals
  go_upto_region 17 with(fail);have j:=qq (F.out.trans (Gr.drew' W2));obtain⟨d,b⟩:∃d,W2.drew=d:=⟨_,rfl⟩;replace a0:d.cell? ⟨X,0,none⟩=some (.bool false):=by rw[←b];exact a0
  replace J:d.cell? ⟨X+1,0,none⟩=some (.bool false):=by rw[←b];exact J
  replace a1:d.cell? ⟨X,1,none⟩=some (.bool false):=by rw[←b];exact a1
  replace L:d.cell? ⟨X+1,1,none⟩=some (.bool false):=by rw[←b];exact L
  replace a2:d.cell? ⟨X,2,none⟩=some (.bool false):=by rw[←b];exact a2
  replace t:d.cell? ⟨X+1,2,none⟩=some (.bool false):=by rw[←b];exact t
  replace a3:d.cell? ⟨X,3,none⟩=some (.int .i64 0):=by rw[←b];exact a3
  replace u:d.cell? ⟨X+1,3,none⟩=some (.int .i64 0):=by rw[←b];exact u
  replace a4:d.cell? ⟨X,4,none⟩=some (.int .i64 0):=by rw[←b];exact a4
  replace M:d.cell? ⟨X+1,4,none⟩=some (.int .i64 0):=by rw[←b];exact M
  replace w:d.cell? ⟨X,5,none⟩=some (.int .u8 0):=by rw[←b];exact w
  replace N:d.cell? ⟨X+1,5,none⟩=some (.int .u8 0):=by rw[←b];exact N
  replace A:d.cell? ⟨X,6,none⟩=some (.int .u8 0):=by rw[←b];exact A
  replace O:d.cell? ⟨X+1,6,none⟩=some (.int .u8 0):=by rw[←b];exact O
  replace B:d.cell? ⟨X,7,none⟩=some (.int .u8 0):=by rw[←b];exact B
  replace R:d.cell? ⟨X+1,7,none⟩=some (.int .u8 0):=by rw[←b];exact R
  replace C:d.cell? ⟨X,8,none⟩=some (.int .u8 0):=by rw[←b];exact C
  replace S:d.cell? ⟨X+1,8,none⟩=some (.int .u8 0):=by rw[←b];exact S
  replace D:d.cell? ⟨X,9,none⟩=some (.int .u64 0):=by rw[←b];exact D
  replace T:d.cell? ⟨X+1,9,none⟩=some (.int .u64 0):=by rw[←b];exact T
  replace Y:∀o,d.frozen? ⟨X,o,none⟩=false:=by rw[←b];exact Y
  replace zY:∀o,d.frozen? ⟨X+1,o,none⟩=false:=by rw[←b];exact zY
  rw[b]at j;rw[b];clear b F;go_loopw [8,9,11] (λn x i wr=>wr=d∧((n=.int .i64 2∧x=.int .u64 0∧i=.int .i64 0)∨(n=.int .i64 3∧x=.int .u64 r∧i=.int .i64 1)∨(n=.int .i64 4∧x=.int .u64 s.length∧i=.int .i64 2))) (λ_ _ i _=>2 - (intOf i).toNat)
  case atStart=>exact⟨rfl,.inl ⟨rfl,rfl,rfl⟩⟩
  case round =>
   obtain⟨rfl,⟨rfl,rfl,rfl⟩ | ⟨rfl,rfl,rfl⟩ | ⟨rfl,rfl,rfl⟩⟩:=hrel
   ·go_wp2;go_roundw
    case rel=>first | exact⟨rfl,.inr (.inl ⟨rfl,rfl,rfl⟩)⟩ | simp
    case measure=>simp[intOf]
   ·go_wp2;go_roundw
    case rel=>first | exact⟨rfl,.inr (.inr ⟨rfl,rfl,rfl⟩)⟩ | simp
    case measure=>simp[intOf]
   ·go_upto_region 29 with(fail);go_upto_region 35 with(fail);obtain⟨g,c⟩:∃g,((((((wr.setCell ⟨X+1,0,none⟩ (.bool true)).setCell ⟨X+1,3,none⟩ (.int .i64 0)).setCell ⟨X+1,4,none⟩ (.int .i64 op)).setCell ⟨X+1,1,none⟩ (.bool false)).setCell ⟨X+1,9,none⟩ (.int .u64 s.length)).setCell ⟨X+1,2,none⟩ (.bool true))=g:=⟨_,rfl⟩;rw[c];have Z:=qq (show Gr W g by
     have e:=H.out;rw[←c];exact(((((j.out.setCell (p:=⟨X+1,0,none⟩) (by show _≤X+1;omega) _).setCell (p:=⟨X+1,3,none⟩) (by show _≤X+1;omega) _).setCell (p:=⟨X+1,4,none⟩) (by show _≤X+1;omega) _).setCell (p:=⟨X+1,1,none⟩) (by show _≤X+1;omega) _).setCell (p:=⟨X+1,9,none⟩) (by show _≤X+1;omega) _).setCell (p:=⟨X+1,2,none⟩) (by show _≤X+1;omega) _)
    replace a0:g.cell? ⟨X,0,none⟩=some (.bool false):=(by rw[←c];simp[go_sem,a0]);replace J:g.cell? ⟨X+1,0,none⟩=some (.bool true):=(by rw[←c];simp[go_sem,J]);replace a1:g.cell? ⟨X,1,none⟩=some (.bool false):=(by rw[←c];simp[go_sem,a1]);replace L:g.cell? ⟨X+1,1,none⟩=some (.bool false):=(by rw[←c];simp[go_sem,L]);replace a2:g.cell? ⟨X,2,none⟩=some (.bool false):=(by rw[←c];simp[go_sem,a2]);replace t:g.cell? ⟨X+1,2,none⟩=some (.bool true):=(by rw[←c];simp[go_sem,t]);replace a3:g.cell? ⟨X,3,none⟩=some (.int .i64 0):=(by rw[←c];simp[go_sem,a3]);replace u:g.cell? ⟨X+1,3,none⟩=some (.int .i64 0):=(by rw[←c];simp[go_sem,u]);replace a4:g.cell? ⟨X,4,none⟩=some (.int .i64 0):=(by rw[←c];simp[go_sem,a4]);replace M:g.cell? ⟨X+1,4,none⟩=some (.int .i64 op):=(by rw[←c];simp[go_sem,M]);replace w:g.cell? ⟨X,5,none⟩=some (.int .u8 0):=(by rw[←c];simp[go_sem,w]);replace N:g.cell? ⟨X+1,5,none⟩=some (.int .u8 0):=(by rw[←c];simp[go_sem,N]);replace A:g.cell? ⟨X,6,none⟩=some (.int .u8 0):=(by rw[←c];simp[go_sem,A]);replace O:g.cell? ⟨X+1,6,none⟩=some (.int .u8 0):=(by rw[←c];simp[go_sem,O]);replace B:g.cell? ⟨X,7,none⟩=some (.int .u8 0):=(by rw[←c];simp[go_sem,B]);replace R:g.cell? ⟨X+1,7,none⟩=some (.int .u8 0):=(by rw[←c];simp[go_sem,R]);replace C:g.cell? ⟨X,8,none⟩=some (.int .u8 0):=(by rw[←c];simp[go_sem,C]);replace S:g.cell? ⟨X+1,8,none⟩=some (.int .u8 0):=(by rw[←c];simp[go_sem,S]);replace D:g.cell? ⟨X,9,none⟩=some (.int .u64 0):=(by rw[←c];simp[go_sem,D]);replace T:g.cell? ⟨X+1,9,none⟩=some (.int .u64 s.length):=(by rw[←c];simp[go_sem,T]);replace Y:∀o,g.frozen? ⟨X,o,none⟩=false:=λo=>(by rw[←c];simp[go_sem,Y]);clear zY c j;go_wp2;exact bodyPost_ret (v:=.tuple #[rU op s.length,.int .i64 4,.bool true]) (by simp[results,results57,go_sem,rU,a0,a1,a2,a3,a4,w,A,B,C,D]) rfl ⟨rfl,Am Z.out (Nat.le_of_eq H.out) _ _ _ _ _ _ _ _ _ _⟩
end Go.Proofs.YtadobobfjnmdlaaGreatDoor
namespace Go
open Go.RowKit
def deadEnd:Frame:={ fn:=0,tmps:=#[],todo:=[.extern "" #[],.code (.exit 0)],defers:=[],mode:=.run,kind:=.normal }
theorem deadEnd_step (P:Program) (v:Value) (w:World):∃ o,step P (lone (deadEnd.finish v) [] w)=.ended o w :=
 ⟨_,step_lone_ended rfl⟩
theorem runN_det {P:Program}:∀ (n1 n2:Nat) (m x1 x2:Machine),runN P n1 m=.next x1→runN P n2 m=.next x2→(∀ y,step P x1≠.next y)→(∀ y,step P x2≠.next y)→x1=x2
 | 0,0,_,_,_,h1,h2,_,_=>by
  simp only[runN,Stepped.next.injEq] at h1 h2
  exact h1.symm.trans h2
 | 0,k+1,m,x1,x2,h1,h2,t1,_=>by
  simp only[runN,Stepped.next.injEq] at h1
  subst h1
  cases hs:step P m with
  | next y=>exact absurd hs (t1 y)
  | ended o w=>simp[runN,hs] at h2
 | k+1,0,m,x1,x2,h1,h2,_,t2=>by
  simp only[runN,Stepped.next.injEq] at h2
  subst h2
  cases hs:step P m with
  | next y=>exact absurd hs (t2 y)
  | ended o w=>simp[runN,hs] at h1
 | k+1,j+1,m,x1,x2,h1,h2,t1,t2=>by
  cases hs:step P m with
  | next y =>
   simp only[runN,hs] at h1 h2
   exact runN_det k j y x1 x2 h1 h2 t1 t2
  | ended o w=>simp[runN,hs] at h1
theorem Calls.agree {P:Program} {f:FuncId} {args:Array Value} {w:World} {v1 v2:Value} {R1 R2:World→Prop} (h1:Calls P f args w λe w'=>e=.returned v1∧R1 w')
  (h2:Calls P f args w λe w'=>e=.returned v2∧R2 w'):v1=v2:=by
 obtain⟨e1,w1,f1,⟨rfl,_⟩,s1,_,l1⟩:=h1 [deadEnd]
 obtain⟨e2,w2,f2,⟨rfl,_⟩,s2,_,l2⟩:=h2 [deadEnd]
 have t1:=Steps.trans s1 (Steps.head (step_leave_returned l1) (Steps.refl _ _))
 have t2:=Steps.trans s2 (Steps.head (step_leave_returned l2) (Steps.refl _ _))
 obtain⟨n1,r1⟩:=t1
 obtain⟨n2,r2⟩:=t2
 obtain⟨o1,e1⟩:=deadEnd_step P v1 w1
 obtain⟨o2,e2⟩:=deadEnd_step P v2 w2
 have:=runN_det n1 n2 _ _ _ r1 r2 (λy hy=>by rw[e1] at hy;cases hy) (λy hy=>by rw[e2] at hy;cases hy)
 have h:=congrArg (λm:Machine=>m.gs.map (λg=>g.frame.tmps)) this
 simpa[lone,deadEnd,Frame.finish] using h
section
variable {P:Program} {ops:Array Oper} {md:Region.Mode}
theorem oH {o:Oper}{a:Act}{g h:World→Prop}{W:World}{d e:Value}(b:o.quietAt P a g W d)(c:o.quietAt P a h W e):d=e:=by
 unfold Oper.quietAt at *;generalize (execOp a.eval o).run P W=r at *;cases r with
 | halt x w'=>exact b.elim
 | ok i w' =>
  cases i with
  | value u=>exact b.2.symm.trans c.2
  | skip=>exact b.2.trans c.2.symm
  | enter f args =>
   obtain⟨rfl,c1⟩:=b;exact Calls.agree c1 c.2
  | _=>exact b.elim
theorem By {o:Oper}{a:Act}{C:World→Prop}{W:World}{v:Value}{K:Act→World→Prop}{Q:Exit→Act→World→Prop}(h:o.quietAt P a C W v)(d:C W)
  (b:∀w',C w'→K (a.put o.dst v) w'):o.wp P a W K Q:=by
 unfold Oper.quietAt at h;unfold Oper.wp;generalize (execOp a.eval o).run P W=r at *;cases r with
 | halt x w'=>exact h.elim
 | ok i w' =>
  cases i with
  | value u =>
   obtain⟨rfl,rfl⟩:=h;exact b _ d
  | skip =>
   obtain⟨rfl,rfl⟩:=h;exact b _ d
  | enter f args =>
   obtain⟨rfl,c⟩:=h;rw[Oper.upon_enter];refine c.mono ?_;rintro e j⟨rfl,g⟩;exact b _ g
  | _=>exact h.elim
def DG (ops:Array Oper)(Y:Nat→Value→Act→Prop)(L:Act→Prop):Nat→Nat→Act→Prop
 | 0,_,a=>L a
 | f+1,k,a=>∃o v,ops[k]?=some o∧Y k v a∧DG ops Y L f (k+1) (a.put o.dst v)
def ph (md:Region.Mode)(ops:Array Oper)(Y:Nat→Value→Act→Prop)(n:Nat)(L:Array Bool→Act→Prop):Nat→Array Bool→Act→Prop
 | 0,listed,a=>L listed a
 | f+1,listed,a=>Region.ready md ops listed≠[]∧∀i∈Region.ready md ops listed,i<n∧∃o v,ops[i]?=some o∧Y i v a∧ph md ops Y n L f (listed.setIfInBounds i true) (a.put o.dst v)
def Bz (ops:Array Oper)(Y:Nat→Value→Act→Prop):Prop:=∀(i j:Nat) (oi oj:Oper),ops[i]?=some oi→ops[j]?=some oj→oi.apart ops oj=true →
 ∀(u v:Value) (a:Act),(Y j v (a.put oi.dst u)→Y j v a)∧(Y i v a→Y i v (a.put oj.dst u))
theorem rW {Y:Nat→Value→Act→Prop}{n i:Nat}{y:Oper}{v:Value}{L:Array Bool→Act→Prop}(R:Bz ops Y)(hi:ops[i]?=some y)
  (hs:Region.sinkB md ops n=true) (S:Region.chainB md ops n=true) (hn:n<ops.size) (A:i<n) (s:∀b a,L b a→∀j∈Region.ready md ops b,n≤j) :
  ∀(f:Nat) (b:Array Bool) (a:Act),HeadInv md ops n b →
   (∀j l,ops[j]?=some l→j≠i→b.getD j true=false→(∀e∈l.after,Region.binds md e=true→e.on≠i)→y.apart ops l=true) →
   i∈Region.ready md ops b→Y i v a→ph md ops Y n L f (b.setIfInBounds i true) (a.put y.dst v)→ph md ops Y n L (f+1) b a:=by
 intro f;induction f with
 | zero =>
  intro b a o _ q D H;have m:=(mem_ready.1 q).1;refine⟨λe=>(by rw[e]at q;cases q),λj t=>?_⟩;have g:j<n:=Nat.lt_of_not_le λw=>tail_waits hs S hn o _ i rfl A m j w t;by_cases c:j=i
  ·subst c;exact⟨g,y,v,hi,D,H⟩
  ·have:=s _ _ H j (ready_mono t c);omega
 | succ f X =>
  intro b a o d q D H;have m:=(mem_ready.1 q).1;refine⟨λe=>(by rw[e]at q;cases q),λj t=>?_⟩;have g:j<n:=Nat.lt_of_not_le λw=>tail_waits hs S hn o _ i rfl A m j w t;by_cases c:j=i
  ·subst c;exact⟨g,y,v,hi,D,H⟩
  ·obtain⟨p,l,h,z⟩:=mem_ready.1 t;have C:∀e∈l.after,Region.binds md e=true→e.on≠i:=λe V U E=>by
    have O:=z e V U;rw[E,getD_both m]at O;cases O
   have r:=d j l h c p C;obtain⟨_,Z,u,M,N,x⟩:=H.2 j (ready_mono t c);obtain rfl:l=Z:=Option.some.inj (h.symm.trans M);obtain⟨_,T,_⟩:=Oper.apart_spec r;refine⟨g,l,u,h,(R i j y l hi h r v u a).1 N,X _ _ (o.set t g) (λk ok W F I J=>d k ok W F ?_ J) (ready_mono q (Ne.symm c)) ((R i j y l hi h r u v a).2 D) ?_⟩
   ·by_cases B:j=k
    ·subst B;exact p
    ·rwa [getD_set_ne true B]at I
   ·rw[Array.setIfInBounds_comm _ _ c,←Act.put_comm a v u T];exact x
theorem pi {Y:Nat→Value→Act→Prop}{n g:Nat}{i:Act→Prop}(j:Bz ops Y)(hs:Region.sinkB md ops n=true)(l:Region.chainB md ops n=true)(hn:n<ops.size) :
  ∀(f k:Nat) (b:Array Bool) (a:Act),k+f=n→HeadInv md ops n b →
  Region.lexHead md ops g f k b=true→DG ops Y i f k a →
  ph md ops Y n (λc m=>Region.seqB md ops g n c=true∧i m) f b a
 | 0,k,b,a,hk,_,hB,h=>by
  obtain rfl:k=n:=by simpa using hk
  exact⟨by simpa[Region.lexHead]using hB,h⟩
 | f+1,k,b,a,hk,inv,hB,h=>by
  obtain⟨o,v,h0,r,p⟩:=h;simp only[Region.lexHead,Bool.and_eq_true]at hB;have d:k<n:=by omega
  have e:k∈Region.ready md ops b:=by simpa using hB.1.1
  exact rW j h0 hs l hn d (λ_ _ q=>seqB_ready q.1) f b a inv (Region.free_spec h0 hB.1.2) e r
   (pi j hs l hn f (k+1) _ _ (by omega) (inv.set e d) hB.2 p)
end
section
variable {P:Program} {ops:Array Oper} {md:Region.Mode}
def RelC (P:Program)(ops:Array Oper)(C:World→Prop)(o:Oper)(v:Value)(a:Act):Prop :=
 (Region.wanted o (yielded ops a.tmps)=true∧∀W,C W→o.quietAt P a (Gr W) W v)∨(Region.wanted o (yielded ops a.tmps)=false∧v=undef)
theorem RelC.of_same {C:World→Prop}{o:Oper}{v:Value}{a b:Act}(e:RelC P ops C o v a)(c:execOp b.eval o=execOp a.eval o)
  (d:Region.wanted o (yielded ops b.tmps)=Region.wanted o (yielded ops a.tmps)):RelC P ops C o v b:=by
 unfold RelC Oper.quietAt at *;rw[c,d];exact e
def kZ (P:Program)(C:World→Prop)(p:Nat)(z z':Obj)(o:Oper)(a:Act):Prop :=
 ∀W,C W→W.heap[p]?=some z→∃W',(execOp a.eval o).run P W=.ok .skip W'∧C W'∧W'.heap[p]?=some z'
def Yc (P:Program)(ops:Array Oper)(C:World→Prop)(p s:Nat)(z z':Obj)(i:Nat)(v:Value)(a:Act):Prop :=
 if i=s then ∃o,ops[i]?=some o∧o.guard=none∧kZ P C p z z' o a∧v=undef else ∃o,ops[i]?=some o∧RelC P ops C o v a
theorem DH {C:World→Prop}{p s:Nat}{z z':Obj}(m:Region.noSelect ops=true):Bz ops (Yc P ops C p s z z'):=by
 intro i j e f hi l q u v a;obtain⟨x,A,y⟩:=Oper.apart_spec q;have n:=Region.noSelect_spec m;refine⟨λh=>?_,λh=>?_⟩
 ·unfold Yc at *;have k:=execOp_put f (λcs b=>n j f cs b l) a e.dst u x;by_cases c:j=s
  ·simp only[c,if_true]at h ⊢;subst c;obtain⟨o,g,r,d,w⟩:=h;obtain rfl:f=o:=Option.some.inj (l.symm.trans g);unfold kZ at d;rw[k]at d;exact⟨f,l,r,d,w⟩
  ·simp only[c,if_false]at h ⊢;obtain⟨o,g,t⟩:=h;obtain rfl:f=o:=Option.some.inj (l.symm.trans g);exact⟨f,l,t.of_same k.symm (wanted_put f a e.dst u x).symm⟩
 ·unfold Yc at *;have k:=execOp_put e (λcs b=>n i e cs b hi) a f.dst u y;by_cases c:i=s
  ·simp only[c,if_true]at h ⊢;subst c;obtain⟨o,g,r,d,w⟩:=h;obtain rfl:e=o:=Option.some.inj (hi.symm.trans g);refine⟨e,hi,r,?_,w⟩;unfold kZ;rw[k];exact d
  ·simp only[c,if_false]at h ⊢;obtain⟨o,g,t⟩:=h;obtain rfl:e=o:=Option.some.inj (hi.symm.trans g);exact⟨e,hi,t.of_same k (wanted_put e a f.dst u y)⟩
theorem fd {Q:Exit→Act→World→Prop}{C:World→Prop}{p s n g:Nat}{z z':Obj}{T:Act→Prop}(hs:Region.sinkB md ops n=true)(A:Region.chainB md ops n=true)(hn:n<ops.size)(k:s<n)(E:0<g)
  (j:∀W B,C W→Gr W B→C B)
  (y:∀b a W,C W→W.heap[p]?=some z'→Region.seqB md ops g n b=true→T a→wpAny P md ops Q g b a W) :
  ∀(f:Nat) (b:Array Bool) (a:Act) (W:World),HeadInv md ops n b→C W→W.heap[p]?=some (if b.getD s false then z' else z) →
   ph md ops (Yc P ops C p s z z') n (λd X=>Region.seqB md ops g n d=true∧T X) f b a→wpAny P md ops Q (f+g) b a W
 | 0,b,a,W,inv,hW,hz,h=>by
  rw[Nat.zero_add];refine y _ _ _ hW ?_ h.1 h.2;cases q:b.getD s true with
  | true =>
   have:b.getD s false=true:=by
    have M:s<b.size:=(by rw[inv.size];omega);simpa[M]using q
   rw[this]at hz;simpa using hz
  | false =>
   exfalso;obtain⟨U,rfl⟩:∃U,g=U+1:=⟨g - 1,by omega⟩;have V:=h.1;simp only[Region.seqB,Bool.and_eq_true,decide_eq_true_eq]at V;exact tail_waits hs A hn inv _ s rfl k q n (qv _) (by rw[V.1];simp)
 | f+1,b,a,W,inv,hW,hz,h=>by
  rw[show f+1+g=(f+g)+1 by omega];refine⟨λe=>absurd e h.1,λi hi=>?_⟩;obtain⟨I,o,v,J,w,L⟩:=h.2 i hi;have c:=inv.set hi I;unfold Yc at w;unfold wpOp;simp only[J];by_cases l:i=s
  ·subst l;simp only[if_true]at w;obtain⟨S,m,F,N,rfl⟩:=w;obtain rfl:o=S:=Option.some.inj (J.symm.trans m);have O:=(mem_ready.1 hi).1;rw[getD_both O]at hz;obtain⟨B,r,D,R⟩:=N W hW (by simpa using hz);have t:Region.wanted o (yielded ops a.tmps)=true:=(by simp[Region.wanted,F]);simp only[t,if_true];refine .inl ?_;unfold Oper.wp;rw[r,Oper.upon_skip];refine fd hs A hn k E j y f _ _ _ c D ?_ L;have H:i<b.size:=(by rw[inv.size];omega);simpa[H]using R
  ·simp only[l,if_false]at w;obtain⟨S,m,hrel⟩:=w;obtain rfl:o=S:=Option.some.inj (J.symm.trans m);have x:(b.setIfInBounds i true).getD s false=b.getD s false:=getD_set_ne false l;rcases hrel with⟨t,Y⟩ | ⟨t,rfl⟩
   ·simp only[t,if_true];refine .inl (By (Y W hW) (Gr.refl _) λw' u=>?_);exact fd hs A hn k E j y f _ _ _ c (j _ _ hW u) (by rw[x];exact(Below.block u _ (Array.getElem?_eq_some_iff.1 hz).1).trans hz) L
   ·simp only[t];exact fd hs A hn k E j y f _ _ _ c hW (by rw[x];exact hz) L
end
theorem fS {P:Program}{l:List Oper}{C:World→Prop}{p s h0:Nat}{z z':Obj}{L Y:Act→Prop}{W0:World}(d:C W0)(hn:h0≤l.length)(hs:h0≤s)(g:Nat)
  (m:∀a,Y a→DG l.toArray (Yc P l.toArray C p s z z') L g h0 a) :
  ∀(f k:Nat) (a:Act),k+f=h0→wpQuiet P l.toArray C (λ_=>True) ((l.take h0).drop k) a→(∀W,C W→wpQuiet P l.toArray (Gr W) Y ((l.take h0).drop k) a)→DG l.toArray (Yc P l.toArray C p s z z') L (f+g) k a
 | 0,k,a,hk,_,h=>by
  have:=h _ d;rw[List.drop_eq_nil_of_le (by simp;omega)]at this;rw[Nat.zero_add];obtain rfl:k=h0:=by omega
  exact m _ this
 | f+1,k,a,hk,hc,h=>by
  rw[show f+1+g=(f+g)+1 by omega];have b:k<l.length:=by omega
  have i:k≠s:=by omega
  have j:(l.take h0).drop k=l[k] :: (l.take h0).drop (k+1):=by
   rw[List.drop_eq_getElem_cons (by simp;omega)];simp
  by_cases e:Region.wanted l[k] (yielded l.toArray a.tmps)=true
  ·rw[j]at hc;unfold wpQuiet at hc;rw[if_pos e]at hc;obtain⟨v,t,n⟩:=hc;have r:∀W,C W→l[k].quietAt P a (Gr W) W v∧wpQuiet P l.toArray (Gr W) Y ((l.take h0).drop (k+1)) (a.put l[k].dst v):=λW c=>by
    have:=h W c;rw[j]at this;unfold wpQuiet at this;rw[if_pos e]at this;obtain⟨w,q,u⟩:=this;obtain rfl:=oH (t W c) (q W (Gr.refl _));exact⟨q W (Gr.refl _),u⟩
   refine⟨l[k],v,by simp[b],?_,fS d hn hs g m f (k+1) _ (by omega) n λW c=>(r W c).2⟩;unfold Yc;simp only[i,if_false];exact⟨l[k],by simp[b],.inl ⟨e,λW c=>(r W c).1⟩⟩
  ·have o:Region.wanted l[k] (yielded l.toArray a.tmps)=false:=(by simpa using e);rw[j]at hc;unfold wpQuiet at hc;rw[if_neg e]at hc;refine⟨l[k],undef,by simp[b],?_,fS d hn hs g m f (k+1) _ (by omega) hc λW c=>?_⟩
   ·unfold Yc;simp only[i,if_false];exact⟨l[k],by simp[b],.inr ⟨o,rfl⟩⟩
   ·have:=h W c;rw[j]at this;unfold wpQuiet at this;rw[if_neg e]at this;exact this
theorem qr (C:World→Prop):(λw'=>∃x:Later C,w'=x.w)=C:=funext λw'=>propext ⟨λ⟨x,a⟩=>a▸x.ok,λh=>⟨⟨w',h⟩,rfl⟩⟩
theorem iY {P:Program}{L:Nat}{Q:Exit→Act→World→Prop}{a:Act}{w:World}{l:List Oper}(C:World→Prop)(s p:Nat){os:Oper}{z:Obj}(z':Obj)(i:l[s]?=some os)(r:os.guard=none)(q:os.dst=none)
  (E:P.follows .mixedOrders=true) (m:Region.lexTailB .any l.toArray (s+1)=true) (n:∀W v,C W→Gr W v→C v) (h0:C w.drew) (u:w.heap[p]?=some z)
  (y:wpQuiet P l.toArray (λw'=>∃x:Later C,w'=x.w) (λ_=>True) (l.take s) a)
  (A:∀W,C W→wpQuiet P l.toArray (λw'=>∃x:Later (Gr W),w'=x.w) (λc=>kZ P C p z z' os c∧∀w',C w'→w'.heap[p]?=some z'→wpList P l.toArray Q (l.drop (s+1)) c w') (l.take s) a) :
  (Code.region L l.toArray true).wp P Q a w:=by
 simp only[qr]at y A;simp only[Region.lexTailB,Bool.and_eq_true,decide_eq_true_eq]at m;obtain⟨⟨⟨⟨k,hn⟩,hs⟩,B⟩,h⟩:=m;have F:s+1<l.length:=by simpa using hn
 have f:(l.drop (s+1)).length=l.toArray.size - (s+1):=by simp
 have e:HeadInv .any l.toArray (s+1) (Array.replicate l.toArray.size false) :=
  ⟨by simp,λj M _ hl=>(by rw[getD_replicate_false]at hl;cases hl),λt _ J=>getD_in (by simpa using J) (getD_replicate_false _ _)⟩
 have H:ph .any l.toArray (Yc P l.toArray C p s z z') (s+1) (λb c=>Region.seqB .any l.toArray (l.toArray.size - (s+1)) (s+1) b=true∧(∀w',C w'→w'.heap[p]?=some z'→wpList P l.toArray Q (l.drop (s+1)) c w')) (s+1) (Array.replicate l.toArray.size false) a :=
  pi (DH k) hs B hn (s+1) 0 _ a (by omega) e h (fS (h0:=s) (s:=s) (z:=z) (z':=z') (Y:=λc=>kZ P C p z z' os c∧∀w',C w'→w'.heap[p]?=some z'→wpList P l.toArray Q (l.drop (s+1)) c w') h0 (by omega) (by omega) 1 (λc D =>
   ⟨os,undef,by simpa using i,by
    unfold Yc;rw[if_pos rfl];exact⟨os,by simpa using i,r,D.1,rfl⟩,by rw[q];exact D.2⟩) s 0 a (by omega) (by simpa using y) λW o=>by simpa using A W o)
 refine wp_region_any E ?_;have:=fd (P:=P) (md:=.any) (ops:=l.toArray) (Q:=Q) (g:=l.toArray.size - (s+1)) (z:=z) (z':=z') (p:=p) (s:=s) (C:=C) hs B hn (by omega) (by simp;omega) n (λd c W o u m I=>by
  have:=wpAny_of_seq (md:=.any) (Q':=Q) (l.drop (s+1)) (s+1) d c W (λj=>by simp[List.getElem?_drop]) (by rw[f];exact m) (I W o u)
  rwa [f]at this) (s+1) _ a w.drew e h0 (by rw[getD_replicate_false];exact u) H
 rw[show s+1+(l.toArray.size - (s+1))=l.toArray.size by omega]at this;exact this
