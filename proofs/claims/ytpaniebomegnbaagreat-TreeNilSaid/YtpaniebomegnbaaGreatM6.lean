import Derived.Test.YtpaniebomegnbaaGreatM5
import Derived.Maps.RangeWalk
set_option maxHeartbeats 8000000
set_option maxRecDepth 20000
namespace Go.Proofs.YtpaniebomegnbaaGreat
open Go Go.RowKit Coup
section
variable {Y:World->List Nat->Prop}[hYT:mW Y]{q jb mw N lo:Nat}{L M:List Nat}{G0 G V:Nat->Pg}{k:Nat}{F F2:sG}{c:sH}{w w':World}
theorem uV.AA(h:uV q jb mw N G0 G V k F c Y lo L w)(hr:Coup.row w' jb (jV F2 q mw) 131)(ho:Only jb w w'):uV q jb mw N G0 G V k F2 c Y lo L w':=
 ⟨h.p.only ho (.inr ig),hr,h.map.only ho (bW h.ne),h.was,h.ne,h.jl,h.ml⟩
omit hYT in
theorem uV.wN(h:uV q jb mw N G0 G V k F c Y lo L w):Coup.row w jb [.int .i64 (F.fresh:Int), .int .i64 (F.free:Int), .int .i64 (F.many:Int), .int .i64 (F.records:Int), .int .i64 (F.root:Int), .pointer (some ⟨q,0,none⟩), .map (some mw)] 131:=h.row
def rW(kind:Nat):View:=⟨kind,0,[]⟩
theorem Az{kind:Nat}(h:kind<=4):Good (rW kind):=⟨h,(by show(0:Nat)<2147483648;omega),(by show 12+4*0+0<=512;omega),(λr hr=>by cases hr),(by simp[rW])⟩
theorem Dw(kind:Nat)(hk:kind<=4)(w:World):CQ 133 [.int .i64 (kind:Int)] w (λv w'=>v= .tuple #[.agg (bv (oG (rW kind))).toArray, .int .i64 0]/\Below w.heap.size w w'):=
 (Qb (kind:Int) w).to λv w' ⟨a,c⟩=>⟨by rw[a,if_pos eu,aR];rfl,c⟩
def F1(F:sG)(nx:Nat):sG:=⟨F.fresh,nx,F.many - 1,F.records,F.root⟩
def Tf(F:sG):sG:=⟨F.fresh+1,F.free,F.many,F.records,F.root⟩
theorem Qs(h:Two (JZ q jb mw N G0 G V k F) Y lo L w)(kind:Nat)(hk:kind<=4)(hf0:1<=F.free)(hff:F.free<F.fresh)(hfN:F.fresh<=N)(hm1:1<=F.many)(hm2:F.many<=N){U:View}(hU:RL G F.free U)(hU0:U.kind=0):
  CQ 117 [.pointer (some ⟨jb,0,none⟩), .int .i64 (kind:Int)] w (λv w'=>v= .int .i64 (F.free:Int)/\Two (JZ q jb mw N G0 (tQ G F.free (oG (rW kind))) V k (F1 F U.next)) Y lo L w'/\mX lo L w w'):=by
 have X:=(Eg h).1;have p:=Ad (rW kind) (Az hk).size;have E:=uO (Az hk);have H:=uO hU.1;have r:=Dw kind hk;have s:∀ n (t:n<N) F L' w' (f:Two (JZ q jb mw N G0 G V k F) Y lo L' w'),CQ 162 [.pointer (some ⟨jb,0,none⟩), .int .i64 (n:Int), .agg (bv (oG (rW kind))).toArray] w' (λ_ w2=>Two (JZ q jb mw N G0 (tQ G n (oG (rW kind))) V k F) Y lo L' w2/\mX lo L' w' w2):=λn t F L' w' f=>PH f n t _ p
 have j:=λL' w' (f:Two (JZ q jb mw N G0 G V k F) Y lo L' w')=>JE f F.free 0 hf0 hff hfN hU hU0
 have u:=λw=>KV U w hU.1
 obtain⟨Q,I⟩:=aa (oG (rW kind));obtain⟨Z,J⟩:=aa (oG U);simp only[I]at s r E p |-;simp only[J]at j u H;obtain⟨fr,a0,g,v,y⟩:=F;dsimp only at hf0 hff hfN hm1 hm2 j |-;obtain⟨c,h⟩:=uU h;have a:=mX.refl lo L w;have e:=h.wN;have K:=h.jl;obtain⟨a1,a2⟩:=K;dsimp only at e;refine nP (fn:=Tryz.f117) (rs:=[.tmp 4]) (n:=68) Tryz.func117 rfl rfl Tryz.ntmps117 dA rfl<|mR<|nV<|mP<|mO (nW rfl)<|mO (nk 0)<|mO (nk 1)<|mO (mZ e)<|mV<|mQ<|ng<|mR<|mP<|mO (oD rfl rfl)<|mQ<|sU rfl (eu)<|mR<|mP<|mP<|mP<|nD (j _ w h.close) ?_;rintro _ M ⟨rfl,l,O⟩;obtain⟨c2,h⟩:=uU l;have e:=h.wN;replace a:=a.lq O;refine nD (u M) ?_;rintro _ a3 ⟨rfl,m⟩;replace h:=h.new m;replace a:=a.new m;replace e:=e.new m;refine mO (nW rfl)<|mO (nk 0)<|mO (nk 1)<|nH<|oW e<|λa4 e z=>?_
 replace a:=a.oq z;have h:=h.AA (F2:=⟨fr,U.next,g,v,y⟩) e z;refine mQ<|nM<|mP<|mO (nW rfl)<|mO (nk 0)<|mO (nk 2)<|mO (mZ e)<|mO (vE rfl rfl (show IntKind.i64.wrap ((g:Int) - 1)=((g - 1:Nat):Int) by rw[nN eu];omega))<|mO (nW rfl)<|mO (nk 0)<|mO (nk 2)<|nH<|oW e<|λP e A=>?_
 replace a:=a.oq A;have h:=h.AA (F2:=⟨fr,U.next,g - 1,v,y⟩) e A;refine pV<|mP<|nD (r P) ?_
 rintro _ a5 ⟨rfl,o⟩;replace a:=a.new o;replace e:=e.new o;replace h:=h.new o;refine mP<|mO (nJ rfl rfl)<|mO (nJ rfl rfl)<|nz<|nU (List.replicate 512 (Value.int .u8 0)) dA<|λR a6 B i C=>?_
 have a7:=a.size;have a8:jb<R:=ae e.lt B;replace a:=a.new C;replace h:=h.nA C B i.lt;refine nH<|nT 512 (bv Q) i<|λS i D=>?_
 replace a:=a.oq D;replace h:=h.only D eG;refine nV<|mP<|mP<|mO (oI 512 i)<|qi rfl (nX dA rfl) (s _ eu _ _ S h.close) ?_
 rintro _ a9 ⟨l,T⟩;replace a:=a.lq T;refine mD ?_;exact⟨rfl,l.weak (λb hb=>by simp[hb]),a⟩
theorem Qq(h:Two (JZ q jb mw N G0 G V k F) Y lo L w)(kind:Nat)(hk:kind<=4)(hf0:F.free=0)(hfN:F.fresh<N):
  CQ 117 [.pointer (some ⟨jb,0,none⟩), .int .i64 (kind:Int)] w (λv w'=>v= .int .i64 (F.fresh:Int)/\Two (JZ q jb mw N G0 (tQ G F.fresh (oG (rW kind))) V k (Tf F)) Y lo L w'/\mX lo L w w'):=by
 have U:=(Eg h).1;have o:=Ad (rW kind) (Az hk).size;have A:=uO (Az hk);have p:=Dw kind hk;have r:∀ n (s:n<N) F L' w' (f:Two (JZ q jb mw N G0 G V k F) Y lo L' w'),CQ 162 [.pointer (some ⟨jb,0,none⟩), .int .i64 (n:Int), .agg (bv (oG (rW kind))).toArray] w' (λ_ w2=>Two (JZ q jb mw N G0 (tQ G n (oG (rW kind))) V k F) Y lo L' w2/\mX lo L' w' w2):=λn s F L' w' f=>PH f n s _ o
 have B:=λL' w' (f:Two (GZ q N G V k) Y lo L' w')=>Jd f
 obtain⟨Q,C⟩:=aa (oG (rW kind));simp only[C]at r p A o |-;obtain⟨fr,X,D,E,H⟩:=F;dsimp only at hf0 hfN |-;subst hf0;obtain⟨c,h⟩:=uU h;have Z:∀ b∈L,b<w.heap.size:=λb hb=>h.p.lt b jP
 have a0:=h.p.lo;have a:=mX.refl lo L w;have e:=h.wN;have I:=h.jl;obtain⟨a1,a2⟩:=I;dsimp only at e;refine nP (fn:=Tryz.f117) (rs:=[.tmp 4]) (n:=68) Tryz.func117 rfl rfl Tryz.ntmps117 dA rfl<|mR<|nV<|mP<|mO (nW rfl)<|mO (nk 0)<|mO (nk 1)<|mO (mZ e)<|mV<|mQ<|ng<|mR<|mP<|mO (oD rfl rfl)<|mQ<|pJ rfl (ig)<|ng<|ng<|vK (lo) ((jb::L)) dA ?_
 intro J j a3 K;replace h:=h.new j;replace a:=a.new j;replace e:=e.new j;have t:=e;refine mU 0 (nK)<|mU 1 (nW rfl)<|mU 2 (nk 0)<|mU 3 (nk 0)<|nI 4 (λw' l=>mZ (t.kL l))<|mU 5 (nK)<|mU 6 (nW rfl)<|mU 7 (nk 5)<|nI 8 (λw' l=>mZ (t.kL l))<|nS 9 dA<|qf rfl rfl (nX dA rfl) (B _ J h.p) ?_
 rintro _ a4 ⟨rfl,g⟩;have M:=K.add0 g;refine⟨M,?_⟩;replace h:=h.new g;replace a:=a.new g;replace e:=e.new g;refine mU 10 (qy rfl rfl)<|oL dA<|ny<|pJ rfl (eu)<|nL<|ny<|mR<|mP<|mO (nW rfl)<|mO (nk 0)<|mO (nk 0)<|mO (mZ e)<|mV<|mQ<|nM<|mP<|mO (nW rfl)<|mO (nk 0)<|mO (nk 0)<|mO (mZ e)<|mO (om rfl rfl (show IntKind.i64.wrap ((fr:Int)+1)=((fr+1:Nat):Int) by rw[nN eu];omega))<|mO (nW rfl)<|mO (nk 0)<|mO (nk 0)<|nH<|oW e<|λO e u=>?_
 replace a:=a.oq u;have h:=h.AA (F2:=⟨fr+1,0,D,E,H⟩) e u;refine pV<|mP<|nD (p O) ?_
 rintro _ a5 ⟨rfl,m⟩;replace a:=a.new m;replace e:=e.new m;replace h:=h.new m;refine mP<|mO (nJ rfl rfl)<|mO (nJ rfl rfl)<|nz<|nU (List.replicate 512 (Value.int .u8 0)) dA<|λP a6 v i y=>?_
 have a7:=a.size;have a8:jb<P:=ae e.lt v;replace a:=a.new y;replace h:=h.nA y v i.lt;refine nH<|nT 512 (bv Q) i<|λR i z=>?_
 replace a:=a.oq z;replace h:=h.only z eG;refine nV<|mP<|mP<|mO (oI 512 i)<|nD (r _ (hfN) _ _ R h.close) ?_
 rintro _ a9 ⟨S,T⟩;replace a:=a.lq T;refine mD ?_;exact⟨rfl,S.weak (λb hb=>by simp[hb]),a⟩
theorem Pd(h:Two (JZ q jb mw N G0 G V k F) Y lo L w)(kind:Nat)(hk:kind<=4)(hf0:F.free=0)(hfN:F.fresh=N):
  Calls Tryz.prog 117 [.pointer (some ⟨jb,0,none⟩), .int .i64 (kind:Int)].toArray w (sM (λ_ _=>False) λcn w'=>cn=pe (xw 8)/\Two (JZ q jb mw N G0 G V k F) Y lo L w'/\mX lo L w w'):=by
 have H:=(Eg h).1;have l:=Ad (rW kind) (Az hk).size;have r:=uO (Az hk);have s:=Dw kind hk;have t:∀ n (m:n<N) F L' w' (f:Two (JZ q jb mw N G0 G V k F) Y lo L' w'),CQ 162 [.pointer (some ⟨jb,0,none⟩), .int .i64 (n:Int), .agg (bv (oG (rW kind))).toArray] w' (λ_ w2=>Two (JZ q jb mw N G0 (tQ G n (oG (rW kind))) V k F) Y lo L' w2/\mX lo L' w' w2):=λn m F L' w' f=>PH f n m _ l
 have u:=λL' w' (f:Two (GZ q N G V k) Y lo L' w')=>Jd f
 obtain⟨Q,v⟩:=aa (oG (rW kind));simp only[v]at t s r l |-;obtain⟨fr,I,J,K,M⟩:=F;dsimp only at hf0 hfN |-;subst hf0;subst hfN;obtain⟨c,h⟩:=uU h;have O:∀ b∈L,b<w.heap.size:=λb hb=>h.p.lt b jP
 have P:=h.p.lo;have a:=mX.refl lo L w;have e:=h.wN;have y:=h.jl;obtain⟨R,S⟩:=y;dsimp only at e;refine vQ (fn:=Tryz.f117) (rs:=[.tmp 4]) (n:=68) Tryz.func117 rfl rfl Tryz.ntmps117 dA rfl<|mR<|nV<|mP<|mO (nW rfl)<|mO (nk 0)<|mO (nk 1)<|mO (mZ e)<|mV<|mQ<|ng<|mR<|mP<|mO (oD rfl rfl)<|mQ<|pJ rfl (ig)<|ng<|ng<|vK (lo) ((jb::L)) dA ?_
 intro z g T A;replace h:=h.new g;replace a:=a.new g;replace e:=e.new g;have o:=e;refine mU 0 (nK)<|mU 1 (nW rfl)<|mU 2 (nk 0)<|mU 3 (nk 0)<|nI 4 (λw' i=>mZ (o.kL i))<|mU 5 (nK)<|mU 6 (nW rfl)<|mU 7 (nk 5)<|nI 8 (λw' i=>mZ (o.kL i))<|nS 9 dA<|qf rfl rfl (nX dA rfl) (u _ z h.p) ?_
 rintro _ B ⟨rfl,j⟩;have C:=A.add0 j;refine⟨C,?_⟩;replace h:=h.new j;replace a:=a.new j;refine mU 10 (qy rfl rfl)<|oL dA<|ny<|sU rfl (rfl)<|nM<|vG rfl (nX dA rfl) (DY 8 iT B) ((λc w' ⟨D,p⟩=>vP ⟨D,by rw[<-p];exact h.close,by rw[<-p];exact a⟩)) ?_;rintro _ _ E;exact E.elim
def zT(F:sG):View:=⟨0,F.free,[]⟩
def Fb(F:sG)(n:Nat):sG:=⟨F.fresh,n,F.many+1,F.records,F.root⟩
theorem LW(h:Two (JZ q jb mw N G0 G V k F) Y lo L w)(n:Nat)(hn:n<N)(hfe:F.free<=N)(hma:F.many<=N):
  CQ 110 [.pointer (some ⟨jb,0,none⟩), .int .i64 (n:Int)] w (λ_ w'=>Two (JZ q jb mw N G0 (tQ G n (oG (zT F))) V k (Fb F n)) Y lo L w'/\mX lo L w w'):=by
 have a6:=(Eg h).1;have i:=Az (kind:=0) eu;have A:Good (zT F):=⟨i.kind,(by show F.free<2147483648;omega),i.size,i.cell,i.last⟩;have B:=Ad (zT F) A.size;have R:=uO A;have S:=uO i;have C:=Dw 0 eu;have l:∀ w,CQ 161 [.agg (bv (oG (rW 0))).toArray, .int .i64 (F.free:Int)] w (λv w'=>v= .tuple #[.agg (bv (oG (zT F))).toArray, .int .i64 0]/\Below w.heap.size w w'):=λw=>Kq (rW 0) F.free w i eu
 have D:∀ F2 L' w' (E:Two (JZ q jb mw N G0 G V k F2) Y lo L' w'),CQ 162 [.pointer (some ⟨jb,0,none⟩), .int .i64 (n:Int), .agg (bv (oG (zT F))).toArray] w' (λ_ w2=>Two (JZ q jb mw N G0 (tQ G n (oG (zT F))) V k F2) Y lo L' w2/\mX lo L' w' w2):=λF2 L' w' E=>PH E n hn _ B
 obtain⟨Q,T⟩:=aa (oG (zT F));obtain⟨P0,U⟩:=aa (oG (rW 0));simp only[T]at D l R B |-;simp only[U]at C l S;obtain⟨fr,a7,m,H,I⟩:=F;dsimp only at hfe hma l |-;obtain⟨c,h⟩:=uU h;have X:∀ b∈L,b<w.heap.size:=λb hb=>h.p.lt b jP
 have a8:=h.p.lo;have f:=mX.refl lo L w;have a:=h.wN;have Z:=h.jl;obtain⟨a9,b0⟩:=Z;dsimp only at a;refine nP (fn:=Tryz.f110) (rs:=[]) (n:=38) Tryz.func110 rfl rfl Tryz.ntmps110 dA rfl<|mR<|nD (C w) ?_
 rintro _ b1 ⟨rfl,s⟩;replace h:=h.new s;replace f:=f.new s;replace a:=a.new s;refine mP<|mO (nJ rfl rfl)<|mO (nJ rfl rfl)<|nz<|nU (List.replicate 512 (Value.int .u8 0)) dA<|λJ b2 K g t=>?_
 have b3:=f.size;have o:jb<J:=ae a.lt K;replace h:=h.nA t K g.lt;replace f:=f.new t;replace a:=a.new t;refine nH<|nT 512 (bv P0) g<|λb4 g u=>?_
 replace h:=h.only u eG;replace f:=f.oq u;replace a:=a.only u (ai o);refine mV<|mQ<|ng ?_
 have b5:=f.size;have b6:=g.lt;have b7:J∉jb::L:=λe=>by
  rcases ak.1 e with e|e
  .omega
  .have:=X _ e;omega
 refine vK lo ((jb::L)) dA ?_;intro a0 p b8 M;replace h:=h.new p;replace f:=f.new p;replace a:=a.new p;replace g:=g.new p;have b9:=h;have c4:=f;have a1:=a;have c5:=g;refine mU 1 (nK)<|mU 2 (nW rfl)<|mU 3 (nk 0)<|mU 4 (nk 1)<|nI 5 (λw' a2=>mZ (a1.kL a2))<|nS 0 dA<|Ap rfl rfl (oI 512 g) M<|nS 6 dA<|qf rfl rfl (nX dA rfl) (l a0) ?_
 rintro _ c6 ⟨rfl,j⟩;have O:=M.add0 j;refine⟨O,?_⟩;replace h:=h.new j;replace f:=f.new j;replace a:=a.new j;replace g:=g.new j;refine mU 7 (nK)<|mU 8 (nJ rfl rfl)<|mU 9 (nJ rfl rfl)<|nS 10 dA<|qR rfl rfl<|nT 512 (bv Q) g<|λa3 g r=>?_
 have a4:=O.add1 r iD;refine⟨a4,?_⟩;replace h:=h.only r eG;replace f:=f.oq r;replace a:=a.only r (ai o);refine oL dA<|ny<|mR<|mP<|mP<|mO (oI 512 g)<|nD (D _ _ a3 h.close) ?_
 rintro _ c7 ⟨a5,P⟩;obtain⟨c2,h⟩:=uU a5;have a:=h.wN;dsimp only at a;replace f:=f.lq P;replace g:=g.kl P;refine pV<|mP<|mP<|mO (nW rfl)<|mO (nk 0)<|mO (nk 1)<|nH<|oW a<|λc8 a y=>?_
 replace f:=f.oq y;replace g:=g.only y (bA o);have h:=h.AA (F2:=⟨fr,n,m,H,I⟩) a y;refine mQ<|nM<|mP<|mO (nW rfl)<|mO (nk 0)<|mO (nk 2)<|mO (mZ a)<|mO (om rfl rfl (show IntKind.i64.wrap ((m:Int)+1)=((m+1:Nat):Int) by rw[nN eu];omega))<|mO (nW rfl)<|mO (nk 0)<|mO (nk 2)<|nH<|oW a<|λc9 a z=>?_
 replace f:=f.oq z;replace g:=g.only z (bA o);have h:=h.AA (F2:=⟨fr,n,m+1,H,I⟩) a z;refine lS ?_;exact⟨(h.weak (λb hb=>by simp[hb])).close,f⟩
end
def nv(l:List Nat):List Value:=l.map fun(n:Nat)=>.int .i64 (n:Int)
theorem Cc(l:List Nat):(nv l).length=l.length:=aQ ..
section
variable {Y:World->List Nat->Prop}[hYT:mW Y]{q jb mw N lo:Nat}{L:List Nat}{G0 G V:Nat->Pg}{k:Nat}{F:sG}{w:World}
end
section
variable {Y:World->List Nat->Prop}[hYT:mW Y]{q jb mw N lo:Nat}{L:List Nat}{G0 G V:Nat->Pg}{k:Nat}{F:sG}{w:World}
theorem OA(h:Two (JZ q jb mw N G0 G V k F) Y lo L w)(p s:Int)(hf:p<1\/(F.fresh:Int)<=p):
   Calls Tryz.prog 235 [.pointer (some ⟨jb,0,none⟩), .agg #[.int .i64 p, .int .i64 s]].toArray w (sM (λ_ _=>False) λcn w'=>cn=pe (xw 6)/\Two (JZ q jb mw N G0 G V k F) Y lo L w'/\mX lo L w w'):=by
 obtain⟨c,h⟩:=uU h;have a:=mX.refl lo L w;have e:=h.wN;have y:=h.jl;obtain⟨fr,z,A,B,C⟩:=F;dsimp only at e hf |-;refine vQ (fn:=Tryz.f235) (rs:=[.tmp 4]) (n:=42) Tryz.func235 rfl rfl Tryz.ntmps235 dA rfl<|mR<|nz<|oV ([.int .i64 p, .int .i64 s]) rfl<|λr D t i k=>?_
 replace h:=h.nA k t i.lt;replace a:=a.new k;replace e:=e.new k;refine mV<|mQ<|ng<|ng<|vK (lo) ((r::jb::L)) dA ?_
 intro o j E G;replace h:=h.new j;replace a:=a.new j;replace e:=e.new j;replace i:=i.new j;have u:=e;have q:=i;refine mU 0 (nk 0)<|nI 1 (λw' f=>mZ (q.kL f))<|mU 2 (pE rfl rfl)<|mU 3 (nK)<|DJ 11 rfl (λv=>?_)<|λv=>?_
 ·
  refine oK 4 dA rfl<|oK 5 dA rfl<|oK 6 dA rfl<|oK 7 dA rfl<|oK 8 dA rfl<|oK 9 dA rfl<|oK 10 dA rfl<|oK 11 dA rfl<|mU 12 (pO rfl)<|oL dA<|ny<|yj rfl<|nM<|vG rfl (nX dA rfl) (DY 6 iT o) ((λc w' ⟨l,g⟩=>vP ⟨l,by rw[<-g];exact(h.weak (λb hb=>by simp[hb])).close,by rw[<-g];exact a⟩)) ?_
  rintro _ _ m;exact m.elim
 ·
  refine mU 4 (nk 0)<|nI 5 (λw' f=>mZ (q.kL f))<|mU 6 (nK)<|mU 7 (nW rfl)<|mU 8 (nk 0)<|mU 9 (nk 0)<|nI 10 (λw' f=>mZ (u.kL f))<|mU 11 (tN rfl rfl)<|mU 12 (oo rfl)<|oL dA<|ny<|sU rfl (eu)<|nM<|vG rfl (nX dA rfl) (DY 6 iT o) ((λc w' ⟨l,g⟩=>vP ⟨l,by rw[<-g];exact(h.weak (λb hb=>by simp[hb])).close,by rw[<-g];exact a⟩)) ?_
  rintro _ _ m;exact m.elim
theorem PY(h:Two (JZ q jb mw N G0 G V k F) Y lo L w)(n:Nat)(s:Int)(h1:1<=n)(hf:n<F.fresh)(hfN:F.fresh<=N){U:View}(hU:RL G n U)(hk1:zX U.slots s=false\/U.kind≠1):
  Calls Tryz.prog 235 [.pointer (some ⟨jb,0,none⟩), .agg #[.int .i64 (n:Int), .int .i64 s]].toArray w (sM (λ_ _=>False) λcn w'=>cn=pe (xw 6)/\Two (JZ q jb mw N G0 G V k F) Y lo L w'/\mX lo L w w'):=by
 cases hh:zX U.slots s with
 |false=>
 rw[hh]at hk1;have a1:=(Eg h).1;have t:=λc L' w' (E:uV q jb mw N G0 G V k F c Y lo L' w')=>Ql E n eu
 have l:=λw'=>SB U s w' hU.1
 have v:=λw'=>MW U w' hU.1
 have H:=uO hU.1;simp only[hU.2]at t;obtain⟨Q,I⟩:=aa (oG U);obtain⟨a2,J⟩:=aa (U.kind);obtain⟨a3,K⟩:=aa (zN U.slots s);simp only[I]at t l v H;simp only[J]at v hk1;simp only[K]at l |-;simp only[hh]at l;obtain⟨c,h⟩:=uU h;have a:=mX.refl lo L w;have g:=h.wN;have a4:=h.jl;obtain⟨fr,a5,a6,a7,a8⟩:=F;dsimp only at g hf |-;refine vQ (fn:=Tryz.f235) (rs:=[.tmp 4]) (n:=42) Tryz.func235 rfl rfl Tryz.ntmps235 dA rfl<|mR<|nz<|oV ([.int .i64 (n:Int), .int .i64 s]) rfl<|λz a9 M f u=>?_
 replace h:=h.nA u M f.lt;replace a:=a.new u;replace g:=g.new u;refine mV<|mQ<|ng<|ng<|vK (lo) ((z::jb::L)) dA ?_
 intro O m b0 b1;replace h:=h.new m;replace a:=a.new m;replace g:=g.new m;replace f:=f.new m;have P:=g;have A:=f;refine mU 0 (nk 0)<|nI 1 (λw' j=>mZ (A.kL j))<|mU 2 (pE rfl rfl)<|mU 3 (nK)<|Aw 11 rfl (eu)<|mU 4 (nk 0)<|nI 5 (λw' j=>mZ (A.kL j))<|mU 6 (nK)<|mU 7 (nW rfl)<|mU 8 (nk 0)<|mU 9 (nk 0)<|nI 10 (λw' j=>mZ (P.kL j))<|mU 11 (tN rfl rfl)<|mU 12 (oo rfl)<|oL dA<|ny<|pJ rfl (eu)<|nL<|ny<|mR<|mP<|mO (nk 0)<|mO (mZ f)<|nD (t _ _ O h) ?_
 rintro _ b2 ⟨rfl,h,B⟩;have g:=h.wN;replace a:=a.lq B;replace f:=f.kl B;refine nz<|nU (List.replicate 512 (Value.int .u8 0)) dA<|λD b3 y i p=>?_
 have b4:jb<D:=ae g.lt y;have R:z<D:=ae f.lt y;replace h:=h.nA p y i.lt;replace a:=a.new p;replace g:=g.new p;replace f:=f.new p;refine nH<|nT 512 (bv Q) i<|λS i r=>?_
 replace h:=h.only r eG;replace a:=a.oq r;replace g:=g.only r (ai b4);replace f:=f.only r (ai R);refine pV<|mO (oI 512 i)<|mO (nk 1)<|mO (mZ f)<|nD (l S) ?_
 rintro _ T ⟨⟨b5,b6,rfl,b7,b8,b9⟩,o⟩;replace h:=h.new o;replace a:=a.new o;replace g:=g.new o;replace f:=f.new o;replace i:=i.new o;refine mP<|mO (nJ rfl rfl)<|mO (nJ rfl rfl)<|mV<|mV<|mQ<|ng<|mR<|mP<|mO (oD rfl rfl)<|mP<|zU 35 rfl (ig)<|nE<|nE<|nE<|mO (pO rfl)<|mQ<|yj rfl<|nM<|vG rfl (nX dA rfl) (DY 6 iT T) ((λc w' ⟨X,C⟩=>vP ⟨X,by rw[<-C];exact(h.weak (λb hb=>by simp[hb])).close,by rw[<-C];exact a⟩)) ?_;rintro _ _ Z;exact Z.elim
 |true=>
 rw[hh]at hk1;have a1:=(Eg h).1;have t:=λc L' w' (E:uV q jb mw N G0 G V k F c Y lo L' w')=>Ql E n eu
 have l:=λw'=>SB U s w' hU.1
 have v:=λw'=>MW U w' hU.1
 have H:=uO hU.1;simp only[hU.2]at t;obtain⟨Q,I⟩:=aa (oG U);obtain⟨a2,J⟩:=aa (U.kind);obtain⟨a3,K⟩:=aa (zN U.slots s);simp only[I]at t l v H;simp only[J]at v hk1;simp only[K]at l |-;simp only[hh]at l;obtain⟨c,h⟩:=uU h;have a:=mX.refl lo L w;have g:=h.wN;have a4:=h.jl;obtain⟨fr,a5,a6,a7,a8⟩:=F;dsimp only at g hf |-;refine vQ (fn:=Tryz.f235) (rs:=[.tmp 4]) (n:=42) Tryz.func235 rfl rfl Tryz.ntmps235 dA rfl<|mR<|nz<|oV ([.int .i64 (n:Int), .int .i64 s]) rfl<|λz a9 M f u=>?_
 replace h:=h.nA u M f.lt;replace a:=a.new u;replace g:=g.new u;refine mV<|mQ<|ng<|ng<|vK (lo) ((z::jb::L)) dA ?_
 intro O m b0 b1;replace h:=h.new m;replace a:=a.new m;replace g:=g.new m;replace f:=f.new m;have P:=g;have A:=f;refine mU 0 (nk 0)<|nI 1 (λw' j=>mZ (A.kL j))<|mU 2 (pE rfl rfl)<|mU 3 (nK)<|Aw 11 rfl (eu)<|mU 4 (nk 0)<|nI 5 (λw' j=>mZ (A.kL j))<|mU 6 (nK)<|mU 7 (nW rfl)<|mU 8 (nk 0)<|mU 9 (nk 0)<|nI 10 (λw' j=>mZ (P.kL j))<|mU 11 (tN rfl rfl)<|mU 12 (oo rfl)<|oL dA<|ny<|pJ rfl (eu)<|nL<|ny<|mR<|mP<|mO (nk 0)<|mO (mZ f)<|nD (t _ _ O h) ?_
 rintro _ b2 ⟨rfl,h,B⟩;have g:=h.wN;replace a:=a.lq B;replace f:=f.kl B;refine nz<|nU (List.replicate 512 (Value.int .u8 0)) dA<|λD b3 y i p=>?_
 have R:z<D:=ae f.lt y;replace h:=h.nA p y i.lt;replace a:=a.new p;replace f:=f.new p;refine nH<|nT 512 (bv Q) i<|λS i r=>?_
 replace h:=h.only r eG;replace a:=a.oq r;replace f:=f.only r (ai R);refine pV<|mO (oI 512 i)<|mO (nk 1)<|mO (mZ f)<|nD (l S) ?_
 rintro _ T ⟨⟨b5,b6,rfl,b7,b8,b9⟩,o⟩;replace h:=h.new o;replace a:=a.new o;replace i:=i.new o;refine mP<|mO (nJ rfl rfl)<|mO (nJ rfl rfl)<|mV<|mV<|mQ<|ng<|mR<|mP<|mO (oD rfl rfl)<|mP<|rD 35 rfl (ig)<|mY<|mO (oI 512 i)<|mY<|nD (v T) ?_;rintro _ c4 ⟨rfl,a0⟩;replace h:=h.new a0;replace a:=a.new a0;refine mY<|mO (oD rfl rfl)<|mO (oo rfl)<|mQ<|sU rfl ((hk1.elim (λe=>by cases e) (λe=>eu)))<|nM<|vG rfl (nX dA rfl) (DY 6 iT c4) ((λc w' ⟨X,C⟩=>vP ⟨X,by rw[<-C];exact(h.weak (λb hb=>by simp[hb])).close,by rw[<-C];exact a⟩)) ?_;rintro _ _ Z;exact Z.elim
end
section
variable {Y:World->List Nat->Prop}[hYT:mW Y]{q jb mw N lo:Nat}{L:List Nat}{G0 G V:Nat->Pg}{k:Nat}{F:sG}{w:World}
end
structure HS where
 F:sG
 S:Nat->View
def qx(S:Nat->View)(n:Nat)(U:View):Nat->View:=λi=>if i=n then U else S i
theorem uI(S:Nat->View)(n:Nat)(U:View):qx S n U n=U:=if_pos rfl
theorem sP{S:Nat->View}{n i:Nat}{U:View}(h:i≠n):qx S n U i=S i:=if_neg h
theorem zf.frame{S S':Nat->View}:∀ {l:List Nat} {n:Nat},zf S n l->(∀ m∈l,S' m=S m)->zf S' n l
 |[],_,h,_=>h
 |m::l,n,⟨h1,h2,h3⟩,he=>⟨h1,h2,by rw[he m ig];exact zf.frame h3 λi a=>he i kr⟩
theorem zf.set{S:Nat->View}{l:List Nat}{n m:Nat}{U:View}(h:zf S n l)(hm:m∉l):zf (qx S m U) n l:=h.frame λi a=>sP λe=>hm (e▸a)
structure qO(N:Nat)(H:HS)(fl:List Nat):Prop where
 f1:1<=H.F.fresh
 fN:H.F.fresh<=N
 gd:∀ n,1<=n->n<H.F.fresh->Good (H.S n)
 ch:zf H.S H.F.free fl
 fk:∀ n∈fl,1<=n/\n<H.F.fresh/\(H.S n).kind=0
 nd:fl.Nodup
 fm:fl.length=H.F.many
 rc:H.F.records<H.F.fresh
 rt:H.F.root<N
structure GS(z:Nat->Pg)(G:Nat->Pg)(H:HS):Prop where
 s:∀ n,1<=n->n<H.F.fresh->G n=oG (H.S n)
 z0:G 0=z 0
 u:∀ n,H.F.fresh<=n->G n=z n
theorem GS.fr{z:Nat->Pg}{G:Nat->Pg}{H H2:HS}(h:GS z G H)(hf:H2.F.fresh=H.F.fresh)(hS:H2.S=H.S):GS z G H2:=⟨λn a c=>by rw[hS];exact h.s n a eu,h.z0,λn a=>h.u n eu⟩
theorem qO.isV{N:Nat}{H:HS}{fl:List Nat}{z:Nat->Pg}{G:Nat->Pg}(h:qO N H fl)(hG:GS z G H){n:Nat}(h1:1<=n)(h2:n<H.F.fresh):RL G n (H.S n):=⟨h.gd n h1 h2,hG.s n h1 h2⟩
theorem JU:∀ (n a:Nat) (l:List Nat),l.Nodup->(∀ x∈l,a<=x/\x<a+n)->l.length<=n
 |0,a,l,_,h=>by
  cases l with
  |nil=>exact ax 0
  |cons x t=>have:=h x ig;omega
 |n+1,a,l,hn,h=>by
  by_cases f:a+n∈l
  .have i:=JU n a (l.erase (a+n)) (hn.erase _) λx c=>by
    have g:=(hn.mem_erase_iff).1 c;have:=h x g.2;omega
   rw[List.length_erase_of_mem f]at i;omega
  .have:=JU n a l hn λx c=>by
    have g:=h x c;have:x≠a+n:=λe=>f (e▸c)
    omega
   omega
theorem qO.many{N:Nat}{H:HS}{fl:List Nat}(h:qO N H fl):H.F.many<H.F.fresh:=by
 have c:=h.fm;have e:=h.f1;have f:=JU (H.F.fresh - 1) 1 fl h.nd λn a=>by
  have:=h.fk n a;omega
 omega
theorem qO.free{N:Nat}{H:HS}{fl:List Nat}(h:qO N H fl):(H.F.free=0/\fl=[])\/(∃ t,fl=H.F.free::t/\1<=H.F.free/\H.F.free<H.F.fresh/\(H.S H.F.free).kind=0/\1<=H.F.many/\zf H.S (H.S H.F.free).next t):=by
 have a:=h.ch;cases hfl:fl with
 |nil=>rw[hfl]at a;exact .inl ⟨a,rfl⟩
 |cons m t=>
  rw[hfl]at a;obtain⟨e,g,f⟩:=a;subst e;have c:=h.fk H.F.free (by rw[hfl];simp);refine .inr ⟨t,rfl,c.1,c.2.1,c.2.2,?_,f⟩;rw[<-h.fm,hfl];simp
def uZ(N:Nat)(H:HS)(kind:Nat):Option (Nat × HS):=
 if H.F.free≠0 then some (H.F.free,⟨F1 H.F (H.S H.F.free).next,qx H.S H.F.free (rW kind)⟩)
 else if H.F.fresh=N then none
 else some (H.F.fresh,⟨Tf H.F,qx H.S H.F.fresh (rW kind)⟩)
structure GM(N:Nat)(H:HS)(fl:List Nat)(kind n:Nat)(H':HS)(fl':List Nat):Prop where
 ok:qO N H' fl'
 sub:∀ i∈fl',i∈fl
 ni:n∉fl'
 n1:1<=n
 nf:n<H'.F.fresh
 new:H'.S n=rW kind
 old:∀ i,i≠n->H'.S i=H.S i
 grow:H.F.fresh<=H'.F.fresh
 was:n∈fl\/H.F.fresh=n
 cov:∀ i∈fl,i=n\/i∈fl'
 fre:H'.F.fresh=H.F.fresh\/n=H.F.fresh/\H'.F.fresh=H.F.fresh+1
 rec_:H'.F.records=H.F.records
 root:H'.F.root=H.F.root
theorem QV{N:Nat}{H:HS}{fl:List Nat}{kind n:Nat}{H':HS}(h:qO N H fl)(hk:kind<=4)(he:uZ N H kind=some (n,H')):∃ fl',GM N H fl kind n H' fl':=by
 unfold uZ at he;rcases h.free with⟨l,c⟩|⟨t,c,m,o,u,v,p⟩
 .rw[if_neg eu]at he
  split at he
  .cases he
  .rename_i w
   cases he;have q:=h.f1;have y:=h.fN;refine⟨[],⟨?_,?_,?_,l,λi a=>(by cases a),fE,?_,?_,h.rt⟩,λi a=>(by cases a),ig,q,gY _,uI ..,λi a=>sP a,Nat.le_succ _, .inr rfl,(λi a=>by rw[c]at a;cases a), .inr ⟨rfl,rfl⟩,rfl,rfl⟩
   .show 1<=H.F.fresh+1;omega
   .show H.F.fresh+1<=N;omega
   .intro i g j
    have z:i<H.F.fresh+1:=j;show Good (qx H.S H.F.fresh (rW kind) i)
    by_cases e:i=H.F.fresh
    .rw[e,uI];exact Az hk
    .rw[sP e];exact h.gd i g eu
   .have:=h.fm;rw[c]at this;exact this
   .have:=h.rc;show H.F.records<H.F.fresh+1;omega
 .rw[if_pos eu]at he
  cases he;have f:=h.nd;rw[c,df]at f;have r:=h.rc;refine⟨t,⟨h.f1,h.fN,?_,p.set f.1,?_,f.2,?_,r,h.rt⟩,λi a=>(by rw[c];simp[a]),f.1,m,o,uI ..,λi a=>sP a,ax _, .inl (by rw[c];simp),(λi a=>by rw[c]at a;exact ak.1 a), .inl rfl,rfl,rfl⟩
  .intro i g j
   show Good (qx H.S H.F.free (rW kind) i)
   by_cases e:i=H.F.free
   .rw[e,uI];exact Az hk
   .rw[sP e];exact h.gd i g j
  .intro i a
   have s:i≠H.F.free:=λe=>f.1 (e▸a)
   have k:=h.fk i (by rw[c];simp[a]);refine⟨k.1,k.2.1,?_⟩;show(qx H.S H.F.free (rW kind) i).kind=0;rw[sP s];exact k.2.2
  .have:=h.fm
   rw[c,aD]at this;show t.length=H.F.many - 1;omega
theorem zr1{N:Nat}{H:HS}{fl fl':List Nat}{kind n:Nat}{H':HS}{z:Nat->Pg}{G:Nat->Pg}(hG:GS z G H)(h:GM N H fl kind n H' fl')(hH:qO N H fl)(hfr:H'.F.fresh=H.F.fresh\/n=H.F.fresh/\H'.F.fresh=H.F.fresh+1):GS z (tQ G n (oG (rW kind))) H':=by
 refine⟨λi a g=>?_,(if_neg λe=>by have:=h.n1;omega:tQ G n _ 0=G 0).trans hG.z0,λi c=>(if_neg λe=>by have:=h.nf;omega:tQ G n _ i=G i).trans (hG.u i (ag h.grow c))⟩;unfold tQ
 split
 .rename_i e;rw[e,h.new]
 .rename_i e
  rw[h.old i e];exact hG.s i a (by rcases hfr with f|⟨f,j⟩<;>omega)
theorem GG{N:Nat}{H:HS}{kind:Nat}(h:1<=H.F.free):uZ N H kind=some (H.F.free,⟨F1 H.F (H.S H.F.free).next,qx H.S H.F.free (rW kind)⟩):=by
 unfold uZ;rw[if_pos eu]
theorem EU{N:Nat}{H:HS}{kind:Nat}(h:H.F.free=0)(hN:H.F.fresh<N):uZ N H kind=some (H.F.fresh,⟨Tf H.F,qx H.S H.F.fresh (rW kind)⟩):=by
 unfold uZ;rw[if_neg eu,if_neg eu]
theorem EM{N:Nat}{H:HS}{kind:Nat}(h:H.F.free=0)(hN:H.F.fresh=N):uZ N H kind=none:=by
 unfold uZ;rw[if_neg eu,if_pos hN]
section
variable {Y:World->List Nat->Prop}[hYT:mW Y]{q jb mw N lo:Nat}{L:List Nat}{G0 G V:Nat->Pg}{k:Nat}{H:HS}{fl:List Nat}{w:World}
structure JH(q jb mw N:Nat)(G0 V:Nat->Pg)(k:Nat)(H:HS)(fl:List Nat)(Y:World->List Nat->Prop)(lo:Nat)(L:List Nat)(w:World):Prop where
 ok:qO N H fl
 ex:∃ G,GS G0 G H/\Two (JZ q jb mw N G0 G V k H.F) Y lo L w
def JF(q jb mw N:Nat)(G0 V:Nat->Pg)(k:Nat)(Y:World->List Nat->Prop)(lo:Nat)(L:List Nat)(w:World):Prop:=∃ G F,Two (JZ q jb mw N G0 G V k F) Y lo L w
omit hYT in
theorem JH.fail(h:JH q jb mw N G0 V k H fl Y lo L w):JF q jb mw N G0 V k Y lo L w:=let ⟨G,_,h2⟩:=h.ex;⟨G,H.F,h2⟩
theorem NR(h:JH q jb mw N G0 V k H fl Y lo L w)(kind:Nat)(hk:kind<=4):Calls Tryz.prog 117 [.pointer (some ⟨jb,0,none⟩), .int .i64 (kind:Int)].toArray w
  (sM (λv w'=>∃ n H' fl',uZ N H kind=some (n,H')/\GM N H fl kind n H' fl'/\v= .int .i64 (n:Int)/\JH q jb mw N G0 V k H' fl' Y lo L w'/\mX lo L w w') (λc w'=>uZ N H kind=none/\c=pe (xw 8)/\JF q jb mw N G0 V k Y lo L w'/\mX lo L w w')):=by
 obtain⟨a,G,l,m⟩:=h;have y:=a.many;have r:=a.fN;rcases a.free with⟨k,s⟩|⟨t,s,o,p,u,w,z⟩
 .by_cases q:H.F.fresh=N
  .exact(Pd m kind hk k q).zM (λ_ _ h=>h.elim) λc w' ⟨f,g,i⟩=>⟨EM k q,f,⟨G,H.F,g⟩,i⟩
  .have j:=EU (kind:=kind) k (show H.F.fresh<N by omega)
   obtain⟨fl',e⟩:=QV a hk j;exact(Qq m kind hk k eu).toP λv w' ⟨f,g,i⟩=>⟨_,_,fl',j,e,f,⟨e.ok,_,zr1 l e a (.inr ⟨rfl,rfl⟩),g⟩,i⟩
 .have j:=GG (N:=N) (kind:=kind) o
  obtain⟨fl',e⟩:=QV a hk j;exact(Qs m kind hk o p r w eu (a.isV l o p) u).toP λv w' ⟨f,g,i⟩=>⟨_,_,fl',j,e,f,⟨e.ok,_,zr1 l e a (.inl rfl),g⟩,i⟩
theorem UY(h:JH q jb mw N G0 V k H fl Y lo L w)(n:Nat)(h1:1<=n)(h2:n<H.F.fresh):CQ 109 [.pointer (some ⟨jb,0,none⟩), .int .i64 (n:Int)] w (λv w'=>v= .agg (bv (oG (H.S n))).toArray/\JH q jb mw N G0 V k H fl Y lo L w'/\mX lo L w w'):=by
 obtain⟨a,G,c,e⟩:=h;have j:=a.fN;exact(JX e n eu).to λv w' ⟨f,g,i⟩=>⟨by rw[f,c.s n h1 h2],⟨a,G,c,g⟩,i⟩
theorem qO.set(h:qO N H fl){n:Nat}{U:View}(hn:n∉fl)(hU:Good U):qO N ⟨H.F,qx H.S n U⟩ fl:=
 ⟨h.f1,h.fN,λi c f=>by
  show Good (qx H.S n U i)
  by_cases e:i=n
  .rw[e,uI];exact hU
  .rw[sP e];exact h.gd i c f,h.ch.set hn,λi a=>by
  have:=h.fk i a;have g:i≠n:=λe=>hn (e▸a)
  refine⟨this.1,this.2.1,?_⟩;show(qx H.S n U i).kind=0;rw[sP g];exact this.2.2,h.nd,h.fm,h.rc,h.rt⟩
theorem GS.set{z:Nat->Pg}(h:GS z G H){n:Nat}{U:View}(hn:1<=n)(hf:n<H.F.fresh):GS z (tQ G n (oG U)) ⟨H.F,qx H.S n U⟩:=⟨λi f a=>by
 show tQ G n (oG U) i=oG (qx H.S n U i);unfold tQ qx
 split
 .rfl
 .exact h.s i f a,(if_neg λe=>by omega:tQ G n _ 0=G 0).trans h.z0,λi c=>(if_neg λe=>by have a:H.F.fresh<=i:=c;omega:tQ G n _ i=G i).trans (h.u i c)⟩
namespace JH
variable {w':World}{M L2:List Nat}{gc:Nat}
theorem new(h:JH q jb mw N G0 V k H fl Y lo L w)(hb:Below w.heap.size w w'):JH q jb mw N G0 V k H fl Y lo L w':=let ⟨G,h1,h2⟩:=h.ex;⟨h.ok,G,h1,h2.new hb⟩
theorem nA(h:JH q jb mw N G0 V k H fl Y lo L w)(hb:Below w.heap.size w w')(hg:w.heap.size<=gc)(hg':gc<w'.heap.size):JH q jb mw N G0 V k H fl Y lo (gc::L) w':=let ⟨G,h1,h2⟩:=h.ex;⟨h.ok,G,h1,h2.nA hb hg hg'⟩
omit hYT in
theorem n48(h:JH q jb mw N G0 V k H fl Y lo L w):N<=2048/\4<=N:=let ⟨_,_,h2⟩:=h.ex;⟨(Eg h2).1,(Eg h2).2.1⟩
end JH
end
def Qu(b:List UInt8)(i:Nat):List UInt8:=(b.drop (400*i)).take 400
section
variable {Y:World->List Nat->Prop}[hYT:mW Y]{q jb mw N lo:Nat}{L:List Nat}{G0 V:Nat->Pg}{k:Nat}{H:HS}{fl:List Nat}{w:World}
theorem ztW{kd nx:Nat}{r:List UInt8}(hk:kd<=4)(hn:nx<2147483648)(hr:r.length<=400):Good ⟨kd,nx,[some r]⟩:=
 ⟨hk,hn,(by show 12+4*1+(r.length+0)<=512;omega),(λc a=>by simp at a;subst a;exact hr),ig⟩
theorem Dn(kd:Nat)(hk:kd<=4)(pr:Option Addr)(cr:Nat)(r:List UInt8)(w:World)(hr:nC w pr r.length 1 (bv r))(h4:r.length<=400):Calls Tryz.prog 134 [.agg (bv (oG (rW kd))).toArray, .slice pr r.length cr].toArray w
  (pX λv w'=>v= .tuple #[.agg (bv (oG ⟨kd,0,[some r]⟩)).toArray, .int .i64 0, .int .i64 0]/\Below w.heap.size w w'):=by
 have a:yI (rW kd) r=0:=by
  unfold yI Dv;rw[if_neg eu,if_neg];show¬512<12+4*1+(r.length+0);omega
 have e:BM (rW kd) r=oG ⟨kd,0,[some r]⟩:=by unfold BM;rw[if_pos a];rfl
 have c:=NS (rW kd) pr cr r w (Az hk) hr;rw[e,a]at c;exact c
end
structure Av(H:HS)(rl:List Nat):Prop where
 ch:zf H.S H.F.records rl
 at_:∀ m∈rl,1<=m/\m<H.F.fresh/\(H.S m).kind=1
 nd:rl.Nodup
theorem Av.ni{N:Nat}{H:HS}{fl rl:List Nat}(h:Av H rl)(hH:qO N H fl){m:Nat}(hm:m∈rl):m∉fl:=λa=>by
 have c:=(h.at_ m hm).2.2;have e:=(hH.fk m a).2.2;omega
theorem ztX{kd nx:Nat}(hk:kd<=4)(hn:nx<2147483648):Good ⟨kd,nx,[]⟩:=⟨hk,hn,(by show 12+4*0+0<=512;omega),(λr hr=>by cases hr),ig⟩
section
variable {Y:World->List Nat->Prop}[hYT:mW Y]{q jb mw N lo:Nat}{L:List Nat}{G0 V:Nat->Pg}{k:Nat}{H:HS}{fl:List Nat}{w:World}
end
def wD(H:HS)(n:Nat):HS:=⟨Fb H.F n,qx H.S n (zT H.F)⟩
theorem qO.Bw{N:Nat}{H:HS}{fl:List Nat}(h:qO N H fl):H.F.free<H.F.fresh:=by
 have:=h.f1;rcases h.free with⟨a,_⟩|⟨t,_,_,c,_⟩<;>omega
theorem qO.back{N:Nat}{H:HS}{fl:List Nat}(h:qO N H fl)(hN:N<=2048){n:Nat}(h1:1<=n)(h2:n<H.F.fresh)(hn:n∉fl):qO N (wD H n) (n::fl):=by
 have k:=h.Bw;have l:=h.fN;refine⟨h.f1,h.fN,λi f g=>?_,⟨rfl,?_,?_⟩,λi a=>?_,df.2 ⟨hn,h.nd⟩,?_,h.rc,h.rt⟩
 .show Good (qx H.S n (zT H.F) i)
  by_cases e:i=n
  .rw[e,uI];exact ztX eu eu
  .rw[sP e];exact h.gd i f g
 .show n≠0;omega
 .show zf (qx H.S n (zT H.F)) (qx H.S n (zT H.F) n).next fl
  rw[uI];exact h.ch.set hn
 .rcases ak.1 a with e|a
  .rw[e]
   refine⟨h1,h2,?_⟩;show(qx H.S n (zT H.F) n).kind=0;rw[uI];rfl
  .have c:=h.fk i a
   have j:i≠n:=λe=>hn (e▸a)
   refine⟨c.1,c.2.1,?_⟩;show(qx H.S n (zT H.F) i).kind=0;rw[sP j];exact c.2.2
 .have:=h.fm
  rw[aD,this];rfl
section
variable {Y:World->List Nat->Prop}[hYT:mW Y]{q jb mw N lo:Nat}{L:List Nat}{G0 V:Nat->Pg}{k:Nat}{H:HS}{fl:List Nat}{w:World}
theorem QB(h:JH q jb mw N G0 V k H fl Y lo L w)(n:Nat)(h1:1<=n)(h2:n<H.F.fresh)(hn:n∉fl):CQ 110 [.pointer (some ⟨jb,0,none⟩), .int .i64 (n:Int)] w (λ_ w'=>JH q jb mw N G0 V k (wD H n) (n::fl) Y lo L w'/\mX lo L w w'):=by
 have c:=h.n48.1;obtain⟨a,G,e,f⟩:=h;have j:=a.fN;have k:=a.Bw;have l:=a.many;exact(LW f n eu eu eu).to λv w' ⟨g,i⟩=>⟨⟨a.back c h1 h2 hn,_,(e.set h1 h2).fr rfl rfl,g⟩,i⟩
end
structure Tz(H:HS)(x:Nat)(l:List Nat)(b:List UInt8):Prop where
 ch:zf H.S x l
 at_:∀ m∈l,1<=m/\m<H.F.fresh/\(H.S m).kind=2
 sl:∀ i m,l[i]?=some m->(H.S m).slots=[some (Qu b i)]
 nd:l.Nodup
 b1:400<=b.length
 b2:b.length<=20000
 nl:l.length=(b.length+399) / 400
section
variable {Y:World->List Nat->Prop}[hYT:mW Y]{q jb mw N lo:Nat}{L:List Nat}{G0 V:Nat->Pg}{k:Nat}{H:HS}{fl:List Nat}{w:World}
end
def CellIs(H:HS)(c b:List UInt8)(l:List Nat):Prop:=(b.length<400/\c=0::b/\l=[])\/∃ x,x<2048/\c=1::(nZ 4 b.length++nZ 4 x)/\Tz H x l b
theorem Tz.frame{H H':HS}{x:Nat}{l:List Nat}{b:List UInt8}(h:Tz H x l b)(hf:H.F.fresh<=H'.F.fresh)(he:∀ m∈l,H'.S m=H.S m):Tz H' x l b:=
 ⟨h.ch.frame he,λm a=>by have:=h.at_ m a;rw[he m a];exact⟨this.1,eu,this.2.2⟩,λi m a=>by rw[he m (aN a)];exact h.sl i m a,h.nd,h.b1,h.b2,h.nl⟩
theorem CellIs.frame{H H':HS}{c b:List UInt8}{l:List Nat}(h:CellIs H c b l)(hf:H.F.fresh<=H'.F.fresh)(he:∀ m∈l,H'.S m=H.S m):CellIs H' c b l:=by
 rcases h with h|⟨x,a,c,e⟩
 .exact .inl h
 .exact .inr ⟨x,a,c,e.frame hf he⟩
theorem CellIs.at_{H:HS}{c b:List UInt8}{l:List Nat}(h:CellIs H c b l):l.Nodup/\∀ n∈l,1<=n/\n<H.F.fresh/\(H.S n).kind=2:=by
 rcases h with⟨_,_,rfl⟩|⟨x,_,_,a⟩
 .exact⟨fE,λn c=>by cases c⟩
 .exact⟨a.nd,a.at_⟩
structure HI(N:Nat)(H:HS)(fl rl:List Nat)(R:Nat->Nat->Prop)(P:Nat->Nat->List Nat)(B:Nat->Nat->List UInt8)(pd:List Nat):Prop where
 ok:qO N H fl
 rk:Av H rl
 cell:∀ m s,R m s->m∈rl/\∃ c,(H.S m).slots[s]?=some (some c)/\CellIs H c (B m s) (P m s)
 ap:∀ m s m' s' n,R m s->R m' s'->n∈P m s->n∈P m' s'->m=m'/\s=s'
 pk:∀ n∈pd,1<=n/\n<H.F.fresh/\(H.S n).kind=2/\∀ m s,R m s->n∉P m s
 c0:∀ n,1<=n->n<H.F.fresh->(H.S n).kind=0->n∈fl
 c1:∀ n,1<=n->n<H.F.fresh->(H.S n).kind=1->n∈rl
 c2:∀ n,1<=n->n<H.F.fresh->(H.S n).kind=2->n∈pd\/∃ m s,R m s/\n∈P m s
def Full(H:HS)(rl:List Nat)(R:Nat->Nat->Prop):Prop:=∀ m∈rl,(H.S m).slots≠[]/\∀ s c,(H.S m).slots[s]?=some (some c)->R m s
theorem Av.frame{H H':HS}{rl:List Nat}(h:Av H rl)(hf:H.F.fresh<=H'.F.fresh)(hr:H'.F.records=H.F.records)(he:∀ m∈rl,H'.S m=H.S m):Av H' rl:=
 ⟨by rw[hr];exact h.ch.frame he,λm a=>by have:=h.at_ m a;rw[he m a];exact⟨this.1,eu,this.2.2⟩,h.nd⟩
namespace HI
variable {N:Nat}{H:HS}{fl rl pd:List Nat}{R:Nat->Nat->Prop}{P:Nat->Nat->List Nat}{B:Nat->Nat->List UInt8}{m s:Nat}
theorem pat(h:HI N H fl rl R P B pd)(hr:R m s):(P m s).Nodup/\∀ n∈P m s,1<=n/\n<H.F.fresh/\(H.S n).kind=2:=(h.cell m s hr).2.elim λ_ a=>a.2.at_
theorem pni(h:HI N H fl rl R P B pd)(hr:R m s):∀ n∈P m s,n∉fl/\n∉rl:=λn c=>by
 have e:=((h.pat hr).2 n c).2.2;refine⟨λa=>?_,λa=>?_⟩
 .have:=(h.ok.fk n a).2.2;omega
 .have:=(h.rk.at_ n a).2.2;omega
end HI
namespace HI
variable {N:Nat}{H:HS}{fl rl pd:List Nat}{R:Nat->Nat->Prop}{P:Nat->Nat->List Nat}{B:Nat->Nat->List UInt8}{m s:Nat}
theorem gave(h:HI N H fl rl R P B pd){kind n:Nat}{H1:HS}{fl1:List Nat}(hg:GM N H fl kind n H1 fl1){U:View}(hU:Good U)(rl':List Nat)(hcase:(rl'=rl/\U.kind=3)\/(rl'=n::rl/\U.kind=1/\U.next=H.F.records)):
  HI N ⟨⟨H1.F.fresh,H1.F.free,H1.F.many,if U.kind=3 then H1.F.records else n,H1.F.root⟩,qx H1.S n U⟩ fl1 rl' R P B pd:=by
 have t:n∉rl:=λg=>by
  rcases hg.was with e|e
  .exact h.rk.ni h.ok g e
  .have:=(h.rk.at_ n g).2.1;omega
 have y:n∉pd:=λg=>by
  have hp:=h.pk n g;rcases hg.was with e|e
  .have:=(h.ok.fk n e).2.2;omega
  .omega
 have z:∀ a b,R a b->n∉P a b:=λa b s g=>by
  rcases hg.was with e|e
  .exact(h.pni s n g).1 e
  .have:=((h.pat s).2 n g).2.1;omega
 have p:∀ i,i≠n->qx H1.S n U i=H.S i:=λi r=>by rw[sP r];exact hg.old i r
 have C:U.kind=3\/U.kind=1:=by rcases hcase with⟨_,e⟩|⟨_,e,_⟩<;>simp[e]
 have w:zf (qx H1.S n U) H.F.records rl:=h.rk.ch.frame λm g=>p m λe=>t (e▸g)
 have v:∀ i,1<=i->i<H1.F.fresh->i≠n->i<H.F.fresh:=λi j o k=>by rcases hg.fre with e|⟨e,f⟩<;>omega
 have q:=hg.ok.set hg.ni hU;refine⟨⟨q.f1,q.fN,q.gd,q.ch,q.fk,q.nd,q.fm,?_,q.rt⟩,⟨?_,λm g=>?_,?_⟩,λa b s=>?_,h.ap,λi r=>?_,λi j o k=>?_,λi j o k=>?_,λi j o k=>?_⟩
 .show(if U.kind=3 then H1.F.records else n)<H1.F.fresh
  split
  .exact hg.ok.rc
  .exact hg.nf
 .show zf (qx H1.S n U) (if U.kind=3 then H1.F.records else n) rl'
  rcases hcase with⟨e,f⟩|⟨e,f,A⟩
  .rw[e,if_pos f,hg.rec_];exact w
  .rw[e,if_neg eu]
   refine⟨rfl,by have:=hg.n1;omega,?_⟩;rw[uI,A];exact w
 .show 1<=m/\m<H1.F.fresh/\(qx H1.S n U m).kind=1
  have u:m=n/\U.kind=1\/m∈rl:=by
   rcases hcase with⟨e,f⟩|⟨e,f,_⟩
   .rw[e]at g;exact .inr g
   .rw[e]at g;exact(ak.1 g).imp (λe=>⟨e,f⟩) id
  rcases u with⟨e,f⟩|u
  .rw[e,uI];exact⟨hg.n1,hg.nf,f⟩
  .have k:=h.rk.at_ m u
   rw[p m λe=>t (e▸u)];exact⟨k.1,ae k.2.1 hg.grow,k.2.2⟩
 .rcases hcase with⟨e,_⟩|⟨e,_,_⟩
  .rw[e];exact h.rk.nd
  .rw[e];exact df.2 ⟨t,h.rk.nd⟩
 .obtain⟨j,c,o,k⟩:=h.cell a b s
  refine⟨by rcases hcase with⟨e,_⟩|⟨e,_,_⟩<;>simp[e,j],c,?_,k.frame hg.grow λi r=>p i λe=>z a b s (e▸r)⟩;show(qx H1.S n U a).slots[b]?=_;rw[p a λe=>t (e▸j)];exact o
 .obtain⟨j,o,k,l⟩:=h.pk i r
  refine⟨j,ae o hg.grow,?_,l⟩;show(qx H1.S n U i).kind=2;rw[p i λe=>y (e▸r)];exact k
 .have l:(qx H1.S n U i).kind=0:=k
  by_cases e:i=n
  .rw[e,uI]at l;omega
  .rw[p i e]at l
   rcases hg.cov i (h.c0 i j (v i j o e) l)with f|f
   .exact absurd f e
   .exact f
 .have l:(qx H1.S n U i).kind=1:=k
  by_cases e:i=n
  .rw[e,uI]at l
   rcases hcase with⟨_,f⟩|⟨f,_,_⟩
   .omega
   .rw[f,e];simp
  .rw[p i e]at l
   have B:=h.c1 i j (v i j o e) l;rcases hcase with⟨f,_⟩|⟨f,_,_⟩<;>simp[f,B]
 .have l:(qx H1.S n U i).kind=2:=k
  by_cases e:i=n
  .rw[e,uI]at l;omega
  .rw[p i e]at l
   exact h.c2 i j (v i j o e) l
theorem back(h:HI N H fl rl R P B pd)(hN:N<=2048){n:Nat}(h1:1<=n)(h2:n<H.F.fresh)(hk:(H.S n).kind=3):HI N (wD H n) (n::fl) rl R P B pd:=by
 have t:n∉fl:=λo=>by have:=(h.ok.fk n o).2.2;omega
 have r:n∉rl:=λo=>by have:=(h.rk.at_ n o).2.2;omega
 have u:∀ a b,R a b->n∉P a b:=λa b k p=>by have:=((h.pat k).2 n p).2.2;omega
 have g:∀ i,i≠n->(wD H n).S i=H.S i:=λi j=>sP j
 have s:(wD H n).S n=zT H.F:=uI ..;refine⟨h.ok.back hN h1 h2 t,h.rk.frame (ax _) rfl λm p=>g m λe=>r (e▸p),λa b k=>?_,h.ap,λi j=>?_,λi h1 h2 f=>?_,λi h1 h2 f=>?_,λi h1 h2 f=>?_⟩
 .obtain⟨f,c,q,l⟩:=h.cell a b k
  exact⟨f,c,by rw[g a λe=>r (e▸f)];exact q,l.frame (ax _) λi j=>g i λe=>u a b k (e▸j)⟩
 .obtain⟨f,q,l,v⟩:=h.pk i j
  refine⟨f,q,?_,v⟩;rw[g i λe=>by rw[e]at l;omega];exact l
 .by_cases e:i=n
  .simp[e]
  .rw[g i e]at f
   simp[h.c0 i h1 h2 f]
 .by_cases e:i=n
  .rw[e,s]at f;cases f
  .rw[g i e]at f;exact h.c1 i h1 h2 f
 .by_cases e:i=n
  .rw[e,s]at f;cases f
  .rw[g i e]at f;exact h.c2 i h1 h2 f
theorem VK(h:HI N H fl rl R P B pd){n:Nat}(h1:1<=n)(h2:n<H.F.fresh)(hk:(H.S n).kind=3){U:View}(hU:Good U)(hU3:U.kind=3):HI N ⟨H.F,qx H.S n U⟩ fl rl R P B pd:=by
 have t:n∉fl:=λq=>by have:=(h.ok.fk n q).2.2;omega
 have s:n∉rl:=λq=>by have:=(h.rk.at_ n q).2.2;omega
 have u:∀ a b,R a b->n∉P a b:=λa b l r=>by have:=((h.pat l).2 n r).2.2;omega
 have o:∀ i,i≠n->qx H.S n U i=H.S i:=λi k=>sP k
 have p:∀ i,(qx H.S n U i).kind=(H.S i).kind:=λi=>by
  by_cases e:i=n
  .rw[e,uI,hU3,hk]
  .rw[o i e]
 refine⟨h.ok.set t hU,h.rk.frame (ax _) rfl λm r=>o m λe=>s (e▸r),λa b l=>?_,h.ap,λi k=>?_,λi f g j=>h.c0 i f g (by rw[<-p];exact j),λi f g j=>h.c1 i f g (by rw[<-p];exact j),λi f g j=>h.c2 i f g (by rw[<-p];exact j)⟩
 .obtain⟨f,c,g,j⟩:=h.cell a b l
  refine⟨f,c,?_,j.frame (ax _) λi k=>o i λe=>u a b l (e▸k)⟩;show(qx H.S n U a).slots[b]?=_;rw[o a λe=>s (e▸f)];exact g
 .obtain⟨f,g,j,v⟩:=h.pk i k
  exact⟨f,g,(p i).trans j,v⟩
end HI
namespace HI
variable {N:Nat}{H:HS}{fl rl pd:List Nat}{R:Nat->Nat->Prop}{P:Nat->Nat->List Nat}{B:Nat->Nat->List UInt8}{m s:Nat}
end HI
section
variable {Y:World->List Nat->Prop}[hYT:mW Y]{q jb mw N lo:Nat}{L:List Nat}{G0 V:Nat->Pg}{k:Nat}{H:HS}{fl rl pd:List Nat}{R:Nat->Nat->Prop}{P:Nat->Nat->List Nat}{B:Nat->Nat->List UInt8}{m s:Nat}{w:World}
end
end Go.Proofs.YtpaniebomegnbaaGreat
namespace Coup
open Go Go.RowKit
section
variable {P:Program}{ρ:Env}{w:World}{d:Option Nat}{ty:TypeId}{pos:String}{af:Array Edge}{gd:Option (Nat × Bool)}
def SQ(P:Program):List Field->Nat->Bool
 |[],_=>true
 |f::fs,o=>(f.name != "_") && Nat.beq f.offset o && zH P f.type .i64 && SQ P fs (o+1)
theorem Yy(dd:Nat)(A B:List Int)(w:World):∀ (fs:List Field) (o:Nat),SQ P fs o=true->o+fs.length=A.length->A.length=B.length->
  (Op.eqFields (dd+1) (iv A).toArray (iv B).toArray fs).run P w= .ok (decide (A.drop o=B.drop o)) w
 |[],o,_,h,hl=>by
  rw[iZ (by simp at h;omega),iZ (by simp at h;omega)];simp[Op.eqFields]
 |f::fs,o,hf,h,hl=>by
  simp only[SQ,aJ,bne_iff_ne,ne_eq]at hf;obtain⟨⟨⟨q,r⟩,s⟩,t⟩:=hf;have u:=bU r;have g:=VX s;have v:(isAgg f.type).run P w= .ok false w:=by simp[isAgg,run_underlying g]
  rw[aD]at h;have a:∀ (C:List Int) (c:o<C.length),(part f.type (iv C).toArray f.offset).run P w= .ok (.int .i64 C[o]) w:=λC c=>by
   have z:(iv C).toArray[o]?=some (.int .i64 C[o]):=by simp[iv,c]
   simp[part,v,u,Result.andThen,iv,c]
  have j:=run_equalIn_int w dd f.type .i64 .i64 (A[o]'eu) (B[o]'eu) g;have y:=Yy dd A B w fs (o+1) t eu hl;simp only[Op.eqFields,q,ne_eq,not_false_eq_true,if_true,Sem.run_bind,a A eu,a B eu,Result.andThen_ok,j];have k:=dG (l:=A) (i:=o) eu;have m:=dG (l:=B) (i:=o) eu;rw[k,m];clear j a k m;generalize A[o]'eu=x;generalize B[o]'eu=p
  by_cases e:x=p
  .subst e
   simp only[beq_self_eq_true,gM,jm,if_false,y,ja,true_and]
  .have:(x == p)=false:=by simpa using e
   simp[this,e]
def IY(P:Program)(t n:Nat):Bool:=(match P.underlying t with|some (.struct fs)=>SQ P fs.toList 0 && Nat.beq fs.toList.length n|_=>false) && !P.eqGuardType P.depth t && !P.stoodInHeld t
theorem GY{t t' n:Nat}{x y:Operand}{A B:List Int}(ht:IY P t n=true)(hx:ev ρ x= .agg (iv A).toArray)(hy:ev ρ y= .agg (iv B).toArray)(hA:A.length=n)(hB:B.length=n):
  (execOp (ev ρ) ⟨d, .binOp .neq t x y t',ty,pos,af,gd⟩).run P w= .ok (.value (.bool (!decide (A=B)))) w:=by
 unfold IY at ht;simp only[aJ,dU]at ht;obtain⟨⟨a,i⟩,j⟩:=ht
 split at a
 .rename_i c f
  rw[aJ]at a;have h:P.fieldsOf t=c:=by simp[Program.fieldsOf,f]
  have g:=run_eqGuard_agg (P:=P) w .neq t x y (iv A).toArray (iv B).toArray i;have e:=Yy 9998 A B w c.toList 0 a.1 (by have:=bU a.2;omega) eu;have s:=run_equalIn_struct (P:=P) (w:=w) 9999 t (iv A).toArray (iv B).toArray (by rw[h];exact f) j;rw[h,show 9999=9998+1 from rfl,e]at s;simp only[execOp,hx,hy,Sem.run_bind,g,Result.andThen_ok,run_neq_struct,show 10000=9998+1+1 from rfl,s]
  rfl
 .cases a
theorem XY{s t:Nat}{x:Operand}{v:Value}(ht:MM P t=true)(hx:ev ρ x= .iface t v):(execOp (ev ρ) ⟨d, .typeAssert x s t true,ty,pos,af,gd⟩).run P w= .ok (.value (.tuple #[v, .bool true])) w:=by
 unfold MM at ht;cases hu:P.underlying t with
 |none=>simp[hu]at ht
 |some dd=>
  rw[hu]at ht;simp only[execOp,hx,Instr.typeAssert,Sem.run_bind,run_underlying hu,Result.andThen_ok];cases dd<;>first |(simp at ht;done)|(simp[Result.andThen];done)
theorem zqf{s t:Nat}{x:Operand}{z:Value}(ht:MM P t=true)(hx:ev ρ x= .nilIface)(hz:∀ w,(zeroValue t).run P w= .ok z w):(execOp (ev ρ) ⟨d, .typeAssert x s t true,ty,pos,af,gd⟩).run P w= .ok (.value (.tuple #[z, .bool false])) w:=by
 unfold MM at ht;cases hu:P.underlying t with
 |none=>simp[hu]at ht
 |some dd=>
  rw[hu]at ht;simp only[execOp,hx,Instr.typeAssert,Sem.run_bind,run_underlying hu,Result.andThen_ok];cases dd<;>first |(simp at ht;done)|(simp[Result.andThen,Sem.run_bind,hz];done)
theorem Yg {t i0 i1 i2 i3 i4:Nat} {x0 x1 x2 x3 x4:Operand} (v0 v1 v2 v3 v4:Value) (cs:List Value) (h0:ev ρ x0=v0) (h1:ev ρ x1=v1) (h2:ev ρ x2=v2) (h3:ev ρ x3=v3) (h4:ev ρ x4=v4)
  (hb:P.built t [(i0,v0),(i1,v1),(i2,v2),(i3,v3),(i4,v4)]=some cs.toArray):
  (execOp (ev ρ) ⟨d, .build t #[(i0,x0),(i1,x1),(i2,x2),(i3,x3),(i4,x4)],ty,pos,af,gd⟩).run P w= .ok (.value (.agg cs.toArray)) w:=by
 have:=run_build (P:=P) w t #[(i0,v0),(i1,v1),(i2,v2),(i3,v3),(i4,v4)] cs.toArray kG;simp only[execOp,fU,aZ,dS,h0,h1,h2,h3,h4,Sem.run_bind,this,Result.andThen_ok]
 rfl
def IC(P:Program)(t n e:Nat):Bool:=(match P.underlying t with|some (.array m e')=>Nat.beq m n && Nat.beq e' e|_=>false) && (match P.underlying e with|some (.int _)=>true|some (.pointer _)=>true|_=>false) && (match P.info? e with|some i=>Nat.beq i.size 1|none=>false)
theorem WM{t n e:Nat}{x i:Operand}{cs:List Value}{k:IntKind}{a:Int}{v:Value}(ht:IC P t n e=true)(hx:ev ρ x= .agg cs.toArray)(hi:ev ρ i= .int k a)(j:Nat)(hj:a=(j:Int))(hn:j<n)(hv:cs[j]?=some v):
  (execOp (ev ρ) ⟨d, .index t x i,ty,pos,af,gd⟩).run P w= .ok (.value v) w:=by
 subst hj;unfold IC at ht;simp only[aJ]at ht;obtain⟨⟨a,h⟩,f⟩:=ht
 split at a
 .rename_i m c k
  rw[aJ]at a;obtain⟨rfl,rfl⟩:m=n/\c=e:=⟨bU a.1,bU a.2⟩;have l:(isAgg c).run P w= .ok false w:=by
   split at h
   .rename_i g;simp[isAgg,run_underlying g]
   .rename_i g;simp[isAgg,run_underlying g]
   .cases h
  obtain⟨r,o,p⟩:∃ i,P.info? c=some i/\i.size=1:=by
   split at f
   .rename_i i hi;exact⟨i,hi,bU f⟩
   .cases f
  have q:(Go.sizeOf c).run P w= .ok 1 w:=by simp[Go.sizeOf,typeInfo,o,p]
  have hp:(part c cs.toArray j).run P w= .ok v w:=by
   simp[part,l,Result.andThen,hv]
  have hr:(0:Int)<=(j:Int)/\(j:Int)<(m:Int):=by omega
  simp only[execOp,hx,hi,Instr.index,asIntOf,Sem.run_bind,Sem.run_pure,run_underlying k,Result.andThen_ok,hr,and_self,if_true,q,aR,dz,hp]
 .cases a
theorem EP{x y z:Operand}{k:IntKind}{a b c:Int}{ats:Array Nat}(hx:ev ρ x= .int k a)(hy:ev ρ y= .int k b)(hz:ev ρ z= .int k c):
  (execOp (ev ρ) ⟨d, .call ⟨.builtin .max,#[x,y,z],ats⟩,ty,pos,af,gd⟩).run P w= .ok (.value (.int k (max (max a b) c))) w:=by
 have e:(if a<b then b else a)=max a b:=by omega
 have f:(if max a b<c then c else max a b)=max (max a b) c:=by omega
 simp[execOp,resolve,invoke,builtin,Builtin.max_,Builtin.max2,hx,hy,hz,e,f,Result.andThen]
def Nn(P:Program)(t:Nat):Bool:=match P.underlying t with|some (.interface _)=>true|_=>false
theorem ztZ{t t':Nat}{x:Operand}(ht:Nn P t=true)(hx:ev ρ x= .nilIface):(execOp (ev ρ) ⟨d, .binOp .neq t x (.const .nilIface) t',ty,pos,af,gd⟩).run P w= .ok (.value (.bool false)) w:=by
 unfold Nn at ht
 split at ht
 .rename_i h a
  have c:(eqGuard .neq t x (.const .nilIface) .nilIface .nilIface).run P w= .ok () w:=by
   unfold eqGuard;simp
  have e:∀ n,(Op.equalIn (n+1) t .nilIface .nilIface).run P w= .ok true w:=λn=>by
   simp only[Op.equalIn,Sem.run_bind,run_underlying a,Result.andThen_ok]
   rfl
  have f:(binOp .neq t .nilIface .nilIface).run P w= .ok (.bool false) w:=by
   simp only[binOp];simp[Op.equal,Op.maxDepth,e 9999]
  have g:ev ρ (.const .nilIface)= .nilIface:=rfl;simp only[execOp,hx,g,Sem.run_bind,c,f,Result.andThen_ok]
  rfl
 .cases ht
end
end Coup
namespace Go.Proofs.YtpaniebomegnbaaGreat
open Go Go.RowKit Coup
def hp:List UInt8:=[72,69,65,80]
def nums(F:sG):List Nat:=[F.fresh,F.free,F.many,F.records,F.root]
def yU(l:List Nat):List UInt8:=(l.map (nZ 4)).flatten
def Ep(F:sG):List UInt8:=hp++yU (nums F)
def yg(F:sG):View:=⟨4,0,[some (Ep F)]⟩
theorem zr2(l:List Nat):(yU l).length=4*l.length:=by
 induction l with
 |nil=>rfl
 |cons a l ih=>show(nZ 4 a++yU l).length=_;rw[aA,ry,ih,aD];omega
theorem zqg(l:List Nat)(n:Nat):yU (l++[n])=yU l++nZ 4 n:=by unfold yU;rw[bK,jC];simp
theorem Xf(F:sG):(Ep F).length=24:=by unfold Ep;rw[aA,zr2];rfl
theorem Nw(F:sG):Good (yg F):=ztW eu eu (by rw[Xf];omega)
theorem VF(F:sG)(w:World):CQ 129 [.agg (wF F).toArray] w (λv w'=>v= .agg (bv (oG (yg F))).toArray/\Below w.heap.size w w'):=by
 have Z:=Xf F;have y:=λb5 b6 w' C=>Dn 4 eu b5 b6 (Ep F) w' C (by rw[Z];omega)
 have a0:=λw'=>Dw 4 eu w'
 rw[Z]at y;have b7:=uO (Nw F);have b8:oG ⟨4,0,[some (Ep F)]⟩=oG (yg F):=rfl;have b9:=uO (Az (kind:=4) eu);rw[b8]at y;obtain⟨Q,c4⟩:=aa (oG (yg F));obtain⟨P4,c5⟩:=aa (oG (rW 4));simp only[c4,c5]at y a0 b7 b9 |-;have G:Ep F=hp++yU (nums F):=rfl;obtain⟨c6,a1⟩:=aa (Ep F);rw[a1]at G;simp only[a1]at y;obtain⟨h,H⟩:=aa (nums F);have f0:h.length=5:=by rw[<-H];rfl
 have c7:nv h=wF F:=by rw[<-H];rfl
 rw[H]at G;have a:=Below.refl w.heap.size w;have f1:maxLen=9223372036854775807:=by decide
 obtain⟨D,c8,f2⟩:∃ D,List.replicate 512 (Value.int .u8 0)=D/\D.length=512:=⟨_,rfl,bi⟩;refine nP (fn:=Tryz.f129) (rs:=[.cell 2 121]) (n:=41) Tryz.func129 rfl rfl Tryz.ntmps129 dA rfl<|mR<|nz<|oV (wF F) rfl<|λI w1 c9 g d0=>?_
 have f3:=ag a.size c9;replace a:=a.acc d0;replace g:row w1 I [.int .i64 (F.fresh:Int), .int .i64 (F.free:Int), .int .i64 (F.many:Int), .int .i64 (F.records:Int), .int .i64 (F.root:Int)] 128:=g;refine nz<|nU (List.replicate 512 (Value.int .u8 0)) dA<|λq w2 a2 c a3=>?_
 have d1:=ag a.size a2;have f4:I<q:=ae g.lt a2;replace g:=g.new a3;replace a:=a.acc a3;rw[c8]at c;refine pV<|nz<|IL (e:=5) [(0, .int .u8 72),(1, .int .u8 69),(2, .int .u8 65),(3, .int .u8 80)] [.int .u8 0] 1 dA dA rfl eu eu (by intro i a4;rcases i with _|_|_|_|i<;>first |(simp[Value.cells];done)|(exfalso;simp only[aD,aX]at a4;omega)) kP<|λj d2 J K L=>?_
 have d3:=ag a.size J;have d4:I<j:=ae g.lt J;have d5:q<j:=ae c.lt J;replace g:=g.new L;replace c:=c.new L;replace a:=a.acc L;replace K:row d2 j (bv hp) 5:=K;have d6:=K;have f5:=g.lt;have f6:=c.lt;refine nz<|Ew (e:=5) dA dA rfl d6 rfl eu<|λf7 t M=>?_
 replace g:=g.only M (ai d4);replace c:=c.only M (ai d5);replace a:=M.below a d3;refine mV<|mQ<|ng<|mR<|mO (nk 0)<|mO (mZ g)<|mO (nk 1)<|mO (mZ g)<|mO (nk 2)<|mO (mZ g)<|mO (nk 3)<|mO (mZ g)<|mO (nk 4)<|mO (mZ g)<|mO (Yg (.int .i64 (F.fresh:Int)) (.int .i64 (F.free:Int)) (.int .i64 (F.many:Int)) (.int .i64 (F.records:Int)) (.int .i64 (F.root:Int)) (wF F) rfl rfl rfl rfl rfl dA)<|mP<|mQ<|oU ?_
 refine qZ (α:=Nat × Value) (0, .slice (some ⟨j,0,none⟩) 4 4) (λk=>[(2, .pointer (some ⟨q,0,none⟩)),(3,k.2),(20, .agg (wF F).toArray),(21, .int .i64 (k.1:Int))])
  (λk w'=>k.1<=5/\((k.1=0/\k.2= .slice (some ⟨j,0,none⟩) 4 4/\nC w' (some ⟨j,0,none⟩) 4 1 (bv hp))\/(0<k.1/\nY w' j 5 1 k.2 (4+4*k.1) (bv (hp++yU (h.take k.1)))))/\row w' q D 121/\Below w.heap.size w w') (λk=>5 - k.1) ⟨rfl,rfl,rfl,rfl,rfl⟩ ⟨aC _, .inl ⟨rfl,rfl,t⟩,c,a⟩ ?_
 rintro⟨i,v⟩ f u ⟨a4,o,c,a⟩;dsimp only at*
 by_cases f8:i<5
 .obtain⟨n,a5⟩:∃ n,h[i]?=some n:=⟨_,aI eu⟩
  have a6:(wF F)[i]?=some (.int .i64 (n:Int)):=by rw[<-c7];unfold nv;rw[aW,a5];rfl
  have d7:h.take (i+1)=h.take i++[n]:=by rw[bf,a5];rfl
  have a7:bv (hp++yU (h.take (i+1)))=bv (hp++yU (h.take i))++bv (nZ 4 n):=by rw[d7,zqg,<-aG,wK]
  rcases o with⟨rfl,rfl,t⟩|⟨d8,o⟩
  .have d9:bv (hp++yU (h.take (0+1)))=bv hp++bv (nZ 4 n):=by rw[a7];simp[yU]
   refine mR<|mO (pE rfl rfl)<|mQ<|ng<|sU rfl (eu)<|nL<|ny<|ng<|oU<|mR<|mO (WM (k:=.i64) (n:=5) (e:=3) dA rfl rfl 0 rfl eu a6)<|mV<|mQ<|nM<|mP<|mP<|nD (Dc n u) ?_
   rintro _ a8 ⟨N,rfl,O,A,r⟩;have e0:=ag a.size A;have e1:q<N:=ae c.lt A;replace c:=c.new r;replace t:=t.new r;replace a:=a.acc r;have P:=O.ul (m:=4) (sz:=1) (by rw[oh,ry]) eu;have e2:=t;have R:=t.some eu;obtain⟨f9,g0,e3,g1⟩:=R;have e4:j<=a8.heap.size:=by cases e3;omega
   refine nz<|zqa (e:=5) (sz:=1) (bytes:=1) (z:=.int .u8 0) dA rfl dA rfl iT rfl e2 rfl P eu eu eu eu<|λB e5 S a9=>?_
   replace c:=c.new a9;replace a:=a.acc a9;refine mV<|oH<|pW<|ny<|nM<|mO (om rfl rfl (show IntKind.i64.wrap (((0:Nat):Int)+1)=((0+1:Nat):Int) by rw[nN eu];omega))<|mP<|oH<|oO ⟨(0+1,B),by show 5 - (0+1)<5 - 0;omega,⟨rfl,rfl,rfl,rfl,rfl⟩,by show 0+1<=5;omega, .inr ⟨by show 0<0+1;omega,?_⟩,c,a⟩
   show nY _ _ _ _ B (4+4*(0+1)) _;rw[d9];exact nY.mono S e4
  .have g2:=d8
   refine mR<|mO (pE rfl rfl)<|mQ<|ng<|sU rfl (eu)<|nL<|ny<|ng<|oU<|mR<|mO (WM (k:=.i64) (n:=5) (e:=3) dA rfl rfl i rfl eu a6)<|mV<|mQ<|nM<|mP<|mP<|nD (Dc n u) ?_
   rintro _ a8 ⟨N,rfl,O,A,r⟩;have e0:=ag a.size A;have e1:q<N:=ae c.lt A;replace c:=c.new r;replace o:=o.new r;replace a:=a.acc r;have P:=O.ul (m:=4) (sz:=1) (by rw[oh,ry]) eu;have g3:=a.size;have g4:=a.size;refine nz<|uf (e:=5) (sz:=1) (bytes:=1) (z:=Value.int .u8 0) dA rfl dA rfl iT rfl o rfl P (tq _) jo eu (λg5=>eu)<|λB e5 S b0 g6=>?_
   replace c:=c.own o b0 eu;replace a:=a.own o b0 eu;refine mV<|oH<|pW<|ny<|nM<|mO (om rfl rfl (show IntKind.i64.wrap ((i:Int)+1)=((i+1:Nat):Int) by rw[nN eu];omega))<|mP<|oH<|oO ⟨(i+1,B),by show 5 - (i+1)<5 - i;omega,⟨rfl,rfl,rfl,rfl,rfl⟩,by show i+1<=5;omega, .inr ⟨by show 0<i+1;omega,?_⟩,c,a⟩
   show nY _ _ _ _ B (4+4*(i+1)) _;rw[a7];exact S
 .have e6:i=5:=by omega
  subst e6;have b1:nY u j 5 1 v 24 (bv c6):=by
   rcases o with⟨C,_⟩|⟨_,C⟩
   .omega
   .rw[G,<-aP (l:=h) (i:=5) eu];exact C
  have R:=b1.form' eu;obtain⟨g7,g8,g9,rfl,h0,h1,h2⟩:=R;have s:=b1.sl;have T:=Below.refl u.heap.size u;have h3:=c.lt;refine mR<|mO (pE rfl rfl)<|mQ<|ng<|pJ rfl (eu)<|qP<|qL<|rf<|qX<|ny<|mR<|nD (a0 u) ?_
  rintro _ h4 ⟨rfl,E⟩;replace c:=c.new E;replace s:=s.new E;replace a:=a.acc E;replace T:=T.acc E;refine mP<|mO (nJ rfl rfl)<|mO (nJ rfl rfl)<|nz<|nU (List.replicate 512 (Value.int .u8 0)) dA<|λe7 h5 U p V=>?_
  have b2:=ag a.size U;have h6:=ag T.size U;have b3:q<e7:=ae c.lt U;replace c:=c.new V;replace s:=s.new V;replace a:=a.acc V;refine nH<|nT 512 (bv P4) p<|λe8 p X=>?_
  replace c:=c.only X (ai b3);replace s:=s.only X eu;replace a:=X.below a b2;refine nV<|mO (oI 512 p)<|mP<|nD (y _ _ e8 s) ?_
  rintro _ h7 ⟨rfl,Y⟩;replace c:=c.new Y;replace p:=p.new Y;replace a:=a.acc Y;refine mP<|mO (nJ rfl rfl)<|mO (nJ rfl rfl)<|mO (nJ rfl rfl)<|nH<|nT 512 (bv Q) p<|λh8 p b4=>?_
  replace c:=c.only b4 (ai b3);replace a:=b4.below a b2;refine pV<|mO (oI 512 p)<|nH<|nT 512 (bv Q) c<|λh9 c e9=>?_
  replace a:=e9.below a d1;refine mQ<|nQ<|nR [_] ⟨⟨_,rfl,Ld.qp (k:=512) c dA dA gp⟩,trivial⟩ ?_
  exact⟨rfl,a⟩
theorem Dl{n:Nat}(h:n<4294967296):qK (nZ 4 n)=n:=by rw[QU,iX eu]
theorem YF:∀ {l:List Nat} {i n:Nat},l[i]?=some n->((yU l).drop (4*i)).take 4=nZ 4 n
 |a::l,0,n,h=>by
  have e:a=n:=by simpa using h
  subst e;show(nZ 4 a++yU l).take 4=_;exact bJ<|ry _ _
 |a::l,i+1,n,h=>by
  have c:=YF (l:=l) (i:=i) (n:=n) kU;show((nZ 4 a++yU l).drop (4*(i+1))).take 4=_;rw[show 4*(i+1)=(nZ 4 a).length+4*i by rw[ry];omega,eZ,iZ eu,aV,show(nZ 4 a).length+4*i - (nZ 4 a).length=4*i by omega];exact c
structure Hz(N:Nat)(F:sG):Prop where
 f1:1<=F.fresh
 fN:F.fresh<=N
 fe:F.free<F.fresh
 ma:F.many<F.fresh
 rc:F.records<F.fresh
 rt:F.root<N
 n48:N<=2048
theorem qO.fst{N:Nat}{H:HS}{fl:List Nat}(h:qO N H fl)(hN:N<=2048):Hz N H.F:=⟨h.f1,h.fN,h.Bw,h.many,h.rc,h.rt,hN⟩
def GR(l:List Nat)(k:Nat):List Value:=nv (l.take k)++List.replicate (5 - k) (.int .i64 0)
theorem zt0{l:List Nat}{k n:Nat}(hl:l.length=5)(h:l[k]?=some n):(GR l k).set k (.int .i64 (n:Int))=GR l (k+1):=by
 have a:k<5:=by have:=(aO.1 h).1;omega
 unfold GR;have e:(nv (l.take k)).length=k:=by rw[Cc,aH];omega
 rw[List.set_append,e,if_neg eu,bL,show 5 - k=(5 - (k+1))+1 by omega,List.replicate_succ,List.set_cons_zero,bf,h];unfold nv;simp
theorem zqh(F:sG)(N:Nat)(hF:Hz N F)(w:World):CQ 190 [.agg (bv (oG (yg F))).toArray, .int .i64 (N:Int)] w (λv w'=>v= .tuple #[.agg (wF F).toArray, .bool true]/\Below w.heap.size w w'):=by
 have y:=Nw F;have I:=Xf F;have t:=λw'=>SB (yg F) 0 w' y
 have a0:zN (yg F).slots 0=Ep F:=rfl;have a1:zX (yg F).slots 0=true:=rfl;simp only[a0,a1,if_true,I]at t;have J:=λw'=>VF F w'
 have a2:∀ (m:Nat) (K:m<4294967296) p c w',nC w' p 4 1 (bv (nZ 4 m))->CQ 203 [.slice p 4 c] w' (λv w2=>v= .int .i64 (m:Int)/\w'=w2):=λm K p c w' z=>
  (Qw p 4 c _ w' z eu).to λv w2 ⟨e,L⟩=>⟨by rw[e,Dl K],L⟩
 have M:=uO y;have a3:=Ad (yg F) y.size;obtain⟨Q,a4⟩:=aa (oG (yg F));simp only[a4]at t J M a3 |-;have A:Ep F=hp++yU (nums F):=rfl;obtain⟨O,P⟩:=aa (Ep F);rw[P]at A I;simp only[P]at t;obtain⟨o,u⟩:=aa (nums F);have a5:o.length=5:=by rw[<-u];rfl
 have a6:nv o=wF F:=by rw[<-u];rfl
 have a7:∀ n∈o,n<4294967296:=λn s=>by
  rw[<-u]at s;have:=hF.fe;have:=hF.ma;have:=hF.rc;have:=hF.rt;have:=hF.fN;have:=hF.n48;simp only[nums,ak,bu,or_false]at s;omega
 rw[u]at A;have g:=Below.refl w.heap.size w;have d5:maxLen=9223372036854775807:=by decide
 refine nP (fn:=Tryz.f190) (rs:=[.cell 4 128, .tmp 5]) (n:=81) Tryz.func190 rfl rfl Tryz.ntmps190 dA rfl<|mR<|nz<|oV (bv Q) rfl<|λB w2 d6 j a8=>?_
 replace g:=g.acc a8;refine nz<|nU ([Value.int .i64 0,Value.int .i64 0,Value.int .i64 0,Value.int .i64 0,Value.int .i64 0]) dA<|λh a9 R a S=>?_
 have T:=ag g.size R;have b0:B<h:=ae j.lt R;replace j:=j.new S;replace g:=g.acc S;refine nV<|mO (ou rfl (Ld.qp (k:=512) j dA dA M)) ?_
 have b1:=j.lt;have b2:=a.lt;refine nD (t a9) ?_;rintro _ d7 ⟨⟨U,b3,rfl,q,d8,b4⟩,C⟩;replace j:=j.new C;replace a:=a.new C;replace g:=g.acc C;refine mP<|mO (nJ rfl rfl)<|mO (nJ rfl rfl)<|mV<|mV<|mQ<|ng<|mR<|mP<|mO (oD rfl rfl)<|mP<|rD 18 rfl (iT)<|mY<|mP<|mY<|mO (oQ (e:=5) (sz:=1) dA rfl rfl)<|mY<|mO (oD rfl rfl)<|mO (oo rfl)<|mQ<|pJ rfl (iT)<|nL<|ny<|mR<|mV<|mQ<|ng<|mR<|mO (nk 0)<|mO (nk 1)<|mO (nk 2)<|mO (nk 3)<|mO (nk 4)<|mO (Yg (.pointer (some ⟨h,0,none⟩)) (.pointer (some ⟨h,1,none⟩)) (.pointer (some ⟨h,2,none⟩)) (.pointer (some ⟨h,3,none⟩)) (.pointer (some ⟨h,4,none⟩)) [.pointer (some ⟨h,0,none⟩), .pointer (some ⟨h,1,none⟩), .pointer (some ⟨h,2,none⟩), .pointer (some ⟨h,3,none⟩), .pointer (some ⟨h,4,none⟩)] rfl rfl rfl rfl rfl dA)<|mP<|mQ<|oU ?_
 refine qZ (α:=Nat) 0 (λk=>[(1, .int .i64 (N:Int)),(2, .pointer (some ⟨B,0,none⟩)),(4, .pointer (some ⟨h,0,none⟩)),(5, .bool false),(6, .slice U 24 b3),(8, .int .i64 ((4+4*k:Nat):Int)),(29, .agg #[.pointer (some ⟨h,0,none⟩), .pointer (some ⟨h,1,none⟩), .pointer (some ⟨h,2,none⟩), .pointer (some ⟨h,3,none⟩), .pointer (some ⟨h,4,none⟩)]),(30, .int .i64 (k:Int))])
  (λk w'=>k<=5/\row w' h (GR o k) 128/\row w' B (bv Q) 121/\nC w' U 24 1 (bv O)/\Below w.heap.size w w') (λk=>5 - k) ⟨rfl,rfl,rfl,rfl,rfl,rfl,rfl,rfl,rfl⟩ ⟨aC _,a,j,q,g⟩ ?_
 have b5:=q.some eu;obtain⟨V,oq,rfl,_⟩:=b5;have d9:=b4 _ _ rfl;clear a j q g;rintro i f b6 ⟨e0,a,j,q,g⟩
 by_cases e1:i<5
 .obtain⟨n,s⟩:∃ n,o[i]?=some n:=⟨_,aI eu⟩
  have b7:=a7 n (aN s);have b8:∀ w',nC w' (some ⟨V,oq,none⟩) 24 1 (bv O)->nC w' (some ⟨V,oq+(4+4*i),none⟩) 4 1 (bv (nZ 4 n)):=λw' z=>by
   have b9:=z.Eh (4+4*i) 4 eu
   rwa [A,show 4+4*i=hp.length+4*i from rfl,eZ,iZ eu,aV,show hp.length+4*i - hp.length=4*i by omega,YF s]at b9
  have c4:=zt0 a5 s;have e2:(GR o i).length=5:=by unfold GR;rw[aA,Cc,aH,bi];omega
  refine mR<|mO (pE rfl rfl)<|mQ<|ng<|sU rfl (eu)<|nL<|ny<|ng<|oU<|mR<|mO (WM (k:=.i64) (n:=5) (e:=304) (v:=.pointer (some ⟨h,i,none⟩)) dA rfl rfl i rfl eu (by rcases i with _|_|_|_|_|i<;>first |rfl|omega))<|nV<|mP<|mP<|mP<|mP<|mO (om rfl rfl (show IntKind.i64.wrap (((4+4*i:Nat):Int)+4)=((4+4*i+4:Nat):Int) by rw[nN eu];omega))<|mP<|mO (om rfl rfl (show IntKind.i64.wrap (((4+4*i:Nat):Int)+4)=((4+4*i+4:Nat):Int) by rw[nN eu];omega))<|mO (II (e:=5) (4+4*i) (4+4*i+4) (4+4*i+4) (4) dA rfl ⟨_,_,rfl,eu⟩ ⟨_,_,rfl,eu⟩ ⟨_,_,rfl,eu⟩ ig eu eu eu eu eu)<|nD (a2 n b7 _ _ b6 (b8 _ q)) ?_
  rintro _ _ ⟨rfl,rfl⟩;refine mO (nW rfl)<|nH<|oW a<|λc5 a D=>?_
  replace j:=j.only D (ai b0);replace q:=q.only D eu;replace g:=D.below g T;replace a:row c5 h ((GR o i).set i (.int .i64 (n:Int))) 128:=a;rw[c4]at a;refine mQ<|nM<|mP<|mO (om rfl rfl (show IntKind.i64.wrap (((4+4*i:Nat):Int)+4)=((4+4*(i+1):Nat):Int) by rw[nN eu];omega))<|mV<|oH<|pW<|ny<|nM<|mO (om rfl rfl (show IntKind.i64.wrap ((i:Int)+1)=((i+1:Nat):Int) by rw[nN eu];omega))<|mP<|oH<|oO ⟨i+1,eu,⟨rfl,rfl,rfl,rfl,rfl,rfl,rfl,rfl,rfl⟩,eu,a,j,q,g⟩
 .have c6:i=5:=by omega
  subst c6;have c7:GR o 5=wF F:=by unfold GR;rw[aP eu,a6];simp
  rw[c7]at a;obtain⟨e3,L,e4,e5,e6,e7,e8⟩:=hF;obtain⟨fr,X,Y,Z,E⟩:=F;dsimp only[wF]at*;have b1:=j.lt;have b2:=a.lt;refine mR<|mO (pE rfl rfl)<|mQ<|ng<|pJ rfl (eu)<|qP<|qL<|rf<|qX<|ny<|ng<|qz [] dA ?_
  intro c8 G c9;replace a:=a.new G;replace j:=j.new G;replace g:=g.acc G;have r:=a;have d0:=j;refine nI 0 (λw' l=>ou rfl (Ld.qp (k:=5) (r.kq l) dA dA rfl))<|nI 2 (λw' l=>oI 512 (d0.kq l))<|nS 1 dA<|qf rfl rfl (nX dA rfl) (J c8) ?_
  rintro _ e9 ⟨rfl,H⟩;have d1:=c9.add0 H;refine⟨d1,?_⟩;replace a:=a.new H;replace g:=g.acc H;refine mU 3 (VA (n:=512) dA rfl rfl (by simp[*]) (by simp[*]))<|mU 4 (nK)<|EN 50 rfl (rfl)<|mU 5 (nk 0)<|nI 6 (λw' l=>mZ (r.kq l))<|mU 7 (tN rfl rfl)<|mU 8 (pO rfl)<|mU 9 (nK)<|EN 55 rfl (eu)<|mU 10 (nk 0)<|nI 11 (λw' l=>mZ (r.kq l))<|mU 12 (nK)<|mU 13 (Kl rfl rfl)<|mU 14 (pO rfl)<|mU 15 (nK)<|EN 61 rfl (eu)<|mU 16 (nk 1)<|nI 17 (λw' l=>mZ (r.kq l))<|mU 18 (nk 2)<|nI 19 (λw' l=>mZ (r.kq l))<|mU 20 (nk 3)<|nI 21 (λw' l=>mZ (r.kq l))<|mU 22 (EP rfl rfl rfl)<|mU 23 (nk 0) ?_;refine nI 24 (λw' l=>mZ (r.kq l))<|mU 25 (pE rfl rfl)<|mU 26 (pO rfl)<|mU 27 (nK)<|EN 73 rfl (eu)<|mU 28 (nk 4)<|nI 29 (λw' l=>mZ (r.kq l))<|mU 30 (nK)<|mU 31 (pE rfl rfl)<|mU 32 (pO rfl)<|mU 33 (rA)<|oL dA<|ny<|mR<|mO (oI 5 a)<|mP<|nH<|nT 5 (_) a<|λf0 a d2=>?_
  replace g:=d2.below g T;refine mV<|mQ<|nQ<|nR [_,_] ⟨⟨_,rfl,Ld.qp (k:=5) a dA dA gp⟩,rfl,trivial⟩ ?_
  have d3:decide ((E:Int)<(N:Int))=true:=decide_eq_true eu;have d4:∀ b:Bool,b=true->Value.tuple #[Value.agg (wF ⟨fr,X,Y,Z,E⟩).toArray, .bool b]= .tuple #[.agg (wF ⟨fr,X,Y,Z,E⟩).toArray, .bool true]:=λb hb=>by rw[hb]
  exact⟨d4 _ d3,g⟩
end Go.Proofs.YtpaniebomegnbaaGreat
namespace Coup
open Go Go.RowKit Go.Maps Go.ChangeMaps Go.MapKept Go.WideElems
section
variable {H:Type}{P:Program}{k:TypeId}{R:Value->Option (DataW H × List MemPlace)}{w:World}{b r n:Nat}{D:DataW H}{left:Lit->Bool}{cnt:Nat}
theorem zqi(h:w.ranges P k R b r n D left cnt){kl:Lit}(hl:left kl=true){l:List (Lit × DataW H)}(hD:D= .map l):∃ z,(kl,z)∈l:=by
 obtain⟨e,f,since,g,c0,hb,F,i,rfl,hr,j,rfl,l,a,m,o⟩:=h;obtain⟨x,c,rfl⟩:=a kl hl
 injection hD with hD
 exact⟨(rg P k R x).2,by rw[<-hD];exact mem_sorted.2 (bB.2 ⟨x,c,rfl⟩)⟩
theorem znU{w':World}(h:w.ranges P k R b r n D left cnt)(h1:w'.heap[b]?=w.heap[b]?)(h2:w'.heap[r]?=w.heap[r]?):w'.ranges P k R b r n D left cnt:=by
 obtain⟨a,c,since,e,c0,hb,F,f,g,hr,rest⟩:=h;exact⟨a,c,since,e,c0,h1.trans hb,F,f,g,h2.trans hr,rest⟩
end
theorem Rk{f:Nat->Option Value}:∀ {m a:Nat} {x:Lit × DataW Value},x∈qF f a m->∃ i v,a<=i/\i<a+m/\f i=some v/\x=(.int .i64 (i:Int), .held v)
 |0,a,x,c=>by simp[qF]at c
 |m+1,a,x,c=>by
  rw[qF]at c
  split at c
  .rename_i v g
   rcases ak.1 c with rfl|c
   .exact⟨a,v,ax _,eu,g,rfl⟩
   .obtain⟨i,v,h,j,e,f⟩:=Rk c;exact⟨i,v,eu,eu,e,f⟩
  .obtain⟨i,v,h,j,e,f⟩:=Rk c;exact⟨i,v,eu,eu,e,f⟩
theorem XZ{f:Nat->Option Value}{i:Nat}{v:Value}:∀ {m a:Nat},f i=some v->a<=i->i<a+m->(Lit.int .i64 (i:Int),DataW.held v)∈qF f a m
 |0,a,hf,h1,h2=>by omega
 |m+1,a,hf,h1,h2=>by
  rw[qF]
  by_cases e:a=i
  .subst e;rw[hf];exact aK ..
  .have c:=XZ (m:=m) (a:=a+1) hf eu eu
   split
   .exact aj _ c
   .exact c
theorem Hr{f:Nat->Option Value}{i N:Nat}(hi:i<N):Maps.has (DataW.map (qF f 0 N)) (.int .i64 (i:Int))=(f i).isSome:=by
 cases hf:f i with
 |some v=>exact List.any_eq_true.2 ⟨_,XZ hf (aC _) eu,by rw[Ja];simp⟩
 |none=>
  refine List.any_eq_false.2 λx c=>?_
  obtain⟨j,v,e,g,a,rfl⟩:=Rk c;rw[Ja];simp;rintro rfl;rw[hf]at a;cases a
def zC(P:Program)(k:TypeId)(w:World)(m r N:Nat)(f:Nat->Option Value)(left:Nat->Bool)(cnt:Nat):Prop:=
 ∃ L,w.ranges P k RH m r N (.map (qF f 0 N)) L cnt/\∀ i,i<N->L (.int .i64 (i:Int))=left i
namespace zC
variable {P:Program}{k:TypeId}{w w':World}{m r N cnt:Nat}{f:Nat->Option Value}{left:Nat->Bool}
theorem map(h:zC P k w m r N f left cnt):MapAt P k w m N f:=by
 obtain⟨L,a,_⟩:=h;exact a.owns
theorem lt(h:zC P k w m r N f left cnt):r<w.heap.size:=by
 obtain⟨L,a,_⟩:=h;exact a.lt
theorem ne(h:zC P k w m r N f left cnt):r≠m:=by
 obtain⟨L,a,_⟩:=h;exact a.ne
theorem nu{M:List Nat}(h:zC P k w m r N f left cnt)(hk:Kp M w w')(hM:m∉M/\r∉M):zC P k w' m r N f left cnt:=by
 have a:=h.map.lt;have c:=h.lt;obtain⟨L,e,f⟩:=h;exact⟨L,znU e (hk.block m a hM.1) (hk.block r c hM.2),f⟩
theorem new(h:zC P k w m r N f left cnt)(hb:Below w.heap.size w w'):zC P k w' m r N f left cnt:=h.nu (M:=[]) (Kp.of_below hb) ig
theorem only{g:Nat}(h:zC P k w m r N f left cnt)(ho:Only g w w')(hg:m≠g/\r≠g):zC P k w' m r N f left cnt:=h.nu (Kp.rC ho) kY
end zC
section
variable {P:Program}{ρ:Env}{w:World}{d:Option Nat}{ty:TypeId}{pos:String}{af:Array Edge}{gd:Option (Nat × Bool)}{K:Value->World->Prop}{Kw:World->Prop}
theorem zr5 {t k e:TypeId} {x:Operand} {m N:Nat} {f:Nat->Option Value} (ht:P.underlying t=some (.map k e)) (hk:P.underlying k=some (.int .i64)) (hm:MapAt P k w m N f) (hx:ev ρ x= .map (some m))
  (h:∀ r w' cnt,w.heap.size<=r->zC P k w' m r N f (λi=>(f i).isSome) cnt->Below w.heap.size w w'->K (.pointer (some ⟨r,0,none⟩)) w'):Mk P ρ w ⟨d, .range t x,ty,pos,af,gd⟩ K:=by
 obtain⟨w',hr,e,a,f⟩:=World.ownsMap.range hm (int_keyed hk) ht;refine⟨_,w',?_,h _ w' _ (ax _) ⟨_,e,λi c=>Hr c⟩ ⟨a.os,a.tape,a.output,a.size,λi c=>a.block i c ig⟩⟩;simp[execOp,hx,hr,Result.andThen]
theorem zt1 {x:Operand} {k:TypeId} {m r N cnt:Nat} {f:Nat->Option Value} {left:Nat->Bool} (hk:P.underlying k=some (.int .i64)) (hg:zC P k w m r N f left cnt) (hx:ev ρ x= .pointer (some ⟨r,0,none⟩))
  (h0:(∀ i,i<N->left i=false)->K (.tuple #[.bool false]) w)
  (h1:∀ (i:Nat) (v:Value) (w':World) (cnt':Nat),i<N->left i=true->f i=some v->zC P k w' m r N f (λj=>left j && !decide (j=i)) cnt'->cnt'<cnt->Only r w w'->
   (Instr.entry (.pointer (some ⟨r,0,none⟩))).run P w'= .ok (.tuple #[.int .i64 (i:Int),v]) w'->K (.tuple #[.bool true, .int .i64 (i:Int),v]) w'):Mk P ρ w ⟨d, .next x false,ty,pos,af,gd⟩ K:=by
 obtain⟨L,hg,h⟩:=hg;rcases hg.next (int_keyed hk) ty with⟨M,s,k⟩|⟨key,v,kl,t,w',cnt',y,m,z,A,k,B,C,e,D,E⟩
 .exact⟨_,_,by simp[execOp,hx,k,Result.andThen],h0 λi o=>by rw[<-h i o];exact s _⟩
 .obtain⟨O,F⟩:=zqi hg m rfl
  obtain⟨i,u,_,o,p,G⟩:=Rk F;have f:kl= .int .i64 (i:Int):=congrArg Prod.fst G;obtain⟨a,rfl,g,_⟩:=Maps.keyOf_int_inv hk y;rw[f]at g
  injection g with _ g
  subst g;have r:i<N:=by omega
  have H:u=v:=by
   have c:=A (.held u);rw[f]at c;have l:(some (DataW.held v,([]:List MemPlace)))=some t:=z
   injection l with l
   rw[<-l]at c;unfold DataW.atKey at c;simp only[RJ N 0 (aC _) (by omega:i<0+N),p]at c
   injection c
  subst H;refine⟨_,w',by simp[execOp,hx,k,Result.andThen],h1 i u w' cnt' r (by rw[<-h i r,<-f];exact m) p ⟨_,B,λj I=>?_⟩ C ⟨e.os,e.tape,e.output,D,λq J=>?_⟩ E⟩
  .rw[h j I,f,Ja]
  .by_cases K:q<w.heap.size
   .exact e.block q K (by simpa using J)
   .rw[fT eu,fT eu]
theorem zt2{x:Operand}{r:Nat}{v:Value}(hx:ev ρ x= .pointer (some ⟨r,0,none⟩))(hen:(Instr.entry (.pointer (some ⟨r,0,none⟩))).run P w= .ok v w):(execOp (ev ρ) ⟨d, .entry x,ty,pos,af,gd⟩).run P w= .ok (.value v) w:=by
 simp[execOp,hx,hen,Result.andThen]
end
end Coup
