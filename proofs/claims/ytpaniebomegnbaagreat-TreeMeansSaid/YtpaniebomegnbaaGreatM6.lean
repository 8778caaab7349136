import Derived.Test.YtpaniebomegnbaaGreatM5
import Derived.Maps.RangeWalk
set_option maxHeartbeats 8000000
set_option maxRecDepth 20000
namespace Go.Proofs.YtpaniebomegnbaaGreat
open Go Go.RowKit Coup
section
variable {Y:VE}[hYT:nz Y]{q jb mw N lo:Nat}{L M:List Nat}{G0 G V:Nat->Pg}{k:Nat}{F F2:sQ}{c:tK}{w w':World}
theorem vI.Bg(h:vI q jb mw N G0 G V k F c Y lo L w)(hr:Coup.row w' jb (jV F2 q mw) 131)(ho:Only jb w w'):vI q jb mw N G0 G V k F2 c Y lo L w':=
 ⟨h.p.only ho (.inr ig),hr,h.map.only ho (bT h.ne),h.was,h.ne,h.jl,h.ml⟩
omit hYT in
theorem vI.vR(h:vI q jb mw N G0 G V k F c Y lo L w):Coup.row w jb [VB (F.fresh:Int),VB (F.free:Int),VB (F.many:Int),VB (F.records:Int),VB (F.root:Int),VA q, .map (some mw)] 131:=h.row
def sJ(kind:Nat):View:=⟨kind,0,[]⟩
theorem AJ{kind:Nat}(h:kind<=4):Good (sJ kind):=⟨h,(by show(0:Nat)<2147483648;omega),(by show 12+4*0+0<=512;omega),(λr hr=>by cases hr),(by simp[sJ])⟩
theorem Em(kind:Nat)(hk:kind<=4)(w:World):CQ 133 [VB (kind:Int)] w (λv w'=>v= .tuple #[.agg (bv (oW (sJ kind))).toArray,VB 0]/\VD w w'):=
 (Rn (kind:Int) w).to λv w' ⟨a,c⟩=>⟨by rw[a,if_pos dB,aW];rfl,c⟩
def F1(F:sQ)(nx:Nat):sQ:=⟨F.fresh,nx,F.many - 1,F.records,F.root⟩
def Us(F:sQ):sQ:=⟨F.fresh+1,F.free,F.many,F.records,F.root⟩
theorem Qb(h:Two (JZ q jb mw N G0 G V k F) Y lo L w)(kind:Nat)(hk:kind<=4)(hf0:1<=F.free)(hff:F.free<F.fresh)(hfN:F.fresh<=N)(hm1:1<=F.many)(hm2:F.many<=N){U:View}(hU:Rs G F.free U)(hU0:U.kind=0):
  CQ 117 [VA jb,VB (kind:Int)] w (λv w'=>v=VB (F.free:Int)/\Two (JZ q jb mw N G0 (um G F.free (oW (sJ kind))) V k (F1 F U.next)) Y lo L w'/\nC lo L w w'):=by
 have Z:=(DR h).1;have p:=Aq (sJ kind) (AJ hk).size;have H:=vk (AJ hk);have I:=vk hU.1;have r:=Em kind hk;have s:∀ n (t:n<N) F L' w' (f:Two (JZ q jb mw N G0 G V k F) Y lo L' w'),CQ 162 [VA jb,VB (n:Int), .agg (bv (oW (sJ kind))).toArray] w' (λ_ w2=>Two (JZ q jb mw N G0 (um G n (oW (sJ kind))) V k F) Y lo L' w2/\nC lo L' w' w2):=λn t F L' w' f=>Ou f n t _ p
 have j:=λL' w' (f:Two (JZ q jb mw N G0 G V k F) Y lo L' w')=>CF f F.free 0 hf0 hff hfN hU hU0
 have u:=λw=>Er U w hU.1
 obtain⟨Q,J⟩:=aa (oW (sJ kind));obtain⟨a0,K⟩:=aa (oW U);simp only[J]at s r H p |-;simp only[K]at j u I;obtain⟨fr,a1,g,y,z⟩:=F;dsimp only at hf0 hff hfN hm1 hm2 j |-;obtain⟨c,h⟩:=uq h;have a:=nC.refl lo L w;have e:=h.vR;have M:=h.jl;obtain⟨a2,a3⟩:=M;dsimp only at e;refine nZ (rs:=[.tmp 4]) (n:=68) Tryz.func117 rfl rfl Tryz.ntmps117 dA rfl<|ny<|oG<|ng<|mZ (oo rfl)<|mZ (nG 0)<|mZ (nG 1)<|mZ (nH e)<|nA<|nk<|nI<|ny<|ng<|mZ (pJ rfl rfl)<|nk<|uT rfl (dB)<|ny<|ng<|ng<|ng<|nP (j _ w h.close) ?_;rintro _ O ⟨rfl,l,P⟩;obtain⟨c2,h⟩:=uq l;have e:=h.vR;replace a:=a.lq P;refine nP (u O) ?_;rintro _ a4 ⟨rfl,m⟩;replace h:=h.new m;replace a:=a.new m;replace e:=e.new m;refine mZ (oo rfl)<|mZ (nG 0)<|mZ (nG 1)<|nT<|pQ e<|λa5 e A=>?_
 replace a:=a.oq A;have h:=h.Bg (F2:=⟨fr,U.next,g,y,z⟩) e A;refine nk<|nO<|ng<|mZ (oo rfl)<|mZ (nG 0)<|mZ (nG 2)<|mZ (nH e)<|mZ (vZ rfl rfl (show IntKind.i64.wrap ((g:Int) - 1)=((g - 1:Nat):Int) by rw[nV dB];omega))<|mZ (oo rfl)<|mZ (nG 0)<|mZ (nG 2)<|nT<|pQ e<|λR e B=>?_
 replace a:=a.oq B;have h:=h.Bg (F2:=⟨fr,U.next,g - 1,y,z⟩) e B;refine qx<|ng<|nP (r R) ?_
 rintro _ a6 ⟨rfl,o⟩;replace a:=a.new o;replace e:=e.new o;replace h:=h.new o;refine ng<|mZ (nW rfl rfl)<|mZ (nW rfl rfl)<|nK<|oD (List.replicate 512 (Value.int .u8 0)) dA<|λS a7 C i D=>?_
 have a8:=a.size;have a9:jb<S:=ae e.lt C;replace a:=a.new D;replace h:=h.nL D C i.lt;refine nT<|oC 512 (bv Q) i<|λT i E=>?_
 replace a:=a.oq E;replace h:=h.only E eG;refine oG<|ng<|ng<|mZ (pz 512 i)<|qA rfl (oz dA rfl) (s _ dB _ _ T h.close) ?_
 rintro _ b0 ⟨l,X⟩;replace a:=a.lq X;refine mM ?_;exact⟨rfl,l.weak (λb hb=>by simp[hb]),a⟩
theorem Ov(h:Two (JZ q jb mw N G0 G V k F) Y lo L w)(kind:Nat)(hk:kind<=4)(hf0:F.free=0)(hfN:F.fresh<N):
  CQ 117 [VA jb,VB (kind:Int)] w (λv w'=>v=VB (F.fresh:Int)/\Two (JZ q jb mw N G0 (um G F.fresh (oW (sJ kind))) V k (Us F)) Y lo L w'/\nC lo L w w'):=by
 have X:=(DR h).1;have o:=Aq (sJ kind) (AJ hk).size;have B:=vk (AJ hk);have p:=Em kind hk;have r:∀ n (s:n<N) F L' w' (f:Two (JZ q jb mw N G0 G V k F) Y lo L' w'),CQ 162 [VA jb,VB (n:Int), .agg (bv (oW (sJ kind))).toArray] w' (λ_ w2=>Two (JZ q jb mw N G0 (um G n (oW (sJ kind))) V k F) Y lo L' w2/\nC lo L' w' w2):=λn s F L' w' f=>Ou f n s _ o
 have C:=λL' w' (f:Two (GZ q N G V k) Y lo L' w')=>JX f
 obtain⟨Q,D⟩:=aa (oW (sJ kind));simp only[D]at r p B o |-;obtain⟨fr,Z,E,H,I⟩:=F;dsimp only at hf0 hfN |-;subst hf0;obtain⟨c,h⟩:=uq h;have a0:∀ b∈L,b<w.heap.size:=λb hb=>h.p.lt b jX
 have a1:=h.p.lo;have a:=nC.refl lo L w;have e:=h.vR;have J:=h.jl;obtain⟨a2,a3⟩:=J;dsimp only at e;refine nZ (rs:=[.tmp 4]) (n:=68) Tryz.func117 rfl rfl Tryz.ntmps117 dA rfl<|ny<|oG<|ng<|mZ (oo rfl)<|mZ (nG 0)<|mZ (nG 1)<|mZ (nH e)<|nA<|nk<|nI<|ny<|ng<|mZ (pJ rfl rfl)<|nk<|qg rfl (ig)<|nI<|nI<|vX (lo) ((jb::L)) dA ?_
 intro K j a4 M;replace h:=h.new j;replace a:=a.new j;replace e:=e.new j;have t:=e;refine nu 0 (nS)<|nu 1 (oo rfl)<|nu 2 (nG 0)<|nu 3 (nG 0)<|nR 4 (λw' l=>nH (t.kL l))<|nu 5 (nS)<|nu 6 (oo rfl)<|nu 7 (nG 5)<|nR 8 (λw' l=>nH (t.kL l))<|oh 9 dA<|qw rfl rfl (oz dA rfl) (C _ K h.p) ?_
 rintro _ a5 ⟨rfl,g⟩;have O:=M.add0 g;refine⟨O,?_⟩;replace h:=h.new g;replace a:=a.new g;replace e:=e.new g;refine nu 10 (qB rfl rfl)<|pq dA<|nJ<|qg rfl (dB)<|nU<|nJ<|ny<|ng<|mZ (oo rfl)<|mZ (nG 0)<|mZ (nG 0)<|mZ (nH e)<|nA<|nk<|nO<|ng<|mZ (oo rfl)<|mZ (nG 0)<|mZ (nG 0)<|mZ (nH e)<|mZ (oJ rfl rfl (show IntKind.i64.wrap ((fr:Int)+1)=((fr+1:Nat):Int) by rw[nV dB];omega))<|mZ (oo rfl)<|mZ (nG 0)<|mZ (nG 0)<|nT<|pQ e<|λP e u=>?_
 replace a:=a.oq u;have h:=h.Bg (F2:=⟨fr+1,0,E,H,I⟩) e u;refine qx<|ng<|nP (p P) ?_
 rintro _ a6 ⟨rfl,m⟩;replace a:=a.new m;replace e:=e.new m;replace h:=h.new m;refine ng<|mZ (nW rfl rfl)<|mZ (nW rfl rfl)<|nK<|oD (List.replicate 512 (Value.int .u8 0)) dA<|λR a7 y i z=>?_
 have a8:=a.size;have a9:jb<R:=ae e.lt y;replace a:=a.new z;replace h:=h.nL z y i.lt;refine nT<|oC 512 (bv Q) i<|λS i A=>?_
 replace a:=a.oq A;replace h:=h.only A eG;refine oG<|ng<|ng<|mZ (pz 512 i)<|nP (r _ (hfN) _ _ S h.close) ?_
 rintro _ b0 ⟨T,U⟩;replace a:=a.lq U;refine mM ?_;exact⟨rfl,T.weak (λb hb=>by simp[hb]),a⟩
theorem QG(h:Two (JZ q jb mw N G0 G V k F) Y lo L w)(kind:Nat)(hk:kind<=4)(hf0:F.free=0)(hfN:F.fresh=N):
  Calls Tryz.prog 117 [VA jb,VB (kind:Int)].toArray w (ul (λ_ _=>False) λcn w'=>cn=pe (xN 8)/\Two (JZ q jb mw N G0 G V k F) Y lo L w'/\nC lo L w w'):=by
 have I:=(DR h).1;have l:=Aq (sJ kind) (AJ hk).size;have r:=vk (AJ hk);have s:=Em kind hk;have t:∀ n (m:n<N) F L' w' (f:Two (JZ q jb mw N G0 G V k F) Y lo L' w'),CQ 162 [VA jb,VB (n:Int), .agg (bv (oW (sJ kind))).toArray] w' (λ_ w2=>Two (JZ q jb mw N G0 (um G n (oW (sJ kind))) V k F) Y lo L' w2/\nC lo L' w' w2):=λn m F L' w' f=>Ou f n m _ l
 have u:=λL' w' (f:Two (GZ q N G V k) Y lo L' w')=>JX f
 obtain⟨Q,y⟩:=aa (oW (sJ kind));simp only[y]at t s r l |-;obtain⟨fr,J,K,M,O⟩:=F;dsimp only at hf0 hfN |-;subst hf0;subst hfN;obtain⟨c,h⟩:=uq h;have P:∀ b∈L,b<w.heap.size:=λb hb=>h.p.lt b jX
 have R:=h.p.lo;have a:=nC.refl lo L w;have e:=h.vR;have z:=h.jl;obtain⟨S,T⟩:=z;dsimp only at e;refine xg (rs:=[.tmp 4]) (n:=68) Tryz.func117 rfl rfl Tryz.ntmps117 dA rfl<|ny<|oG<|ng<|mZ (oo rfl)<|mZ (nG 0)<|mZ (nG 1)<|mZ (nH e)<|nA<|nk<|nI<|ny<|ng<|mZ (pJ rfl rfl)<|nk<|qg rfl (ig)<|nI<|nI<|vX (lo) ((jb::L)) dA ?_
 intro A g U B;replace h:=h.new g;replace a:=a.new g;replace e:=e.new g;have o:=e;refine nu 0 (nS)<|nu 1 (oo rfl)<|nu 2 (nG 0)<|nu 3 (nG 0)<|nR 4 (λw' i=>nH (o.kL i))<|nu 5 (nS)<|nu 6 (oo rfl)<|nu 7 (nG 5)<|nR 8 (λw' i=>nH (o.kL i))<|oh 9 dA<|qw rfl rfl (oz dA rfl) (u _ A h.p) ?_
 rintro _ C ⟨rfl,j⟩;have D:=B.add0 j;refine⟨D,?_⟩;replace h:=h.new j;replace a:=a.new j;refine nu 10 (qB rfl rfl)<|pq dA<|nJ<|uT rfl (rfl)<|nO<|wN rfl (oz dA rfl) (EB 8 iT C) ((λc w' ⟨E,p⟩=>wY ⟨E,by rw[<-p];exact h.close,by rw[<-p];exact a⟩)) ?_;rintro _ _ H;exact H.elim
def Ah(F:sQ):View:=⟨0,F.free,[]⟩
def Fb(F:sQ)(n:Nat):sQ:=⟨F.fresh,n,F.many+1,F.records,F.root⟩
theorem MK(h:Two (JZ q jb mw N G0 G V k F) Y lo L w)(n:Nat)(hn:n<N)(hfe:F.free<=N)(hma:F.many<=N):
  CQ 110 [VA jb,VB (n:Int)] w (λ_ w'=>Two (JZ q jb mw N G0 (um G n (oW (Ah F))) V k (Fb F n)) Y lo L w'/\nC lo L w w'):=by
 have a6:=(DR h).1;have i:=AJ (kind:=0) dB;have A:Good (Ah F):=⟨i.kind,(by show F.free<2147483648;omega),i.size,i.cell,i.last⟩;have B:=Aq (Ah F) A.size;have R:=vk A;have S:=vk i;have C:=Em 0 dB;have l:∀ w,CQ 161 [.agg (bv (oW (sJ 0))).toArray,VB (F.free:Int)] w (λv w'=>v= .tuple #[.agg (bv (oW (Ah F))).toArray,VB 0]/\VD w w'):=λw=>LF (sJ 0) F.free w i dB
 have D:∀ F2 L' w' (E:Two (JZ q jb mw N G0 G V k F2) Y lo L' w'),CQ 162 [VA jb,VB (n:Int), .agg (bv (oW (Ah F))).toArray] w' (λ_ w2=>Two (JZ q jb mw N G0 (um G n (oW (Ah F))) V k F2) Y lo L' w2/\nC lo L' w' w2):=λF2 L' w' E=>Ou E n hn _ B
 obtain⟨Q,T⟩:=aa (oW (Ah F));obtain⟨P0,U⟩:=aa (oW (sJ 0));simp only[T]at D l R B |-;simp only[U]at C l S;obtain⟨fr,a7,m,H,I⟩:=F;dsimp only at hfe hma l |-;obtain⟨c,h⟩:=uq h;have X:∀ b∈L,b<w.heap.size:=λb hb=>h.p.lt b jX
 have a8:=h.p.lo;have f:=nC.refl lo L w;have a:=h.vR;have Z:=h.jl;obtain⟨a9,b0⟩:=Z;dsimp only at a;refine nZ (rs:=[]) (n:=38) Tryz.func110 rfl rfl Tryz.ntmps110 dA rfl<|ny<|nP (C w) ?_
 rintro _ b1 ⟨rfl,s⟩;replace h:=h.new s;replace f:=f.new s;replace a:=a.new s;refine ng<|mZ (nW rfl rfl)<|mZ (nW rfl rfl)<|nK<|oD (List.replicate 512 (Value.int .u8 0)) dA<|λJ b2 K g t=>?_
 have b3:=f.size;have o:jb<J:=ae a.lt K;replace h:=h.nL t K g.lt;replace f:=f.new t;replace a:=a.new t;refine nT<|oC 512 (bv P0) g<|λb4 g u=>?_
 replace h:=h.only u eG;replace f:=f.oq u;replace a:=a.only u (ai o);refine nA<|nk<|nI ?_
 have b5:=f.size;have b6:=g.lt;have b7:J∉jb::L:=λe=>by
  rcases ak.1 e with e|e
  .omega
  .have:=X _ e;omega
 refine vX lo ((jb::L)) dA ?_;intro a0 p b8 M;replace h:=h.new p;replace f:=f.new p;replace a:=a.new p;replace g:=g.new p;have b9:=h;have c4:=f;have a1:=a;have c5:=g;refine nu 1 (nS)<|nu 2 (oo rfl)<|nu 3 (nG 0)<|nu 4 (nG 1)<|nR 5 (λw' a2=>nH (a1.kL a2))<|oh 0 dA<|Bi rfl rfl (pz 512 g) M<|oh 6 dA<|qw rfl rfl (oz dA rfl) (l a0) ?_
 rintro _ c6 ⟨rfl,j⟩;have O:=M.add0 j;refine⟨O,?_⟩;replace h:=h.new j;replace f:=f.new j;replace a:=a.new j;replace g:=g.new j;refine nu 7 (nS)<|nu 8 (nW rfl rfl)<|nu 9 (nW rfl rfl)<|oh 10 dA<|rA rfl rfl<|oC 512 (bv Q) g<|λa3 g r=>?_
 have a4:=O.add1 r iD;refine⟨a4,?_⟩;replace h:=h.only r eG;replace f:=f.oq r;replace a:=a.only r (ai o);refine pq dA<|nJ<|ny<|ng<|ng<|mZ (pz 512 g)<|nP (D _ _ a3 h.close) ?_
 rintro _ c7 ⟨a5,P⟩;obtain⟨c2,h⟩:=uq a5;have a:=h.vR;dsimp only at a;replace f:=f.lq P;replace g:=g.kl P;refine qx<|ng<|ng<|mZ (oo rfl)<|mZ (nG 0)<|mZ (nG 1)<|nT<|pQ a<|λc8 a y=>?_
 replace f:=f.oq y;replace g:=g.only y (bu o);have h:=h.Bg (F2:=⟨fr,n,m,H,I⟩) a y;refine nk<|nO<|ng<|mZ (oo rfl)<|mZ (nG 0)<|mZ (nG 2)<|mZ (nH a)<|mZ (oJ rfl rfl (show IntKind.i64.wrap ((m:Int)+1)=((m+1:Nat):Int) by rw[nV dB];omega))<|mZ (oo rfl)<|mZ (nG 0)<|mZ (nG 2)<|nT<|pQ a<|λc9 a z=>?_
 replace f:=f.oq z;replace g:=g.only z (bu o);have h:=h.Bg (F2:=⟨fr,n,m+1,H,I⟩) a z;refine mf ?_;exact⟨(h.weak (λb hb=>by simp[hb])).close,f⟩
end
def nv(l:List Nat):List Value:=l.map fun(n:Nat)=>VB (n:Int)
theorem Cy(l:List Nat):(nv l).length=l.length:=aP ..
section
variable {Y:VE}[hYT:nz Y]{q jb mw N lo:Nat}{L:List Nat}{G0 G V:Nat->Pg}{k:Nat}{F:sQ}{w:World}
end
section
variable {Y:VE}[hYT:nz Y]{q jb mw N lo:Nat}{L:List Nat}{G0 G V:Nat->Pg}{k:Nat}{F:sQ}{w:World}
theorem PM(h:Two (JZ q jb mw N G0 G V k F) Y lo L w)(p s:Int)(hf:p<1\/(F.fresh:Int)<=p):
   Calls Tryz.prog 235 [VA jb, .agg #[VB p,VB s]].toArray w (ul (λ_ _=>False) λcn w'=>cn=pe (xN 6)/\Two (JZ q jb mw N G0 G V k F) Y lo L w'/\nC lo L w w'):=by
 obtain⟨c,h⟩:=uq h;have a:=nC.refl lo L w;have e:=h.vR;have z:=h.jl;obtain⟨fr,A,B,C,D⟩:=F;dsimp only at e hf |-;refine xg (rs:=[.tmp 4]) (n:=42) Tryz.func235 rfl rfl Tryz.ntmps235 dA rfl<|ny<|nK<|qi ([VB p,VB s]) rfl<|λr E t i k=>?_
 replace h:=h.nL k t i.lt;replace a:=a.new k;replace e:=e.new k;refine nA<|nk<|nI<|nI<|vX (lo) ((r::jb::L)) dA ?_
 intro o j G H;replace h:=h.new j;replace a:=a.new j;replace e:=e.new j;replace i:=i.new j;have u:=e;have q:=i;refine nu 0 (nG 0)<|nR 1 (λw' f=>nH (q.kL f))<|nu 2 (pI rfl rfl)<|nu 3 (nS)<|EW 11 rfl (λy=>?_)<|λy=>?_
 ·
  refine oU 4 dA rfl<|oU 5 dA rfl<|oU 6 dA rfl<|oU 7 dA rfl<|oU 8 dA rfl<|oU 9 dA rfl<|oU 10 dA rfl<|oU 11 dA rfl<|nu 12 (pK rfl)<|pq dA<|nJ<|yB rfl<|nO<|wN rfl (oz dA rfl) (EB 6 iT o) ((λc w' ⟨l,g⟩=>wY ⟨l,by rw[<-g];exact(h.weak (λb hb=>by simp[hb])).close,by rw[<-g];exact a⟩)) ?_
  rintro _ _ m;exact m.elim
 ·
  refine nu 4 (nG 0)<|nR 5 (λw' f=>nH (q.kL f))<|nu 6 (nS)<|nu 7 (oo rfl)<|nu 8 (nG 0)<|nu 9 (nG 0)<|nR 10 (λw' f=>nH (u.kL f))<|nu 11 (tV rfl rfl)<|nu 12 (oP rfl)<|pq dA<|nJ<|uT rfl (dB)<|nO<|wN rfl (oz dA rfl) (EB 6 iT o) ((λc w' ⟨l,g⟩=>wY ⟨l,by rw[<-g];exact(h.weak (λb hb=>by simp[hb])).close,by rw[<-g];exact a⟩)) ?_
  rintro _ _ m;exact m.elim
theorem Ra(h:Two (JZ q jb mw N G0 G V k F) Y lo L w)(n:Nat)(s:Int)(h1:1<=n)(hf:n<F.fresh)(hfN:F.fresh<=N){U:View}(hU:Rs G n U)(hk1:Az U.slots s=false\/U.kind≠1):
  Calls Tryz.prog 235 [VA jb, .agg #[VB (n:Int),VB s]].toArray w (ul (λ_ _=>False) λcn w'=>cn=pe (xN 6)/\Two (JZ q jb mw N G0 G V k F) Y lo L w'/\nC lo L w w'):=by
 cases hh:Az U.slots s with
 |false=>
 rw[hh]at hk1;have a2:=(DR h).1;have t:=λc L' w' (H:vI q jb mw N G0 G V k F c Y lo L' w')=>Pz H n dB
 have l:=λw'=>Sg U s w' hU.1
 have y:=λw'=>QQ U w' hU.1
 have I:=vk hU.1;simp only[hU.2]at t;obtain⟨Q,J⟩:=aa (oW U);obtain⟨a3,K⟩:=aa (U.kind);obtain⟨a4,M⟩:=aa (Au U.slots s);simp only[J]at t l y I;simp only[K]at y hk1;simp only[M]at l |-;simp only[hh]at l;obtain⟨c,h⟩:=uq h;have a:=nC.refl lo L w;have g:=h.vR;have a5:=h.jl;obtain⟨fr,a6,a7,a8,a9⟩:=F;dsimp only at g hf |-;refine xg (rs:=[.tmp 4]) (n:=42) Tryz.func235 rfl rfl Tryz.ntmps235 dA rfl<|ny<|nK<|qi ([VB (n:Int),VB s]) rfl<|λA b0 O f u=>?_
 replace h:=h.nL u O f.lt;replace a:=a.new u;replace g:=g.new u;refine nA<|nk<|nI<|nI<|vX (lo) ((A::jb::L)) dA ?_
 intro P m b1 b2;replace h:=h.new m;replace a:=a.new m;replace g:=g.new m;replace f:=f.new m;have R:=g;have B:=f;refine nu 0 (nG 0)<|nR 1 (λw' j=>nH (B.kL j))<|nu 2 (pI rfl rfl)<|nu 3 (nS)<|Ap 11 rfl (dB)<|nu 4 (nG 0)<|nR 5 (λw' j=>nH (B.kL j))<|nu 6 (nS)<|nu 7 (oo rfl)<|nu 8 (nG 0)<|nu 9 (nG 0)<|nR 10 (λw' j=>nH (R.kL j))<|nu 11 (tV rfl rfl)<|nu 12 (oP rfl)<|pq dA<|nJ<|qg rfl (dB)<|nU<|nJ<|ny<|ng<|mZ (nG 0)<|mZ (nH f)<|nP (t _ _ P h) ?_
 rintro _ b3 ⟨rfl,h,C⟩;have g:=h.vR;replace a:=a.lq C;replace f:=f.kl C;refine nK<|oD (List.replicate 512 (Value.int .u8 0)) dA<|λE b4 z i p=>?_
 have b5:jb<E:=ae g.lt z;have S:A<E:=ae f.lt z;replace h:=h.nL p z i.lt;replace a:=a.new p;replace g:=g.new p;replace f:=f.new p;refine nT<|oC 512 (bv Q) i<|λT i r=>?_
 replace h:=h.only r eG;replace a:=a.oq r;replace g:=g.only r (ai b5);replace f:=f.only r (ai S);refine qx<|mZ (pz 512 i)<|mZ (nG 1)<|mZ (nH f)<|nP (l T) ?_
 rintro _ X ⟨⟨b6,b7,rfl,b8,b9,c4⟩,o⟩;replace h:=h.new o;replace a:=a.new o;replace g:=g.new o;replace f:=f.new o;replace i:=i.new o;refine ng<|mZ (nW rfl rfl)<|mZ (nW rfl rfl)<|nA<|nA<|nk<|nI<|ny<|ng<|mZ (pJ rfl rfl)<|ng<|zT 35 rfl (ig)<|nN<|nN<|nN<|mZ (pK rfl)<|nk<|yB rfl<|nO<|wN rfl (oz dA rfl) (EB 6 iT X) ((λc w' ⟨Z,D⟩=>wY ⟨Z,by rw[<-D];exact(h.weak (λb hb=>by simp[hb])).close,by rw[<-D];exact a⟩)) ?_;rintro _ _ a0;exact a0.elim
 |true=>
 rw[hh]at hk1;have a2:=(DR h).1;have t:=λc L' w' (H:vI q jb mw N G0 G V k F c Y lo L' w')=>Pz H n dB
 have l:=λw'=>Sg U s w' hU.1
 have y:=λw'=>QQ U w' hU.1
 have I:=vk hU.1;simp only[hU.2]at t;obtain⟨Q,J⟩:=aa (oW U);obtain⟨a3,K⟩:=aa (U.kind);obtain⟨a4,M⟩:=aa (Au U.slots s);simp only[J]at t l y I;simp only[K]at y hk1;simp only[M]at l |-;simp only[hh]at l;obtain⟨c,h⟩:=uq h;have a:=nC.refl lo L w;have g:=h.vR;have a5:=h.jl;obtain⟨fr,a6,a7,a8,a9⟩:=F;dsimp only at g hf |-;refine xg (rs:=[.tmp 4]) (n:=42) Tryz.func235 rfl rfl Tryz.ntmps235 dA rfl<|ny<|nK<|qi ([VB (n:Int),VB s]) rfl<|λA b0 O f u=>?_
 replace h:=h.nL u O f.lt;replace a:=a.new u;replace g:=g.new u;refine nA<|nk<|nI<|nI<|vX (lo) ((A::jb::L)) dA ?_
 intro P m b1 b2;replace h:=h.new m;replace a:=a.new m;replace g:=g.new m;replace f:=f.new m;have R:=g;have B:=f;refine nu 0 (nG 0)<|nR 1 (λw' j=>nH (B.kL j))<|nu 2 (pI rfl rfl)<|nu 3 (nS)<|Ap 11 rfl (dB)<|nu 4 (nG 0)<|nR 5 (λw' j=>nH (B.kL j))<|nu 6 (nS)<|nu 7 (oo rfl)<|nu 8 (nG 0)<|nu 9 (nG 0)<|nR 10 (λw' j=>nH (R.kL j))<|nu 11 (tV rfl rfl)<|nu 12 (oP rfl)<|pq dA<|nJ<|qg rfl (dB)<|nU<|nJ<|ny<|ng<|mZ (nG 0)<|mZ (nH f)<|nP (t _ _ P h) ?_
 rintro _ b3 ⟨rfl,h,C⟩;have g:=h.vR;replace a:=a.lq C;replace f:=f.kl C;refine nK<|oD (List.replicate 512 (Value.int .u8 0)) dA<|λE b4 z i p=>?_
 have S:A<E:=ae f.lt z;replace h:=h.nL p z i.lt;replace a:=a.new p;replace f:=f.new p;refine nT<|oC 512 (bv Q) i<|λT i r=>?_
 replace h:=h.only r eG;replace a:=a.oq r;replace f:=f.only r (ai S);refine qx<|mZ (pz 512 i)<|mZ (nG 1)<|mZ (nH f)<|nP (l T) ?_
 rintro _ X ⟨⟨b6,b7,rfl,b8,b9,c4⟩,o⟩;replace h:=h.new o;replace a:=a.new o;replace i:=i.new o;refine ng<|mZ (nW rfl rfl)<|mZ (nW rfl rfl)<|nA<|nA<|nk<|nI<|ny<|ng<|mZ (pJ rfl rfl)<|ng<|uy 35 rfl (ig)<|nE<|mZ (pz 512 i)<|nE<|nP (y X) ?_;rintro _ c5 ⟨rfl,a1⟩;replace h:=h.new a1;replace a:=a.new a1;refine nE<|mZ (pJ rfl rfl)<|mZ (oP rfl)<|nk<|uT rfl ((hk1.elim (λe=>by cases e) (λe=>dB)))<|nO<|wN rfl (oz dA rfl) (EB 6 iT c5) ((λc w' ⟨Z,D⟩=>wY ⟨Z,by rw[<-D];exact(h.weak (λb hb=>by simp[hb])).close,by rw[<-D];exact a⟩)) ?_;rintro _ _ a0;exact a0.elim
end
section
variable {Y:VE}[hYT:nz Y]{q jb mw N lo:Nat}{L:List Nat}{G0 G V:Nat->Pg}{k:Nat}{F:sQ}{w:World}
end
structure HS where
 F:sQ
 S:Nat->View
def qG(S:Nat->View)(n:Nat)(U:View):Nat->View:=λi=>if i=n then U else S i
theorem uU(S:Nat->View)(n:Nat)(U:View):qG S n U n=U:=if_pos rfl
theorem tF{S:Nat->View}{n i:Nat}{U:View}(h:i≠n):qG S n U i=S i:=if_neg h
theorem wW.frame{S S':Nat->View}:∀ {l:List Nat} {n:Nat},wW S n l->(∀ m∈l,S' m=S m)->wW S' n l
 |[],_,h,_=>h
 |m::l,n,⟨h1,h2,h3⟩,he=>⟨h1,h2,by rw[he m ig];exact wW.frame h3 λi a=>he i kE⟩
theorem wW.set{S:Nat->View}{l:List Nat}{n m:Nat}{U:View}(h:wW S n l)(hm:m∉l):wW (qG S m U) n l:=h.frame λi a=>tF λe=>hm (e▸a)
structure rC(N:Nat)(H:HS)(fl:List Nat):Prop where
 f1:1<=H.F.fresh
 fN:H.F.fresh<=N
 gd:∀ n,1<=n->n<H.F.fresh->Good (H.S n)
 ch:wW H.S H.F.free fl
 fk:∀ n∈fl,1<=n/\n<H.F.fresh/\(H.S n).kind=0
 nd:fl.Nodup
 fm:fl.length=H.F.many
 rc:H.F.records<H.F.fresh
 rt:H.F.root<N
structure GS(z:Nat->Pg)(G:Nat->Pg)(H:HS):Prop where
 s:∀ n,1<=n->n<H.F.fresh->G n=oW (H.S n)
 z0:G 0=z 0
 u:∀ n,H.F.fresh<=n->G n=z n
theorem GS.fr{z:Nat->Pg}{G:Nat->Pg}{H H2:HS}(h:GS z G H)(hf:H2.F.fresh=H.F.fresh)(hS:H2.S=H.S):GS z G H2:=⟨λn a c=>by rw[hS];exact h.s n a dB,h.z0,λn a=>h.u n dB⟩
theorem rC.SK{N:Nat}{H:HS}{fl:List Nat}{z:Nat->Pg}{G:Nat->Pg}(h:rC N H fl)(hG:GS z G H){n:Nat}(h1:1<=n)(h2:n<H.F.fresh):Rs G n (H.S n):=⟨h.gd n h1 h2,hG.s n h1 h2⟩
theorem EG:∀ (n a:Nat) (l:List Nat),l.Nodup->(∀ x∈l,a<=x/\x<a+n)->l.length<=n
 |0,a,l,_,h=>by
  cases l with
  |nil=>exact ax 0
  |cons x t=>have:=h x ig;omega
 |n+1,a,l,hn,h=>by
  by_cases f:a+n∈l
  .have i:=EG n a (l.erase (a+n)) (hn.erase _) λx c=>by
    have g:=(hn.mem_erase_iff).1 c;have:=h x g.2;omega
   rw[List.length_erase_of_mem f]at i;omega
  .have:=EG n a l hn λx c=>by
    have g:=h x c;have:x≠a+n:=λe=>f (e▸c)
    omega
   omega
theorem rC.many{N:Nat}{H:HS}{fl:List Nat}(h:rC N H fl):H.F.many<H.F.fresh:=by
 have c:=h.fm;have e:=h.f1;have f:=EG (H.F.fresh - 1) 1 fl h.nd λn a=>by
  have:=h.fk n a;omega
 omega
theorem rC.free{N:Nat}{H:HS}{fl:List Nat}(h:rC N H fl):(H.F.free=0/\fl=[])\/(∃ t,fl=H.F.free::t/\1<=H.F.free/\H.F.free<H.F.fresh/\(H.S H.F.free).kind=0/\1<=H.F.many/\wW H.S (H.S H.F.free).next t):=by
 have a:=h.ch;cases hfl:fl with
 |nil=>rw[hfl]at a;exact .inl ⟨a,rfl⟩
 |cons m t=>
  rw[hfl]at a;obtain⟨e,g,f⟩:=a;subst e;have c:=h.fk H.F.free (by rw[hfl];simp);refine .inr ⟨t,rfl,c.1,c.2.1,c.2.2,?_,f⟩;rw[<-h.fm,hfl];simp
def vM(N:Nat)(H:HS)(kind:Nat):Option (Nat × HS):=
 if H.F.free≠0 then some (H.F.free,⟨F1 H.F (H.S H.F.free).next,qG H.S H.F.free (sJ kind)⟩)
 else if H.F.fresh=N then none
 else some (H.F.fresh,⟨Us H.F,qG H.S H.F.fresh (sJ kind)⟩)
structure Fx(N:Nat)(H:HS)(fl:List Nat)(kind n:Nat)(H':HS)(fl':List Nat):Prop where
 ok:rC N H' fl'
 sub:∀ i∈fl',i∈fl
 ni:n∉fl'
 n1:1<=n
 nf:n<H'.F.fresh
 new:H'.S n=sJ kind
 old:∀ i,i≠n->H'.S i=H.S i
 grow:H.F.fresh<=H'.F.fresh
 was:n∈fl\/H.F.fresh=n
 cov:∀ i∈fl,i=n\/i∈fl'
 fre:H'.F.fresh=H.F.fresh\/n=H.F.fresh/\H'.F.fresh=H.F.fresh+1
 rec_:H'.F.records=H.F.records
 root:H'.F.root=H.F.root
theorem Sr{N:Nat}{H:HS}{fl:List Nat}{kind n:Nat}{H':HS}(h:rC N H fl)(hk:kind<=4)(he:vM N H kind=some (n,H')):∃ fl',Fx N H fl kind n H' fl':=by
 unfold vM at he;rcases h.free with⟨l,c⟩|⟨t,c,m,o,u,y,p⟩
 .rw[if_neg dB]at he
  split at he
  .cases he
  .rename_i z
   cases he;have q:=h.f1;have A:=h.fN;refine⟨[],⟨?_,?_,?_,l,λi a=>(by cases a),fI,?_,?_,h.rt⟩,λi a=>(by cases a),ig,q,il _,uU ..,λi a=>tF a,Nat.le_succ _, .inr rfl,(λi a=>by rw[c]at a;cases a), .inr ⟨rfl,rfl⟩,rfl,rfl⟩
   .show 1<=H.F.fresh+1;omega
   .show H.F.fresh+1<=N;omega
   .intro i g j
    have B:i<H.F.fresh+1:=j;show Good (qG H.S H.F.fresh (sJ kind) i)
    by_cases e:i=H.F.fresh
    .rw[e,uU];exact AJ hk
    .rw[tF e];exact h.gd i g dB
   .have:=h.fm;rw[c]at this;exact this
   .have:=h.rc;show H.F.records<H.F.fresh+1;omega
 .rw[if_pos dB]at he
  cases he;have f:=h.nd;rw[c,cB]at f;have r:=h.rc;refine⟨t,⟨h.f1,h.fN,?_,p.set f.1,?_,f.2,?_,r,h.rt⟩,λi a=>(by rw[c];simp[a]),f.1,m,o,uU ..,λi a=>tF a,ax _, .inl (by rw[c];simp),(λi a=>by rw[c]at a;exact ak.1 a), .inl rfl,rfl,rfl⟩
  .intro i g j
   show Good (qG H.S H.F.free (sJ kind) i)
   by_cases e:i=H.F.free
   .rw[e,uU];exact AJ hk
   .rw[tF e];exact h.gd i g j
  .intro i a
   have s:i≠H.F.free:=λe=>f.1 (e▸a)
   have k:=h.fk i (by rw[c];simp[a]);refine⟨k.1,k.2.1,?_⟩;show(qG H.S H.F.free (sJ kind) i).kind=0;rw[tF s];exact k.2.2
  .have:=h.fm
   rw[c,aD]at this;show t.length=H.F.many - 1;omega
theorem N_{N:Nat}{H:HS}{fl fl':List Nat}{kind n:Nat}{H':HS}{z:Nat->Pg}{G:Nat->Pg}(hG:GS z G H)(h:Fx N H fl kind n H' fl')(hH:rC N H fl)(hfr:H'.F.fresh=H.F.fresh\/n=H.F.fresh/\H'.F.fresh=H.F.fresh+1):GS z (um G n (oW (sJ kind))) H':=by
 refine⟨λi a g=>?_,(if_neg λe=>by have:=h.n1;omega:um G n _ 0=G 0).trans hG.z0,λi c=>(if_neg λe=>by have:=h.nf;omega:um G n _ i=G i).trans (hG.u i (ag h.grow c))⟩;unfold um
 split
 .rename_i e;rw[e,h.new]
 .rename_i e
  rw[h.old i e];exact hG.s i a (by rcases hfr with f|⟨f,j⟩<;>omega)
theorem FT{N:Nat}{H:HS}{kind:Nat}(h:1<=H.F.free):vM N H kind=some (H.F.free,⟨F1 H.F (H.S H.F.free).next,qG H.S H.F.free (sJ kind)⟩):=by
 unfold vM;rw[if_pos dB]
theorem FD{N:Nat}{H:HS}{kind:Nat}(h:H.F.free=0)(hN:H.F.fresh<N):vM N H kind=some (H.F.fresh,⟨Us H.F,qG H.S H.F.fresh (sJ kind)⟩):=by
 unfold vM;rw[if_neg dB,if_neg dB]
theorem Gy{N:Nat}{H:HS}{kind:Nat}(h:H.F.free=0)(hN:H.F.fresh=N):vM N H kind=none:=by
 unfold vM;rw[if_neg dB,if_pos hN]
section
variable {Y:VE}[hYT:nz Y]{q jb mw N lo:Nat}{L:List Nat}{G0 G V:Nat->Pg}{k:Nat}{H:HS}{fl:List Nat}{w:World}
structure JH(q jb mw N:Nat)(G0 V:Nat->Pg)(k:Nat)(H:HS)(fl:List Nat)(Y:VE)(lo:Nat)(L:List Nat)(w:World):Prop where
 ok:rC N H fl
 ex:∃ G,GS G0 G H/\Two (JZ q jb mw N G0 G V k H.F) Y lo L w
def JF(q jb mw N:Nat)(G0 V:Nat->Pg)(k:Nat)(Y:VE)(lo:Nat)(L:List Nat)(w:World):Prop:=∃ G F,Two (JZ q jb mw N G0 G V k F) Y lo L w
omit hYT in
theorem JH.fail(h:JH q jb mw N G0 V k H fl Y lo L w):JF q jb mw N G0 V k Y lo L w:=let ⟨G,_,h2⟩:=h.ex;⟨G,H.F,h2⟩
theorem QX(h:JH q jb mw N G0 V k H fl Y lo L w)(kind:Nat)(hk:kind<=4):Calls Tryz.prog 117 [VA jb,VB (kind:Int)].toArray w
  (ul (λv w'=>∃ n H' fl',vM N H kind=some (n,H')/\Fx N H fl kind n H' fl'/\v=VB (n:Int)/\JH q jb mw N G0 V k H' fl' Y lo L w'/\nC lo L w w') (λc w'=>vM N H kind=none/\c=pe (xN 8)/\JF q jb mw N G0 V k Y lo L w'/\nC lo L w w')):=by
 obtain⟨a,G,l,m⟩:=h;have z:=a.many;have r:=a.fN;rcases a.free with⟨k,s⟩|⟨t,s,o,p,u,y,A⟩
 .by_cases q:H.F.fresh=N
  .exact(QG m kind hk k q).BJ (λ_ _ h=>h.elim) λc w' ⟨f,g,i⟩=>⟨Gy k q,f,⟨G,H.F,g⟩,i⟩
  .have j:=FD (kind:=kind) k (show H.F.fresh<N by omega)
   obtain⟨fl',e⟩:=Sr a hk j;exact(Ov m kind hk k dB).toP λv w' ⟨f,g,i⟩=>⟨_,_,fl',j,e,f,⟨e.ok,_,N_ l e a (.inr ⟨rfl,rfl⟩),g⟩,i⟩
 .have j:=FT (N:=N) (kind:=kind) o
  obtain⟨fl',e⟩:=Sr a hk j;exact(Qb m kind hk o p r y dB (a.SK l o p) u).toP λv w' ⟨f,g,i⟩=>⟨_,_,fl',j,e,f,⟨e.ok,_,N_ l e a (.inl rfl),g⟩,i⟩
theorem WX(h:JH q jb mw N G0 V k H fl Y lo L w)(n:Nat)(h1:1<=n)(h2:n<H.F.fresh):CQ 109 [VA jb,VB (n:Int)] w (λv w'=>v= .agg (bv (oW (H.S n))).toArray/\JH q jb mw N G0 V k H fl Y lo L w'/\nC lo L w w'):=by
 obtain⟨a,G,c,e⟩:=h;have j:=a.fN;exact(KN e n dB).to λv w' ⟨f,g,i⟩=>⟨by rw[f,c.s n h1 h2],⟨a,G,c,g⟩,i⟩
theorem rC.set(h:rC N H fl){n:Nat}{U:View}(hn:n∉fl)(hU:Good U):rC N ⟨H.F,qG H.S n U⟩ fl:=
 ⟨h.f1,h.fN,λi c f=>by
  show Good (qG H.S n U i)
  by_cases e:i=n
  .rw[e,uU];exact hU
  .rw[tF e];exact h.gd i c f,h.ch.set hn,λi a=>by
  have:=h.fk i a;have g:i≠n:=λe=>hn (e▸a)
  refine⟨this.1,this.2.1,?_⟩;show(qG H.S n U i).kind=0;rw[tF g];exact this.2.2,h.nd,h.fm,h.rc,h.rt⟩
theorem GS.set{z:Nat->Pg}(h:GS z G H){n:Nat}{U:View}(hn:1<=n)(hf:n<H.F.fresh):GS z (um G n (oW U)) ⟨H.F,qG H.S n U⟩:=⟨λi f a=>by
 show um G n (oW U) i=oW (qG H.S n U i);unfold um qG
 split
 .rfl
 .exact h.s i f a,(if_neg λe=>by omega:um G n _ 0=G 0).trans h.z0,λi c=>(if_neg λe=>by have a:H.F.fresh<=i:=c;omega:um G n _ i=G i).trans (h.u i c)⟩
namespace JH
variable {w':World}{M L2:List Nat}{gc:Nat}
theorem new(h:JH q jb mw N G0 V k H fl Y lo L w)(hb:VD w w'):JH q jb mw N G0 V k H fl Y lo L w':=let ⟨G,h1,h2⟩:=h.ex;⟨h.ok,G,h1,h2.new hb⟩
theorem nL(h:JH q jb mw N G0 V k H fl Y lo L w)(hb:VD w w')(hg:w.heap.size<=gc)(hg':gc<w'.heap.size):JH q jb mw N G0 V k H fl Y lo (gc::L) w':=let ⟨G,h1,h2⟩:=h.ex;⟨h.ok,G,h1,h2.nL hb hg hg'⟩
omit hYT in
theorem lo'(h:JH q jb mw N G0 V k H fl Y lo L w):lo<=w.heap.size/\∀ b∈L,b<w.heap.size:=let ⟨_,_,h2⟩:=h.ex;⟨h2.lo,h2.lt⟩
omit hYT in
theorem n48(h:JH q jb mw N G0 V k H fl Y lo L w):N<=2048/\4<=N:=let ⟨_,_,h2⟩:=h.ex;⟨(DR h2).1,(DR h2).2.1⟩
end JH
end
def Rb(b:List UInt8)(i:Nat):List UInt8:=(b.drop (400*i)).take 400
section
variable {Y:VE}[hYT:nz Y]{q jb mw N lo:Nat}{L:List Nat}{G0 V:Nat->Pg}{k:Nat}{H:HS}{fl:List Nat}{w:World}
theorem zuS{kd nx:Nat}{r:List UInt8}(hk:kd<=4)(hn:nx<2147483648)(hr:r.length<=400):Good ⟨kd,nx,[some r]⟩:=
 ⟨hk,hn,(by show 12+4*1+(r.length+0)<=512;omega),(λc a=>by simp at a;subst a;exact hr),ig⟩
theorem CE(kd:Nat)(hk:kd<=4)(pr:Option Addr)(cr:Nat)(r:List UInt8)(w:World)(hr:nM w pr r.length 1 (bv r))(h4:r.length<=400):Calls Tryz.prog 134 [.agg (bv (oW (sJ kd))).toArray, .slice pr r.length cr].toArray w
  (qb λv w'=>v= .tuple #[.agg (bv (oW ⟨kd,0,[some r]⟩)).toArray,VB 0,VB 0]/\VD w w'):=by
 have a:yQ (sJ kd) r=0:=by
  unfold yQ Cs;rw[if_neg dB,if_neg];show¬512<12+4*1+(r.length+0);omega
 have e:Cc (sJ kd) r=oW ⟨kd,0,[some r]⟩:=by unfold Cc;rw[if_pos a];rfl
 have c:=PP (sJ kd) pr cr r w (AJ hk) hr;rw[e,a]at c;exact c
end
structure yK(H:HS)(rl:List Nat):Prop where
 ch:wW H.S H.F.records rl
 at_:∀ m∈rl,1<=m/\m<H.F.fresh/\(H.S m).kind=1
 nd:rl.Nodup
theorem yK.li{N:Nat}{H:HS}{fl rl:List Nat}{z:Nat->Pg}{G:Nat->Pg}(h:yK H rl)(hH:rC N H fl)(hG:GS z G H):Gt G H.S H.F.fresh 1 H.F.records rl:=
 ⟨h.ch,λm c=>have a:=h.at_ m c;⟨a.1,a.2.1,hH.SK hG a.1 a.2.1,a.2.2⟩,by
  have f:=EG (H.F.fresh - 1) 1 rl h.nd λx e=>by have:=h.at_ x e;have:=hH.f1;omega
  omega⟩
theorem yK.ni{N:Nat}{H:HS}{fl rl:List Nat}(h:yK H rl)(hH:rC N H fl){m:Nat}(hm:m∈rl):m∉fl:=λa=>by
 have c:=(h.at_ m hm).2.2;have e:=(hH.fk m a).2.2;omega
theorem zuT{kd nx:Nat}(hk:kd<=4)(hn:nx<2147483648):Good ⟨kd,nx,[]⟩:=⟨hk,hn,(by show 12+4*0+0<=512;omega),(λr hr=>by cases hr),ig⟩
section
variable {Y:VE}[hYT:nz Y]{q jb mw N lo:Nat}{L:List Nat}{G0 V:Nat->Pg}{k:Nat}{H:HS}{fl:List Nat}{w:World}
end
def wZ(H:HS)(n:Nat):HS:=⟨Fb H.F n,qG H.S n (Ah H.F)⟩
theorem rC.Es{N:Nat}{H:HS}{fl:List Nat}(h:rC N H fl):H.F.free<H.F.fresh:=by
 have:=h.f1;rcases h.free with⟨a,_⟩|⟨t,_,_,c,_⟩<;>omega
theorem rC.back{N:Nat}{H:HS}{fl:List Nat}(h:rC N H fl)(hN:N<=2048){n:Nat}(h1:1<=n)(h2:n<H.F.fresh)(hn:n∉fl):rC N (wZ H n) (n::fl):=by
 have k:=h.Es;have l:=h.fN;refine⟨h.f1,h.fN,λi f g=>?_,⟨rfl,?_,?_⟩,λi a=>?_,cB.2 ⟨hn,h.nd⟩,?_,h.rc,h.rt⟩
 .show Good (qG H.S n (Ah H.F) i)
  by_cases e:i=n
  .rw[e,uU];exact zuT dB dB
  .rw[tF e];exact h.gd i f g
 .show n≠0;omega
 .show wW (qG H.S n (Ah H.F)) (qG H.S n (Ah H.F) n).next fl
  rw[uU];exact h.ch.set hn
 .rcases ak.1 a with e|a
  .rw[e]
   refine⟨h1,h2,?_⟩;show(qG H.S n (Ah H.F) n).kind=0;rw[uU];rfl
  .have c:=h.fk i a
   have j:i≠n:=λe=>hn (e▸a)
   refine⟨c.1,c.2.1,?_⟩;show(qG H.S n (Ah H.F) i).kind=0;rw[tF j];exact c.2.2
 .have:=h.fm
  rw[aD,this];rfl
section
variable {Y:VE}[hYT:nz Y]{q jb mw N lo:Nat}{L:List Nat}{G0 V:Nat->Pg}{k:Nat}{H:HS}{fl:List Nat}{w:World}
theorem Oz(h:JH q jb mw N G0 V k H fl Y lo L w)(n:Nat)(h1:1<=n)(h2:n<H.F.fresh)(hn:n∉fl):CQ 110 [VA jb,VB (n:Int)] w (λ_ w'=>JH q jb mw N G0 V k (wZ H n) (n::fl) Y lo L w'/\nC lo L w w'):=by
 have c:=h.n48.1;obtain⟨a,G,e,f⟩:=h;have j:=a.fN;have k:=a.Es;have l:=a.many;exact(MK f n dB dB dB).to λv w' ⟨g,i⟩=>⟨⟨a.back c h1 h2 hn,_,(e.set h1 h2).fr rfl rfl,g⟩,i⟩
end
structure TU(H:HS)(x:Nat)(l:List Nat)(b:List UInt8):Prop where
 ch:wW H.S x l
 at_:∀ m∈l,1<=m/\m<H.F.fresh/\(H.S m).kind=2
 sl:∀ i m,l[i]?=some m->(H.S m).slots=[some (Rb b i)]
 nd:l.Nodup
 b1:400<=b.length
 b2:b.length<=20000
 nl:l.length=(b.length+399) / 400
section
variable {Y:VE}[hYT:nz Y]{q jb mw N lo:Nat}{L:List Nat}{G0 V:Nat->Pg}{k:Nat}{H:HS}{fl:List Nat}{w:World}
end
def CellIs(H:HS)(c b:List UInt8)(l:List Nat):Prop:=(b.length<400/\c=0::b/\l=[])\/∃ x,x<2048/\c=1::(oH 4 b.length++oH 4 x)/\TU H x l b
theorem TU.frame{H H':HS}{x:Nat}{l:List Nat}{b:List UInt8}(h:TU H x l b)(hf:H.F.fresh<=H'.F.fresh)(he:∀ m∈l,H'.S m=H.S m):TU H' x l b:=
 ⟨h.ch.frame he,λm a=>by have:=h.at_ m a;rw[he m a];exact⟨this.1,dB,this.2.2⟩,λi m a=>by rw[he m (aO a)];exact h.sl i m a,h.nd,h.b1,h.b2,h.nl⟩
theorem CellIs.frame{H H':HS}{c b:List UInt8}{l:List Nat}(h:CellIs H c b l)(hf:H.F.fresh<=H'.F.fresh)(he:∀ m∈l,H'.S m=H.S m):CellIs H' c b l:=by
 rcases h with h|⟨x,a,c,e⟩
 .exact .inl h
 .exact .inr ⟨x,a,c,e.frame hf he⟩
theorem CellIs.at_{H:HS}{c b:List UInt8}{l:List Nat}(h:CellIs H c b l):l.Nodup/\∀ n∈l,1<=n/\n<H.F.fresh/\(H.S n).kind=2:=by
 rcases h with⟨_,_,rfl⟩|⟨x,_,_,a⟩
 .exact⟨fI,λn c=>by cases c⟩
 .exact⟨a.nd,a.at_⟩
structure HI(N:Nat)(H:HS)(fl rl:List Nat)(R:Nat->Nat->Prop)(P:Nat->Nat->List Nat)(B:Nat->Nat->List UInt8)(pd:List Nat):Prop where
 ok:rC N H fl
 rk:yK H rl
 cell:∀ m s,R m s->m∈rl/\∃ c,(H.S m).slots[s]?=some (some c)/\CellIs H c (B m s) (P m s)
 ap:∀ m s m' s' n,R m s->R m' s'->n∈P m s->n∈P m' s'->m=m'/\s=s'
 pk:∀ n∈pd,1<=n/\n<H.F.fresh/\(H.S n).kind=2/\∀ m s,R m s->n∉P m s
 c0:∀ n,1<=n->n<H.F.fresh->(H.S n).kind=0->n∈fl
 c1:∀ n,1<=n->n<H.F.fresh->(H.S n).kind=1->n∈rl
 c2:∀ n,1<=n->n<H.F.fresh->(H.S n).kind=2->n∈pd\/∃ m s,R m s/\n∈P m s
def Full(H:HS)(rl:List Nat)(R:Nat->Nat->Prop):Prop:=∀ m∈rl,(H.S m).slots≠[]/\∀ s c,(H.S m).slots[s]?=some (some c)->R m s
theorem yK.frame{H H':HS}{rl:List Nat}(h:yK H rl)(hf:H.F.fresh<=H'.F.fresh)(hr:H'.F.records=H.F.records)(he:∀ m∈rl,H'.S m=H.S m):yK H' rl:=
 ⟨by rw[hr];exact h.ch.frame he,λm a=>by have:=h.at_ m a;rw[he m a];exact⟨this.1,dB,this.2.2⟩,h.nd⟩
namespace HI
variable {N:Nat}{H:HS}{fl rl pd:List Nat}{R:Nat->Nat->Prop}{P:Nat->Nat->List Nat}{B:Nat->Nat->List UInt8}{m s:Nat}
theorem pat(h:HI N H fl rl R P B pd)(hr:R m s):(P m s).Nodup/\∀ n∈P m s,1<=n/\n<H.F.fresh/\(H.S n).kind=2:=(h.cell m s hr).2.elim λ_ a=>a.2.at_
theorem pni(h:HI N H fl rl R P B pd)(hr:R m s):∀ n∈P m s,n∉fl/\n∉rl:=λn c=>by
 have e:=((h.pat hr).2 n c).2.2;refine⟨λa=>?_,λa=>?_⟩
 .have:=(h.ok.fk n a).2.2;omega
 .have:=(h.rk.at_ n a).2.2;omega
end HI
namespace HI
variable {N:Nat}{H:HS}{fl rl pd:List Nat}{R:Nat->Nat->Prop}{P:Nat->Nat->List Nat}{B:Nat->Nat->List UInt8}{m s:Nat}
theorem gave(h:HI N H fl rl R P B pd){kind n:Nat}{H1:HS}{fl1:List Nat}(hg:Fx N H fl kind n H1 fl1){U:View}(hU:Good U)(rl':List Nat)(hcase:(rl'=rl/\U.kind=3)\/(rl'=n::rl/\U.kind=1/\U.next=H.F.records)):
  HI N ⟨⟨H1.F.fresh,H1.F.free,H1.F.many,if U.kind=3 then H1.F.records else n,H1.F.root⟩,qG H1.S n U⟩ fl1 rl' R P B pd:=by
 have t:n∉rl:=λg=>by
  rcases hg.was with e|e
  .exact h.rk.ni h.ok g e
  .have:=(h.rk.at_ n g).2.1;omega
 have A:n∉pd:=λg=>by
  have hp:=h.pk n g;rcases hg.was with e|e
  .have:=(h.ok.fk n e).2.2;omega
  .omega
 have B:∀ a b,R a b->n∉P a b:=λa b s g=>by
  rcases hg.was with e|e
  .exact(h.pni s n g).1 e
  .have:=((h.pat s).2 n g).2.1;omega
 have p:∀ i,i≠n->qG H1.S n U i=H.S i:=λi r=>by rw[tF r];exact hg.old i r
 have E:U.kind=3\/U.kind=1:=by rcases hcase with⟨_,e⟩|⟨_,e,_⟩<;>simp[e]
 have z:wW (qG H1.S n U) H.F.records rl:=h.rk.ch.frame λm g=>p m λe=>t (e▸g)
 have y:∀ i,1<=i->i<H1.F.fresh->i≠n->i<H.F.fresh:=λi j o k=>by rcases hg.fre with e|⟨e,f⟩<;>omega
 have q:=hg.ok.set hg.ni hU;refine⟨⟨q.f1,q.fN,q.gd,q.ch,q.fk,q.nd,q.fm,?_,q.rt⟩,⟨?_,λm g=>?_,?_⟩,λa b s=>?_,h.ap,λi r=>?_,λi j o k=>?_,λi j o k=>?_,λi j o k=>?_⟩
 .show(if U.kind=3 then H1.F.records else n)<H1.F.fresh
  split
  .exact hg.ok.rc
  .exact hg.nf
 .show wW (qG H1.S n U) (if U.kind=3 then H1.F.records else n) rl'
  rcases hcase with⟨e,f⟩|⟨e,f,C⟩
  .rw[e,if_pos f,hg.rec_];exact z
  .rw[e,if_neg dB]
   refine⟨rfl,by have:=hg.n1;omega,?_⟩;rw[uU,C];exact z
 .show 1<=m/\m<H1.F.fresh/\(qG H1.S n U m).kind=1
  have u:m=n/\U.kind=1\/m∈rl:=by
   rcases hcase with⟨e,f⟩|⟨e,f,_⟩
   .rw[e]at g;exact .inr g
   .rw[e]at g;exact(ak.1 g).imp (λe=>⟨e,f⟩) id
  rcases u with⟨e,f⟩|u
  .rw[e,uU];exact⟨hg.n1,hg.nf,f⟩
  .have k:=h.rk.at_ m u
   rw[p m λe=>t (e▸u)];exact⟨k.1,ae k.2.1 hg.grow,k.2.2⟩
 .rcases hcase with⟨e,_⟩|⟨e,_,_⟩
  .rw[e];exact h.rk.nd
  .rw[e];exact cB.2 ⟨t,h.rk.nd⟩
 .obtain⟨j,c,o,k⟩:=h.cell a b s
  refine⟨by rcases hcase with⟨e,_⟩|⟨e,_,_⟩<;>simp[e,j],c,?_,k.frame hg.grow λi r=>p i λe=>B a b s (e▸r)⟩;show(qG H1.S n U a).slots[b]?=_;rw[p a λe=>t (e▸j)];exact o
 .obtain⟨j,o,k,l⟩:=h.pk i r
  refine⟨j,ae o hg.grow,?_,l⟩;show(qG H1.S n U i).kind=2;rw[p i λe=>A (e▸r)];exact k
 .have l:(qG H1.S n U i).kind=0:=k
  by_cases e:i=n
  .rw[e,uU]at l;omega
  .rw[p i e]at l
   rcases hg.cov i (h.c0 i j (y i j o e) l)with f|f
   .exact absurd f e
   .exact f
 .have l:(qG H1.S n U i).kind=1:=k
  by_cases e:i=n
  .rw[e,uU]at l
   rcases hcase with⟨_,f⟩|⟨f,_,_⟩
   .omega
   .rw[f,e];simp
  .rw[p i e]at l
   have D:=h.c1 i j (y i j o e) l;rcases hcase with⟨f,_⟩|⟨f,_,_⟩<;>simp[f,D]
 .have l:(qG H1.S n U i).kind=2:=k
  by_cases e:i=n
  .rw[e,uU]at l;omega
  .rw[p i e]at l
   exact h.c2 i j (y i j o e) l
theorem back(h:HI N H fl rl R P B pd)(hN:N<=2048){n:Nat}(h1:1<=n)(h2:n<H.F.fresh)(hk:(H.S n).kind=3):HI N (wZ H n) (n::fl) rl R P B pd:=by
 have t:n∉fl:=λo=>by have:=(h.ok.fk n o).2.2;omega
 have r:n∉rl:=λo=>by have:=(h.rk.at_ n o).2.2;omega
 have u:∀ a b,R a b->n∉P a b:=λa b k p=>by have:=((h.pat k).2 n p).2.2;omega
 have g:∀ i,i≠n->(wZ H n).S i=H.S i:=λi j=>tF j
 have s:(wZ H n).S n=Ah H.F:=uU ..;refine⟨h.ok.back hN h1 h2 t,h.rk.frame (ax _) rfl λm p=>g m λe=>r (e▸p),λa b k=>?_,h.ap,λi j=>?_,λi h1 h2 f=>?_,λi h1 h2 f=>?_,λi h1 h2 f=>?_⟩
 .obtain⟨f,c,q,l⟩:=h.cell a b k
  exact⟨f,c,by rw[g a λe=>r (e▸f)];exact q,l.frame (ax _) λi j=>g i λe=>u a b k (e▸j)⟩
 .obtain⟨f,q,l,y⟩:=h.pk i j
  refine⟨f,q,?_,y⟩;rw[g i λe=>by rw[e]at l;omega];exact l
 .by_cases e:i=n
  .simp[e]
  .rw[g i e]at f
   simp[h.c0 i h1 h2 f]
 .by_cases e:i=n
  .rw[e,s]at f;cases f
  .rw[g i e]at f;exact h.c1 i h1 h2 f
 .by_cases e:i=n
  .rw[e,s]at f;cases f
  .rw[g i e]at f;exact h.c2 i h1 h2 f
theorem Xq(h:HI N H fl rl R P B pd){n:Nat}(h1:1<=n)(h2:n<H.F.fresh)(hk:(H.S n).kind=3){U:View}(hU:Good U)(hU3:U.kind=3):HI N ⟨H.F,qG H.S n U⟩ fl rl R P B pd:=by
 have t:n∉fl:=λq=>by have:=(h.ok.fk n q).2.2;omega
 have s:n∉rl:=λq=>by have:=(h.rk.at_ n q).2.2;omega
 have u:∀ a b,R a b->n∉P a b:=λa b l r=>by have:=((h.pat l).2 n r).2.2;omega
 have o:∀ i,i≠n->qG H.S n U i=H.S i:=λi k=>tF k
 have p:∀ i,(qG H.S n U i).kind=(H.S i).kind:=λi=>by
  by_cases e:i=n
  .rw[e,uU,hU3,hk]
  .rw[o i e]
 refine⟨h.ok.set t hU,h.rk.frame (ax _) rfl λm r=>o m λe=>s (e▸r),λa b l=>?_,h.ap,λi k=>?_,λi f g j=>h.c0 i f g (by rw[<-p];exact j),λi f g j=>h.c1 i f g (by rw[<-p];exact j),λi f g j=>h.c2 i f g (by rw[<-p];exact j)⟩
 .obtain⟨f,c,g,j⟩:=h.cell a b l
  refine⟨f,c,?_,j.frame (ax _) λi k=>o i λe=>u a b l (e▸k)⟩;show(qG H.S n U a).slots[b]?=_;rw[o a λe=>s (e▸f)];exact g
 .obtain⟨f,g,j,y⟩:=h.pk i k
  exact⟨f,g,(p i).trans j,y⟩
end HI
namespace HI
variable {N:Nat}{H:HS}{fl rl pd:List Nat}{R:Nat->Nat->Prop}{P:Nat->Nat->List Nat}{B:Nat->Nat->List UInt8}{m s:Nat}
end HI
section
variable {Y:VE}[hYT:nz Y]{q jb mw N lo:Nat}{L:List Nat}{G0 V:Nat->Pg}{k:Nat}{H:HS}{fl rl pd:List Nat}{R:Nat->Nat->Prop}{P:Nat->Nat->List Nat}{B:Nat->Nat->List UInt8}{m s:Nat}{w:World}
end
end Go.Proofs.YtpaniebomegnbaaGreat
namespace Coup
open Go Go.RowKit
section
variable {P:Program}{ρ:Env}{w:World}{d:Option Nat}{ty:TypeId}{pos:String}{af:Array Edge}{gd:Option (Nat × Bool)}
def TG(P:Program):List Field->Nat->Bool
 |[],_=>true
 |f::fs,o=>(f.name != "_") && Nat.beq f.offset o && zK P f.type .i64 && TG P fs (o+1)
theorem zhD(dd:Nat)(A B:List Int)(w:World):∀ (fs:List Field) (o:Nat),TG P fs o=true->o+fs.length=A.length->A.length=B.length->
  (Op.eqFields (dd+1) (iv A).toArray (iv B).toArray fs).run P w= .ok (decide (A.drop o=B.drop o)) w
 |[],o,_,h,hl=>by
  rw[jd (by simp at h;omega),jd (by simp at h;omega)];simp[Op.eqFields]
 |f::fs,o,hf,h,hl=>by
  simp only[TG,aN,bne_iff_ne,ne_eq]at hf;obtain⟨⟨⟨q,r⟩,s⟩,t⟩:=hf;have u:=bX r;have g:=VU s;have y:(isAgg f.type).run P w= .ok false w:=by simp[isAgg,run_underlying g]
  rw[aD]at h;have a:∀ (C:List Int) (c:o<C.length),(part f.type (iv C).toArray f.offset).run P w= .ok (VB C[o]) w:=λC c=>by
   have D:(iv C).toArray[o]?=some (VB C[o]):=by simp[iv,c]
   simp[part,y,u,Result.andThen,iv,c]
  have j:=run_equalIn_int w dd f.type .i64 .i64 (A[o]'dB) (B[o]'dB) g;have z:=zhD dd A B w fs (o+1) t dB hl;simp only[Op.eqFields,q,ne_eq,not_false_eq_true,if_true,Sem.run_bind,a A dB,a B dB,Result.andThen_ok,j];have k:=dm (l:=A) (i:=o) dB;have m:=dm (l:=B) (i:=o) dB;rw[k,m];clear j a k m;generalize A[o]'dB=x;generalize B[o]'dB=p
  by_cases e:x=p
  .subst e
   simp only[beq_self_eq_true,gV,jw,if_false,z,je,true_and]
  .have:(x == p)=false:=by simpa using e
   simp[this,e]
def Kj(P:Program)(t n:Nat):Bool:=(match P.underlying t with|some (.struct fs)=>TG P fs.toList 0 && Nat.beq fs.toList.length n|_=>false) && !P.eqGuardType P.depth t && !P.stoodInHeld t
theorem IB{t t' n:Nat}{x y:Operand}{A B:List Int}(ht:Kj P t n=true)(hx:ev ρ x= .agg (iv A).toArray)(hy:ev ρ y= .agg (iv B).toArray)(hA:A.length=n)(hB:B.length=n):
  (execOp (ev ρ) ⟨d, .binOp .neq t x y t',ty,pos,af,gd⟩).run P w= .ok (.value (.bool (!decide (A=B)))) w:=by
 unfold Kj at ht;simp only[aN,ed]at ht;obtain⟨⟨a,i⟩,j⟩:=ht
 split at a
 .rename_i c f
  rw[aN]at a;have h:P.fieldsOf t=c:=by simp[Program.fieldsOf,f]
  have g:=run_eqGuard_agg (P:=P) w .neq t x y (iv A).toArray (iv B).toArray i;have e:=zhD 9998 A B w c.toList 0 a.1 (by have:=bX a.2;omega) dB;have s:=run_equalIn_struct (P:=P) (w:=w) 9999 t (iv A).toArray (iv B).toArray (by rw[h];exact f) j;rw[h,show 9999=9998+1 from rfl,e]at s;simp only[execOp,hx,hy,Sem.run_bind,g,Result.andThen_ok,run_neq_struct,show 10000=9998+1+1 from rfl,s]
  rfl
 .cases a
theorem zkT{s t:Nat}{x:Operand}{v:Value}(ht:Oe P t=true)(hx:ev ρ x= .iface t v):(execOp (ev ρ) ⟨d, .typeAssert x s t true,ty,pos,af,gd⟩).run P w= .ok (.value (.tuple #[v, .bool true])) w:=by
 unfold Oe at ht;cases hu:P.underlying t with
 |none=>simp[hu]at ht
 |some dd=>
  rw[hu]at ht;simp only[execOp,hx,Instr.typeAssert,Sem.run_bind,run_underlying hu,Result.andThen_ok];cases dd<;>first |(simp at ht;done)|(simp[Result.andThen];done)
theorem zqV{s t:Nat}{x:Operand}{z:Value}(ht:Oe P t=true)(hx:ev ρ x= .nilIface)(hz:∀ w,(zeroValue t).run P w= .ok z w):(execOp (ev ρ) ⟨d, .typeAssert x s t true,ty,pos,af,gd⟩).run P w= .ok (.value (.tuple #[z, .bool false])) w:=by
 unfold Oe at ht;cases hu:P.underlying t with
 |none=>simp[hu]at ht
 |some dd=>
  rw[hu]at ht;simp only[execOp,hx,Instr.typeAssert,Sem.run_bind,run_underlying hu,Result.andThen_ok];cases dd<;>first |(simp at ht;done)|(simp[Result.andThen,Sem.run_bind,hz];done)
theorem ZK {t i0 i1 i2 i3 i4:Nat} {x0 x1 x2 x3 x4:Operand} (v0 v1 v2 v3 v4:Value) (cs:List Value) (h0:ev ρ x0=v0) (h1:ev ρ x1=v1) (h2:ev ρ x2=v2) (h3:ev ρ x3=v3) (h4:ev ρ x4=v4)
  (hb:P.built t [(i0,v0),(i1,v1),(i2,v2),(i3,v3),(i4,v4)]=some cs.toArray):
  (execOp (ev ρ) ⟨d, .build t #[(i0,x0),(i1,x1),(i2,x2),(i3,x3),(i4,x4)],ty,pos,af,gd⟩).run P w= .ok (.value (.agg cs.toArray)) w:=by
 have:=run_build (P:=P) w t #[(i0,v0),(i1,v1),(i2,v2),(i3,v3),(i4,v4)] cs.toArray kR;simp only[execOp,gz,bi,dZ,h0,h1,h2,h3,h4,Sem.run_bind,this,Result.andThen_ok]
 rfl
def Jq(P:Program)(t n e:Nat):Bool:=(match P.underlying t with|some (.array m e')=>Nat.beq m n && Nat.beq e' e|_=>false) && (match P.underlying e with|some (.int _)=>true|some (.pointer _)=>true|_=>false) && (match P.info? e with|some i=>Nat.beq i.size 1|none=>false)
theorem WH{t n e:Nat}{x i:Operand}{cs:List Value}{k:IntKind}{a:Int}{v:Value}(ht:Jq P t n e=true)(hx:ev ρ x= .agg cs.toArray)(hi:ev ρ i= .int k a)(j:Nat)(hj:a=(j:Int))(hn:j<n)(hv:cs[j]?=some v):
  (execOp (ev ρ) ⟨d, .index t x i,ty,pos,af,gd⟩).run P w= .ok (.value v) w:=by
 subst hj;unfold Jq at ht;simp only[aN]at ht;obtain⟨⟨a,h⟩,f⟩:=ht
 split at a
 .rename_i m c k
  rw[aN]at a;obtain⟨rfl,rfl⟩:m=n/\c=e:=⟨bX a.1,bX a.2⟩;have l:(isAgg c).run P w= .ok false w:=by
   split at h
   .rename_i g;simp[isAgg,run_underlying g]
   .rename_i g;simp[isAgg,run_underlying g]
   .cases h
  obtain⟨r,o,p⟩:∃ i,P.info? c=some i/\i.size=1:=by
   split at f
   .rename_i i hi;exact⟨i,hi,bX f⟩
   .cases f
  have q:(Go.sizeOf c).run P w= .ok 1 w:=by simp[Go.sizeOf,typeInfo,o,p]
  have hp:(part c cs.toArray j).run P w= .ok v w:=by
   simp[part,l,Result.andThen,hv]
  have hr:(0:Int)<=(j:Int)/\(j:Int)<(m:Int):=by omega
  simp only[execOp,hx,hi,Instr.index,asIntOf,Sem.run_bind,Sem.run_pure,run_underlying k,Result.andThen_ok,hr,and_self,if_true,q,aW,dD,hp]
 .cases a
theorem Gq{x y z:Operand}{k:IntKind}{a b c:Int}{ats:Array Nat}(hx:ev ρ x= .int k a)(hy:ev ρ y= .int k b)(hz:ev ρ z= .int k c):
  (execOp (ev ρ) ⟨d, .call ⟨.builtin .max,#[x,y,z],ats⟩,ty,pos,af,gd⟩).run P w= .ok (.value (.int k (max (max a b) c))) w:=by
 have e:(if a<b then b else a)=max a b:=by omega
 have f:(if max a b<c then c else max a b)=max (max a b) c:=by omega
 simp[execOp,resolve,invoke,builtin,Builtin.max_,Builtin.max2,hx,hy,hz,e,f,Result.andThen]
def NZ(P:Program)(t:Nat):Bool:=match P.underlying t with|some (.interface _)=>true|_=>false
theorem zuV{t t':Nat}{x:Operand}(ht:NZ P t=true)(hx:ev ρ x= .nilIface):(execOp (ev ρ) ⟨d, .binOp .neq t x (.const .nilIface) t',ty,pos,af,gd⟩).run P w= .ok (.value (.bool false)) w:=by
 unfold NZ at ht
 split at ht
 .rename_i h a
  have c:(eqGuard .neq t x (.const .nilIface) .nilIface .nilIface).run P w= .ok () w:=by
   unfold eqGuard;simp
  have e:∀ n,(Op.equalIn (n+1) t .nilIface .nilIface).run P w= .ok true w:=λn=>by
   simp only[Op.equalIn,Sem.run_bind,run_underlying a,Result.andThen_ok]
   rfl
  have f:(binOp .neq t .nilIface .nilIface).run P w= .ok (.bool false) w:=by
   simp only[binOp];simp[Op.equal,Op.maxDepth,e 9999]
  have g:ev ρ (.const .nilIface)= .nilIface:=rfl;simp only[execOp,hx,g,Sem.run_bind,c,f,Result.andThen_ok]
  rfl
 .cases ht
end
end Coup
namespace Go.Proofs.YtpaniebomegnbaaGreat
open Go Go.RowKit Coup
def hp:List UInt8:=[72,69,65,80]
def nums(F:sQ):List Nat:=[F.fresh,F.free,F.many,F.records,F.root]
def zm(l:List Nat):List UInt8:=(l.map (oH 4)).flatten
def EN(F:sQ):List UInt8:=hp++zm (nums F)
def yu(F:sQ):View:=⟨4,0,[some (EN F)]⟩
theorem zsI(l:List Nat):(zm l).length=4*l.length:=by
 induction l with
 |nil=>rfl
 |cons a l ih=>show(oH 4 a++zm l).length=_;rw[aA,rT,ih,aD];omega
theorem zqW(l:List Nat)(n:Nat):zm (l++[n])=zm l++oH 4 n:=by unfold zm;rw[bJ,jF];simp
theorem Vg(F:sQ):(EN F).length=24:=by unfold EN;rw[aA,zsI];rfl
theorem Qo(F:sQ):Good (yu F):=zuS dB dB (by rw[Vg];omega)
theorem Xi(F:sQ)(w:World):CQ 129 [.agg (xc F).toArray] w (λv w'=>v= .agg (bv (oW (yu F))).toArray/\VD w w'):=by
 have Z:=Vg F;have y:=λb5 b6 w' C=>CE 4 dB b5 b6 (EN F) w' C (by rw[Z];omega)
 have a0:=λw'=>Em 4 dB w'
 rw[Z]at y;have b7:=vk (Qo F);have b8:oW ⟨4,0,[some (EN F)]⟩=oW (yu F):=rfl;have b9:=vk (AJ (kind:=4) dB);rw[b8]at y;obtain⟨Q,c4⟩:=aa (oW (yu F));obtain⟨P4,c5⟩:=aa (oW (sJ 4));simp only[c4,c5]at y a0 b7 b9 |-;have G:EN F=hp++zm (nums F):=rfl;obtain⟨c6,a1⟩:=aa (EN F);rw[a1]at G;simp only[a1]at y;obtain⟨h,H⟩:=aa (nums F);have f0:h.length=5:=by rw[<-H];rfl
 have c7:nv h=xc F:=by rw[<-H];rfl
 rw[H]at G;have a:=Below.refl w.heap.size w;have f1:maxLen=9223372036854775807:=by decide
 obtain⟨D,c8,f2⟩:∃ D,List.replicate 512 (Value.int .u8 0)=D/\D.length=512:=⟨_,rfl,bz⟩;refine nZ (rs:=[.cell 2 121]) (n:=41) Tryz.func129 rfl rfl Tryz.ntmps129 dA rfl<|ny<|nK<|qi (xc F) rfl<|λI w1 c9 g d0=>?_
 have f3:=ag a.size c9;replace a:=a.acc d0;replace g:row w1 I [VB (F.fresh:Int),VB (F.free:Int),VB (F.many:Int),VB (F.records:Int),VB (F.root:Int)] 128:=g;refine nK<|oD (List.replicate 512 (Value.int .u8 0)) dA<|λq w2 a2 c a3=>?_
 have d1:=ag a.size a2;have f4:I<q:=ae g.lt a2;replace g:=g.new a3;replace a:=a.acc a3;rw[c8]at c;refine qx<|nK<|Jp (e:=5) [(0, .int .u8 72),(1, .int .u8 69),(2, .int .u8 65),(3, .int .u8 80)] [.int .u8 0] 1 dA dA rfl dB dB (by intro i a4;rcases i with _|_|_|_|i<;>first |(simp[Value.cells];done)|(exfalso;simp only[aD,aY]at a4;omega)) kY<|λj d2 J K L=>?_
 have d3:=ag a.size J;have d4:I<j:=ae g.lt J;have d5:q<j:=ae c.lt J;replace g:=g.new L;replace c:=c.new L;replace a:=a.acc L;replace K:row d2 j (bv hp) 5:=K;have d6:=K;have f5:=g.lt;have f6:=c.lt;refine nK<|Gx (e:=5) dA dA rfl d6 rfl dB<|λf7 t M=>?_
 replace g:=g.only M (ai d4);replace c:=c.only M (ai d5);replace a:=M.below a d3;refine nA<|nk<|nI<|ny<|mZ (nG 0)<|mZ (nH g)<|mZ (nG 1)<|mZ (nH g)<|mZ (nG 2)<|mZ (nH g)<|mZ (nG 3)<|mZ (nH g)<|mZ (nG 4)<|mZ (nH g)<|mZ (ZK (VB (F.fresh:Int)) (VB (F.free:Int)) (VB (F.many:Int)) (VB (F.records:Int)) (VB (F.root:Int)) (xc F) rfl rfl rfl rfl rfl dA)<|ng<|nk<|pE ?_
 refine qY (α:=Nat × Value) (0, .slice (some ⟨j,0,none⟩) 4 4) (λk=>[(2,VA q),(3,k.2),(20, .agg (xc F).toArray),(21,VB (k.1:Int))])
  (λk w'=>k.1<=5/\((k.1=0/\k.2= .slice (some ⟨j,0,none⟩) 4 4/\nM w' (some ⟨j,0,none⟩) 4 1 (bv hp))\/(0<k.1/\og w' j 5 1 k.2 (4+4*k.1) (bv (hp++zm (h.take k.1)))))/\row w' q D 121/\VD w w') (λk=>5 - k.1) VF ⟨aC _, .inl ⟨rfl,rfl,t⟩,c,a⟩ ?_
 rintro⟨i,v⟩ f u ⟨a4,o,c,a⟩;dsimp only at*
 by_cases f8:i<5
 .obtain⟨n,a5⟩:∃ n,h[i]?=some n:=⟨_,aG dB⟩
  have a6:(xc F)[i]?=some (VB (n:Int)):=by rw[<-c7];unfold nv;rw[aV,a5];rfl
  have d7:h.take (i+1)=h.take i++[n]:=by rw[bf,a5];rfl
  have a7:bv (hp++zm (h.take (i+1)))=bv (hp++zm (h.take i))++bv (oH 4 n):=by rw[d7,zqW,<-aH,wR]
  rcases o with⟨rfl,rfl,t⟩|⟨d8,o⟩
  .have d9:bv (hp++zm (h.take (0+1)))=bv hp++bv (oH 4 n):=by rw[a7];simp[zm]
   refine ny<|mZ (pI rfl rfl)<|nk<|nI<|uT rfl (dB)<|nU<|nJ<|nI<|pE<|ny<|mZ (WH (k:=.i64) (n:=5) (e:=3) dA rfl rfl 0 rfl dB a6)<|nA<|nk<|nO<|ng<|ng<|nP (Dh n u) ?_
   rintro _ a8 ⟨N,rfl,O,A,r⟩;have e0:=ag a.size A;have e1:q<N:=ae c.lt A;replace c:=c.new r;replace t:=t.new r;replace a:=a.acc r;have P:=O.tY (m:=4) (sz:=1) (by rw[oL,rT]) dB;have e2:=t;have R:=t.some dB;obtain⟨f9,g0,e3,g1⟩:=R;have e4:j<=a8.heap.size:=by cases e3;omega
   refine nK<|zqP (e:=5) (sz:=1) (bytes:=1) (z:=.int .u8 0) dA rfl dA rfl iT rfl e2 rfl P dB dB dB dB<|λB e5 S a9=>?_
   replace c:=c.new a9;replace a:=a.acc a9;refine nA<|oI<|pO<|nJ<|nO<|mZ (oJ rfl rfl (show IntKind.i64.wrap (((0:Nat):Int)+1)=((0+1:Nat):Int) by rw[nV dB];omega))<|ng<|oI<|oM ⟨(0+1,B),by show 5 - (0+1)<5 - 0;omega,VF,by show 0+1<=5;omega, .inr ⟨by show 0<0+1;omega,?_⟩,c,a⟩
   show og _ _ _ _ B (4+4*(0+1)) _;rw[d9];exact og.mono S e4
  .have g2:=d8
   refine ny<|mZ (pI rfl rfl)<|nk<|nI<|uT rfl (dB)<|nU<|nJ<|nI<|pE<|ny<|mZ (WH (k:=.i64) (n:=5) (e:=3) dA rfl rfl i rfl dB a6)<|nA<|nk<|nO<|ng<|ng<|nP (Dh n u) ?_
   rintro _ a8 ⟨N,rfl,O,A,r⟩;have e0:=ag a.size A;have e1:q<N:=ae c.lt A;replace c:=c.new r;replace o:=o.new r;replace a:=a.acc r;have P:=O.tY (m:=4) (sz:=1) (by rw[oL,rT]) dB;have g3:=a.size;have g4:=a.size;refine nK<|tu (e:=5) (sz:=1) (bytes:=1) (z:=Value.int .u8 0) dA rfl dA rfl iT rfl o rfl P (uf _) jB dB (λg5=>dB)<|λB e5 S b0 g6=>?_
   replace c:=c.own o b0 dB;replace a:=a.own o b0 dB;refine nA<|oI<|pO<|nJ<|nO<|mZ (oJ rfl rfl (show IntKind.i64.wrap ((i:Int)+1)=((i+1:Nat):Int) by rw[nV dB];omega))<|ng<|oI<|oM ⟨(i+1,B),by show 5 - (i+1)<5 - i;omega,VF,by show i+1<=5;omega, .inr ⟨by show 0<i+1;omega,?_⟩,c,a⟩
   show og _ _ _ _ B (4+4*(i+1)) _;rw[a7];exact S
 .have e6:i=5:=by omega
  subst e6;have b1:og u j 5 1 v 24 (bv c6):=by
   rcases o with⟨C,_⟩|⟨_,C⟩
   .omega
   .rw[G,<-aQ (l:=h) (i:=5) dB];exact C
  have R:=b1.form' dB;obtain⟨g7,g8,g9,rfl,h0,h1,h2⟩:=R;have s:=b1.sl;have T:=Below.refl u.heap.size u;have h3:=c.lt;refine ny<|mZ (pI rfl rfl)<|nk<|nI<|qg rfl (dB)<|qL<|qK<|rq<|qO<|nJ<|ny<|nP (a0 u) ?_
  rintro _ h4 ⟨rfl,E⟩;replace c:=c.new E;replace s:=s.new E;replace a:=a.acc E;replace T:=T.acc E;refine ng<|mZ (nW rfl rfl)<|mZ (nW rfl rfl)<|nK<|oD (List.replicate 512 (Value.int .u8 0)) dA<|λe7 h5 U p V=>?_
  have b2:=ag a.size U;have h6:=ag T.size U;have b3:q<e7:=ae c.lt U;replace c:=c.new V;replace s:=s.new V;replace a:=a.acc V;refine nT<|oC 512 (bv P4) p<|λe8 p X=>?_
  replace c:=c.only X (ai b3);replace s:=s.only X dB;replace a:=X.below a b2;refine oG<|mZ (pz 512 p)<|ng<|nP (y _ _ e8 s) ?_
  rintro _ h7 ⟨rfl,Y⟩;replace c:=c.new Y;replace p:=p.new Y;replace a:=a.acc Y;refine ng<|mZ (nW rfl rfl)<|mZ (nW rfl rfl)<|mZ (nW rfl rfl)<|nT<|oC 512 (bv Q) p<|λh8 p b4=>?_
  replace c:=c.only b4 (ai b3);replace a:=b4.below a b2;refine qx<|mZ (pz 512 p)<|nT<|oC 512 (bv Q) c<|λh9 c e9=>?_
  replace a:=e9.below a d1;refine nk<|nY<|ou [_] ⟨⟨_,rfl,Ld.qI (k:=512) c dA dA gp⟩,trivial⟩ ?_
  exact⟨rfl,a⟩
theorem Cv{n:Nat}(h:n<4294967296):qX (oH 4 n)=n:=by rw[SH,jc dB]
theorem zpF:∀ {l:List Nat} {i n:Nat},l[i]?=some n->((zm l).drop (4*i)).take 4=oH 4 n
 |a::l,0,n,h=>by
  have e:a=n:=by simpa using h
  subst e;show(oH 4 a++zm l).take 4=_;exact bN<|rT _ _
 |a::l,i+1,n,h=>by
  have c:=zpF (l:=l) (i:=i) (n:=n) lD;show((oH 4 a++zm l).drop (4*(i+1))).take 4=_;rw[show 4*(i+1)=(oH 4 a).length+4*i by rw[rT];omega,fC,jd dB,aU,show(oH 4 a).length+4*i - (oH 4 a).length=4*i by omega];exact c
structure IZ(N:Nat)(F:sQ):Prop where
 f1:1<=F.fresh
 fN:F.fresh<=N
 fe:F.free<F.fresh
 ma:F.many<F.fresh
 rc:F.records<F.fresh
 rt:F.root<N
 n48:N<=2048
theorem rC.fst{N:Nat}{H:HS}{fl:List Nat}(h:rC N H fl)(hN:N<=2048):IZ N H.F:=⟨h.f1,h.fN,h.Es,h.many,h.rc,h.rt,hN⟩
def Ie(l:List Nat)(k:Nat):List Value:=nv (l.take k)++List.replicate (5 - k) (VB 0)
theorem zuW{l:List Nat}{k n:Nat}(hl:l.length=5)(h:l[k]?=some n):(Ie l k).set k (VB (n:Int))=Ie l (k+1):=by
 have a:k<5:=by have:=(aL.1 h).1;omega
 unfold Ie;have e:(nv (l.take k)).length=k:=by rw[Cy,aI];omega
 rw[List.set_append,e,if_neg dB,bO,show 5 - k=(5 - (k+1))+1 by omega,List.replicate_succ,List.set_cons_zero,bf,h];unfold nv;simp
theorem zqX(F:sQ)(N:Nat)(hF:IZ N F)(w:World):CQ 190 [.agg (bv (oW (yu F))).toArray,VB (N:Int)] w (λv w'=>v= .tuple #[.agg (xc F).toArray, .bool true]/\VD w w'):=by
 have y:=Qo F;have I:=Vg F;have t:=λw'=>Sg (yu F) 0 w' y
 have a0:Au (yu F).slots 0=EN F:=rfl;have a1:Az (yu F).slots 0=true:=rfl;simp only[a0,a1,if_true,I]at t;have J:=λw'=>Xi F w'
 have a2:∀ (m:Nat) (K:m<4294967296) p c w',nM w' p 4 1 (bv (oH 4 m))->CQ 203 [.slice p 4 c] w' (λv w2=>v=VB (m:Int)/\w'=w2):=λm K p c w' z=>
  (PU p 4 c _ w' z dB).to λv w2 ⟨e,L⟩=>⟨by rw[e,Cv K],L⟩
 have M:=vk y;have a3:=Aq (yu F) y.size;obtain⟨Q,a4⟩:=aa (oW (yu F));simp only[a4]at t J M a3 |-;have A:EN F=hp++zm (nums F):=rfl;obtain⟨O,P⟩:=aa (EN F);rw[P]at A I;simp only[P]at t;obtain⟨o,u⟩:=aa (nums F);have a5:o.length=5:=by rw[<-u];rfl
 have a6:nv o=xc F:=by rw[<-u];rfl
 have a7:∀ n∈o,n<4294967296:=λn s=>by
  rw[<-u]at s;have:=hF.fe;have:=hF.ma;have:=hF.rc;have:=hF.rt;have:=hF.fN;have:=hF.n48;simp only[nums,ak,bq,or_false]at s;omega
 rw[u]at A;have g:=Below.refl w.heap.size w;have d5:maxLen=9223372036854775807:=by decide
 refine nZ (rs:=[.cell 4 128, .tmp 5]) (n:=81) Tryz.func190 rfl rfl Tryz.ntmps190 dA rfl<|ny<|nK<|qi (bv Q) rfl<|λB w2 d6 j a8=>?_
 replace g:=g.acc a8;refine nK<|oD ([VB 0,VB 0,VB 0,VB 0,VB 0]) dA<|λh a9 R a S=>?_
 have T:=ag g.size R;have b0:B<h:=ae j.lt R;replace j:=j.new S;replace g:=g.acc S;refine oG<|mZ (oK rfl (Ld.qI (k:=512) j dA dA M)) ?_
 have b1:=j.lt;have b2:=a.lt;refine nP (t a9) ?_;rintro _ d7 ⟨⟨U,b3,rfl,q,d8,b4⟩,C⟩;replace j:=j.new C;replace a:=a.new C;replace g:=g.acc C;refine ng<|mZ (nW rfl rfl)<|mZ (nW rfl rfl)<|nA<|nA<|nk<|nI<|ny<|ng<|mZ (pJ rfl rfl)<|ng<|uy 18 rfl (iT)<|nE<|ng<|nE<|mZ (oV (e:=5) (sz:=1) dA rfl rfl)<|nE<|mZ (pJ rfl rfl)<|mZ (oP rfl)<|nk<|qg rfl (iT)<|nU<|nJ<|ny<|nA<|nk<|nI<|ny<|mZ (nG 0)<|mZ (nG 1)<|mZ (nG 2)<|mZ (nG 3)<|mZ (nG 4)<|mZ (ZK (VA h) (.pointer (some ⟨h,1,none⟩)) (.pointer (some ⟨h,2,none⟩)) (.pointer (some ⟨h,3,none⟩)) (.pointer (some ⟨h,4,none⟩)) [VA h, .pointer (some ⟨h,1,none⟩), .pointer (some ⟨h,2,none⟩), .pointer (some ⟨h,3,none⟩), .pointer (some ⟨h,4,none⟩)] rfl rfl rfl rfl rfl dA)<|ng<|nk<|pE ?_
 refine qY (α:=Nat) 0 (λk=>[(1,VB (N:Int)),(2,VA B),(4,VA h),(5, .bool false),(6, .slice U 24 b3),(8,VB ((4+4*k:Nat):Int)),(29, .agg #[VA h, .pointer (some ⟨h,1,none⟩), .pointer (some ⟨h,2,none⟩), .pointer (some ⟨h,3,none⟩), .pointer (some ⟨h,4,none⟩)]),(30,VB (k:Int))])
  (λk w'=>k<=5/\row w' h (Ie o k) 128/\row w' B (bv Q) 121/\nM w' U 24 1 (bv O)/\VD w w') (λk=>5 - k) VF ⟨aC _,a,j,q,g⟩ ?_
 have b5:=q.some dB;obtain⟨V,oq,rfl,_⟩:=b5;have d9:=b4 _ _ rfl;clear a j q g;rintro i f b6 ⟨e0,a,j,q,g⟩
 by_cases e1:i<5
 .obtain⟨n,s⟩:∃ n,o[i]?=some n:=⟨_,aG dB⟩
  have b7:=a7 n (aO s);have b8:∀ w',nM w' (some ⟨V,oq,none⟩) 24 1 (bv O)->nM w' (some ⟨V,oq+(4+4*i),none⟩) 4 1 (bv (oH 4 n)):=λw' z=>by
   have b9:=z.Fa (4+4*i) 4 dB
   rwa [A,show 4+4*i=hp.length+4*i from rfl,fC,jd dB,aU,show hp.length+4*i - hp.length=4*i by omega,zpF s]at b9
  have c4:=zuW a5 s;have e2:(Ie o i).length=5:=by unfold Ie;rw[aA,Cy,aI,bz];omega
  refine ny<|mZ (pI rfl rfl)<|nk<|nI<|uT rfl (dB)<|nU<|nJ<|nI<|pE<|ny<|mZ (WH (k:=.i64) (n:=5) (e:=304) (v:=.pointer (some ⟨h,i,none⟩)) dA rfl rfl i rfl dB (by rcases i with _|_|_|_|_|i<;>first |rfl|omega))<|oG<|ng<|ng<|ng<|ng<|mZ (oJ rfl rfl (show IntKind.i64.wrap (((4+4*i:Nat):Int)+4)=((4+4*i+4:Nat):Int) by rw[nV dB];omega))<|ng<|mZ (oJ rfl rfl (show IntKind.i64.wrap (((4+4*i:Nat):Int)+4)=((4+4*i+4:Nat):Int) by rw[nV dB];omega))<|mZ (JW (e:=5) (4+4*i) (4+4*i+4) (4+4*i+4) (4) dA rfl ⟨_,_,rfl,dB⟩ ⟨_,_,rfl,dB⟩ ⟨_,_,rfl,dB⟩ ig dB dB dB dB dB)<|nP (a2 n b7 _ _ b6 (b8 _ q)) ?_
  rintro _ _ ⟨rfl,rfl⟩;refine mZ (oo rfl)<|nT<|pQ a<|λc5 a D=>?_
  replace j:=j.only D (ai b0);replace q:=q.only D dB;replace g:=D.below g T;replace a:row c5 h ((Ie o i).set i (VB (n:Int))) 128:=a;rw[c4]at a;refine nk<|nO<|ng<|mZ (oJ rfl rfl (show IntKind.i64.wrap (((4+4*i:Nat):Int)+4)=((4+4*(i+1):Nat):Int) by rw[nV dB];omega))<|nA<|oI<|pO<|nJ<|nO<|mZ (oJ rfl rfl (show IntKind.i64.wrap ((i:Int)+1)=((i+1:Nat):Int) by rw[nV dB];omega))<|ng<|oI<|oM ⟨i+1,dB,VF,dB,a,j,q,g⟩
 .have c6:i=5:=by omega
  subst c6;have c7:Ie o 5=xc F:=by unfold Ie;rw[aQ dB,a6];simp
  rw[c7]at a;obtain⟨e3,L,e4,e5,e6,e7,e8⟩:=hF;obtain⟨fr,X,Y,Z,E⟩:=F;dsimp only[xc]at*;have b1:=j.lt;have b2:=a.lt;refine ny<|mZ (pI rfl rfl)<|nk<|nI<|qg rfl (dB)<|qL<|qK<|rq<|qO<|nJ<|nI<|qH [] dA ?_
  intro c8 G c9;replace a:=a.new G;replace j:=j.new G;replace g:=g.acc G;have r:=a;have d0:=j;refine nR 0 (λw' l=>oK rfl (Ld.qI (k:=5) (r.kq l) dA dA rfl))<|nR 2 (λw' l=>pz 512 (d0.kq l))<|oh 1 dA<|qw rfl rfl (oz dA rfl) (J c8) ?_
  rintro _ e9 ⟨rfl,H⟩;have d1:=c9.add0 H;refine⟨d1,?_⟩;replace a:=a.new H;replace g:=g.acc H;refine nu 3 (UT (n:=512) dA rfl rfl (by simp[*]) (by simp[*]))<|nu 4 (nS)<|Ig 50 rfl (rfl)<|nu 5 (nG 0)<|nR 6 (λw' l=>nH (r.kq l))<|nu 7 (tV rfl rfl)<|nu 8 (pK rfl)<|nu 9 (nS)<|Ig 55 rfl (dB)<|nu 10 (nG 0)<|nR 11 (λw' l=>nH (r.kq l))<|nu 12 (nS)<|nu 13 (EH rfl rfl)<|nu 14 (pK rfl)<|nu 15 (nS)<|Ig 61 rfl (dB)<|nu 16 (nG 1)<|nR 17 (λw' l=>nH (r.kq l))<|nu 18 (nG 2)<|nR 19 (λw' l=>nH (r.kq l))<|nu 20 (nG 3)<|nR 21 (λw' l=>nH (r.kq l))<|nu 22 (Gq rfl rfl rfl)<|nu 23 (nG 0) ?_;refine nR 24 (λw' l=>nH (r.kq l))<|nu 25 (pI rfl rfl)<|nu 26 (pK rfl)<|nu 27 (nS)<|Ig 73 rfl (dB)<|nu 28 (nG 4)<|nR 29 (λw' l=>nH (r.kq l))<|nu 30 (nS)<|nu 31 (pI rfl rfl)<|nu 32 (pK rfl)<|nu 33 (rO)<|pq dA<|nJ<|ny<|mZ (pz 5 a)<|ng<|nT<|oC 5 (_) a<|λf0 a d2=>?_
  replace g:=d2.below g T;refine nA<|nk<|nY<|ou [_,_] ⟨⟨_,rfl,Ld.qI (k:=5) a dA dA gp⟩,rfl,trivial⟩ ?_
  have d3:decide ((E:Int)<(N:Int))=true:=decide_eq_true dB;have d4:∀ b:Bool,b=true->Value.tuple #[Value.agg (xc ⟨fr,X,Y,Z,E⟩).toArray, .bool b]= .tuple #[.agg (xc ⟨fr,X,Y,Z,E⟩).toArray, .bool true]:=λb hb=>by rw[hb]
  exact⟨d4 _ d3,g⟩
end Go.Proofs.YtpaniebomegnbaaGreat
namespace Coup
open Go Go.RowKit Go.Maps Go.ChangeMaps Go.MapKept Go.WideElems
section
variable {H:Type}{P:Program}{k:TypeId}{R:Value->Option (DataW H × List MemPlace)}{w:World}{b r n:Nat}{D:DataW H}{left:Lit->Bool}{cnt:Nat}
theorem zqY(h:w.ranges P k R b r n D left cnt){kl:Lit}(hl:left kl=true){l:List (Lit × DataW H)}(hD:D= .map l):∃ z,(kl,z)∈l:=by
 obtain⟨e,f,since,g,c0,hb,F,i,rfl,hr,j,rfl,l,a,m,o⟩:=h;obtain⟨x,c,rfl⟩:=a kl hl
 injection hD with hD
 exact⟨(rg P k R x).2,by rw[<-hD];exact mem_sorted.2 (bg.2 ⟨x,c,rfl⟩)⟩
theorem zor{w':World}(h:w.ranges P k R b r n D left cnt)(h1:w'.heap[b]?=w.heap[b]?)(h2:w'.heap[r]?=w.heap[r]?):w'.ranges P k R b r n D left cnt:=by
 obtain⟨a,c,since,e,c0,hb,F,f,g,hr,rest⟩:=h;exact⟨a,c,since,e,c0,h1.trans hb,F,f,g,h2.trans hr,rest⟩
end
theorem Ub{f:Nat->Option Value}:∀ {m a:Nat} {x:Lit × DataW Value},x∈qW f a m->∃ i v,a<=i/\i<a+m/\f i=some v/\x=(.int .i64 (i:Int), .held v)
 |0,a,x,c=>by simp[qW]at c
 |m+1,a,x,c=>by
  rw[qW]at c
  split at c
  .rename_i v g
   rcases ak.1 c with rfl|c
   .exact⟨a,v,ax _,dB,g,rfl⟩
   .obtain⟨i,v,h,j,e,f⟩:=Ub c;exact⟨i,v,dB,dB,e,f⟩
  .obtain⟨i,v,h,j,e,f⟩:=Ub c;exact⟨i,v,dB,dB,e,f⟩
theorem ZZ{f:Nat->Option Value}{i:Nat}{v:Value}:∀ {m a:Nat},f i=some v->a<=i->i<a+m->(Lit.int .i64 (i:Int),DataW.held v)∈qW f a m
 |0,a,hf,h1,h2=>by omega
 |m+1,a,hf,h1,h2=>by
  rw[qW]
  by_cases e:a=i
  .subst e;rw[hf];exact aK ..
  .have c:=ZZ (m:=m) (a:=a+1) hf dB dB
   split
   .exact aj _ c
   .exact c
theorem GQ{f:Nat->Option Value}{i N:Nat}(hi:i<N):Maps.has (DataW.map (qW f 0 N)) (.int .i64 (i:Int))=(f i).isSome:=by
 cases hf:f i with
 |some v=>exact List.any_eq_true.2 ⟨_,ZZ hf (aC _) dB,by rw[Ke];simp⟩
 |none=>
  refine List.any_eq_false.2 λx c=>?_
  obtain⟨j,v,e,g,a,rfl⟩:=Ub c;rw[Ke];simp;rintro rfl;rw[hf]at a;cases a
def zG(P:Program)(k:TypeId)(w:World)(m r N:Nat)(f:Nat->Option Value)(left:Nat->Bool)(cnt:Nat):Prop:=
 ∃ L,w.ranges P k RH m r N (.map (qW f 0 N)) L cnt/\∀ i,i<N->L (.int .i64 (i:Int))=left i
namespace zG
variable {P:Program}{k:TypeId}{w w':World}{m r N cnt:Nat}{f:Nat->Option Value}{left:Nat->Bool}
theorem map(h:zG P k w m r N f left cnt):MapAt P k w m N f:=by
 obtain⟨L,a,_⟩:=h;exact a.owns
theorem lt(h:zG P k w m r N f left cnt):r<w.heap.size:=by
 obtain⟨L,a,_⟩:=h;exact a.lt
theorem ne(h:zG P k w m r N f left cnt):r≠m:=by
 obtain⟨L,a,_⟩:=h;exact a.ne
theorem nD{M:List Nat}(h:zG P k w m r N f left cnt)(hk:Kp M w w')(hM:m∉M/\r∉M):zG P k w' m r N f left cnt:=by
 have a:=h.map.lt;have c:=h.lt;obtain⟨L,e,f⟩:=h;exact⟨L,zor e (hk.block m a hM.1) (hk.block r c hM.2),f⟩
theorem new(h:zG P k w m r N f left cnt)(hb:VD w w'):zG P k w' m r N f left cnt:=h.nD (M:=[]) (Kp.of_below hb) ig
theorem only{g:Nat}(h:zG P k w m r N f left cnt)(ho:Only g w w')(hg:m≠g/\r≠g):zG P k w' m r N f left cnt:=h.nD (Kp.rJ ho) lH
end zG
section
variable {P:Program}{ρ:Env}{w:World}{d:Option Nat}{ty:TypeId}{pos:String}{af:Array Edge}{gd:Option (Nat × Bool)}{K:Value->World->Prop}{Kw:World->Prop}
theorem zsL {t k e:TypeId} {x:Operand} {m N:Nat} {f:Nat->Option Value} (ht:P.underlying t=some (.map k e)) (hk:P.underlying k=some (.int .i64)) (hm:MapAt P k w m N f) (hx:ev ρ x= .map (some m))
  (h:∀ r w' cnt,w.heap.size<=r->zG P k w' m r N f (λi=>(f i).isSome) cnt->VD w w'->K (VA r) w'):Mk P ρ w ⟨d, .range t x,ty,pos,af,gd⟩ K:=by
 obtain⟨w',hr,e,a,f⟩:=World.ownsMap.range hm (int_keyed hk) ht;refine⟨_,w',?_,h _ w' _ (ax _) ⟨_,e,λi c=>GQ c⟩ ⟨a.os,a.tape,a.output,a.size,λi c=>a.block i c ig⟩⟩;simp[execOp,hx,hr,Result.andThen]
theorem zuX {x:Operand} {k:TypeId} {m r N cnt:Nat} {f:Nat->Option Value} {left:Nat->Bool} (hk:P.underlying k=some (.int .i64)) (hg:zG P k w m r N f left cnt) (hx:ev ρ x=VA r)
  (h0:(∀ i,i<N->left i=false)->K (.tuple #[.bool false]) w)
  (h1:∀ (i:Nat) (v:Value) (w':World) (cnt':Nat),i<N->left i=true->f i=some v->zG P k w' m r N f (λj=>left j && !decide (j=i)) cnt'->cnt'<cnt->Only r w w'->
   (Instr.entry (VA r)).run P w'= .ok (.tuple #[.int .i64 (i:Int),v]) w'->K (.tuple #[.bool true, .int .i64 (i:Int),v]) w'):Mk P ρ w ⟨d, .next x false,ty,pos,af,gd⟩ K:=by
 obtain⟨L,hg,h⟩:=hg;rcases hg.next (int_keyed hk) ty with⟨M,s,k⟩|⟨key,v,kl,t,w',cnt',y,m,z,A,k,B,C,e,D,E⟩
 .exact⟨_,_,by simp[execOp,hx,k,Result.andThen],h0 λi o=>by rw[<-h i o];exact s _⟩
 .obtain⟨O,F⟩:=zqY hg m rfl
  obtain⟨i,u,_,o,p,G⟩:=Ub F;have f:kl= .int .i64 (i:Int):=congrArg Prod.fst G;obtain⟨a,rfl,g,_⟩:=Maps.keyOf_int_inv hk y;rw[f]at g
  injection g with _ g
  subst g;have r:i<N:=by omega
  have H:u=v:=by
   have c:=A (.held u);rw[f]at c;have l:(some (DataW.held v,([]:List MemPlace)))=some t:=z
   injection l with l
   rw[<-l]at c;unfold DataW.atKey at c;simp only[Tk N 0 (aC _) (by omega:i<0+N),p]at c
   injection c
  subst H;refine⟨_,w',by simp[execOp,hx,k,Result.andThen],h1 i u w' cnt' r (by rw[<-h i r,<-f];exact m) p ⟨_,B,λj I=>?_⟩ C ⟨e.os,e.tape,e.output,D,λq J=>?_⟩ E⟩
  .rw[h j I,f,Ke]
  .by_cases K:q<w.heap.size
   .exact e.block q K (by simpa using J)
   .rw[gy dB,gy dB]
theorem zuY{x:Operand}{r:Nat}{v:Value}(hx:ev ρ x=VA r)(hen:(Instr.entry (VA r)).run P w= .ok v w):(execOp (ev ρ) ⟨d, .entry x,ty,pos,af,gd⟩).run P w= .ok (.value v) w:=by
 simp[execOp,hx,hen,Result.andThen]
end
end Coup
