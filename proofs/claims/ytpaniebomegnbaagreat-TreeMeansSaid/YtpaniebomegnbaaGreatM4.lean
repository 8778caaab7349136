import Derived.Test.YtpaniebomegnbaaGreatM3
set_option maxHeartbeats 8000000
set_option maxRecDepth 20000
namespace Go.Proofs.YtpaniebomegnbaaGreat
open Go Go.RowKit Coup
theorem Jg{P:Program}{ρ:Env}{w:World}{d:Option Nat}{ty:TypeId}{pos:String}{af:Array Edge}{gd:Option (Nat × Bool)}{t i j k:Nat}{x y z:Operand}(v u s:Value)(cs:List Value)(hx:ev ρ x=v)(hy:ev ρ y=u)(hz:ev ρ z=s)(hb:P.built t [(i,v),(j,u),(k,s)]=some cs.toArray):
  (execOp (ev ρ) ⟨d, .build t #[(i,x),(j,y),(k,z)],ty,pos,af,gd⟩).run P w= .ok (.value (.agg cs.toArray)) w:=by
 have:=run_build (P:=P) w t #[(i,v),(j,u),(k,s)] cs.toArray kR;simp only[execOp,gz,bi,dZ,hx,hy,hz,Sem.run_bind,this,Result.andThen_ok]
 rfl
theorem Vy{X Y Z:VE}{lo:Nat}{L:List Nat}{w:World}(h:Two X (zX Y Z) lo L w):Two X Y lo L w:=by
 obtain⟨⟨B,_,c,⟨C1,C2,rfl,e,_⟩,a,f⟩,g,i⟩:=h;exact⟨⟨B,C1,c,e,λb hb=>⟨(a b hb).1,λj=>(a b hb).2.1 (aF _ j),(a b hb).2.2⟩,λb hb=>f b (aF _ hb)⟩,g,i⟩
def AL(D:Dk)(n:Int):Int:=if Aw D.V.length n then(if Ae (qa D 0)then(if sK (qa D 0)=4611686018427387904 then 8 else 0)else 6)else 2
def yf(D:Dk)(n:Int):Lg:=⟨sK (qa D 0),ug (qa D 0),n.toNat,0,0,false⟩
section
variable {Y:VE}[nz Y]{g lo:Nat}{L:List Nat}{D:Dk}{w:World}
def JK(e:Int):Value:=.tuple #[.pointer none,VC,VB e]
theorem Ii(h:Two (DZ g D) Y lo L w)(n:Nat)(he:AL D n=0)(hsh:tJ D 90000):
    CQ 127 [VA g,VB (n:Int)] w (λv w'=>∃ ok D2 C s S,xI D (C+1) s=ok/\uz D (C+1) s=D2/\sK (qa D 0)=C/\ug (qa D 0)=s/\xD D (yf D n)=S/\nC lo L w w'/\
      ((ok=false/\v=JK 10/\Two (DZ g D2) Y lo L w')\/(ok=true/\∃ x p c,v= .tuple #[VA x, .slice p S.length c,VB 0]/\S.length<=c/\
        rX g x (zX Y (Bh p S)) lo L D2 ⟨C+1,s,n,S.length,xu S,false⟩ w'))):=by
  have m:Aw D.V.length n=true:=iY λj=>by
    unfold AL at he;rw[if_neg j]at he;cases he
  have r:Ae (qa D 0)=true:=iY λj=>by
    unfold AL at he;rw[if_pos m,if_neg j]at he;cases he
  have a9:sK (qa D 0)≠4611686018427387904:=λj=>by
    unfold AL at he;rw[if_pos m,if_pos r]at he;rw[if_pos j]at he;cases he
  have c9:=of_decide_eq_true m;have o:=r;rw[Ae,aN,aN,aN]at o;have O:=of_decide_eq_true o.1.1.2;have t:=of_decide_eq_true o.1.2;have P:=of_decide_eq_true o.2;have e:=Below.refl w.heap.size w;have Q:=IR h n ⟨dB,dB⟩;rw[m]at Q;have b0:=(zz h).2;have b1:xC D 0=true:=decide_eq_true ⟨dB,dB⟩;have u:=λw' (hb:VD w w')=>DY (h.new hb) 0
  rw[b1,if_pos rfl,if_pos rfl]at u;have T:=Sa (zz h).1 b0;have b2:(0:Int).toNat=0:=rfl;rw[b2]at u;have y:=λw'=>zux (qa D 0) w' T
  rw[r]at y;have z:yf D n=⟨sK (qa D 0),ug (qa D 0),n,0,0,false⟩:=by rw[yf,aW]
  obtain⟨C,A⟩:=aa (sK (qa D 0));obtain⟨s,B⟩:=aa (ug (qa D 0));rw[A,B]at z y;rw[A]at a9 t P;rw[B]at t O;obtain⟨S,U⟩:=aa (xD D (yf D n));have E:=fun(x:Nat) (w':World) (h:rX g x Y lo L D ⟨C,s,n,0,0,false⟩ w')=>KL h ⟨O,t,P,by show 4<=n;omega,by show n<=4000;omega,aC _,ax _,by show 1+n<=_;omega⟩ rfl rfl
  rw[<-z,U,z]at E;dsimp only at E;obtain⟨ok,V⟩:=aa (xI D (C+1) s);obtain⟨D2,X⟩:=aa (uz D (C+1) s);have F:=fun(x:Nat) (p:Option Addr) (w':World) (h:rX g x (zX Y (Bh p S)) lo L D ⟨C,s,n,S.length,xu S,false⟩ w')=>BN h s (by show C+1<_;omega) dB hsh
  dsimp only at F;rw[V,X]at F;generalize qa D 0=b3 at*;have d0:=h.lo;have d1:=h.lt;have a:=nC.refl lo L w;have d2:=h;refine Calls.to (R:=λv w'=>nC lo L w w'/\((ok=false/\v=JK 10/\Two (DZ g D2) Y lo L w')\/(ok=true/\∃ x p c,v= .tuple #[VA x, .slice p S.length c,VB 0]/\S.length<=c/\
        rX g x (zX Y (Bh p S)) lo L D2 ⟨C+1,s,n,S.length,xu S,false⟩ w'))) ?_ (λv w' Z=>⟨ok,D2,C,s,S,V,X,A,B,U,Z.1,Z.2⟩)
  clear he;refine nZ (rs:=[.tmp 4, .tmp 5, .tmp 6]) (n:=64) Tryz.func127 rfl rfl Tryz.ntmps127 dA rfl<|ny<|nA<|nA<|nA<|nk<|nI<|ny<|ng<|ng<|nP (Q) ?_
  rintro _ _ ⟨rfl,rfl⟩;refine oG<|ng<|mZ (pJ rfl rfl)<|nk<|qg rfl (ig)<|nU<|nJ<|ny<|ng<|nP (u _ e) ?_;rintro _ d3 ⟨rfl,a0⟩;replace a:=a.new a0;replace e:=e.acc a0;refine ng<|mZ (nW rfl rfl)<|mZ (nW rfl rfl)<|nK<|oD (List.replicate 128 (Value.int .u8 0)) dA<|λa1 d4 b4 f a2=>?_
  have b5:=ag e.size b4;have d5:=a.size;replace a:=a.new a2;replace e:=e.acc a2;refine nT<|oC 128 (bv b3) f<|λb6 f a3=>?_
  replace a:=a.oq a3;replace e:=a3.below e b5;refine nA<|nk<|nI<|ny<|ng<|mZ (pJ rfl rfl)<|nk<|qg rfl (ig)<|nU<|nJ<|ny<|mZ (oK rfl (Ld.qI (k:=128) f dA dA (by rw[oL,T])))<|nP (y b6) ?_
  rintro _ d6 ⟨rfl,G⟩;replace a:=a.new G;replace f:=f.new G;replace e:=e.acc G;refine ng<|mZ (nW rfl rfl)<|mZ (nW rfl rfl)<|nK<|oD ([Value.int .u64 0,Value.int .u64 0]) dA<|λa4 d7 a5 l H=>?_
  have b7:=ag e.size a5;have b8:a1<a4:=ae f.lt a5;replace a:=a.new H;replace f:=f.new H;replace e:=e.acc H;refine nT<|oC 2 ([.int .u64 (C:Int), .int .u64 (s:Int)]) l<|λd8 l I=>?_
  replace a:=a.oq I;replace f:=f.only I (ai b8);replace e:=I.below e b7;refine nA<|nk<|nI<|pE<|ny<|ng<|mZ (sj rfl)<|nA<|nk<|EJ rfl (rfl)<|ny<|mZ (nG 0)<|mZ (nH l)<|mZ (qB rfl rfl)<|nA<|nk<|qg rfl (dB)<|nU<|pO<|nJ<|ny<|mZ (pz 2 l)<|ng<|ng<|mZ (Jg (.agg #[.int .u64 (C:Int), .int .u64 (s:Int)]) (VA g) (VB (n:Int)) [.int .u64 (C:Int), .int .u64 (s:Int),VA g,VB (n:Int),VB 0,VB 0, .bool false] rfl rfl rfl dA) ?_
  have a6:=h.new e;refine nK<|qi ([.int .u64 (C:Int), .int .u64 (s:Int),VA g,VB (n:Int),VB 0,VB 0, .bool false]) rfl<|λJ a7 q a8 K=>?_
  have d9:=ag e.size q;have e0:a1<J:=ae f.lt q;have e1:a4<J:=ae l.lt q;replace a:=a.new K;replace e:=e.acc K;have e2:=e.size;have i:rX g J Y lo L D ⟨C,s,n,0,0,false⟩ a7:=⟨a6.nL K q a8.lt,a8,dB,λb9=>by have:=a6.lt _ b9;omega⟩;refine oG<|ng<|nP (E _ a7 i) ?_
  rintro _ c4 ⟨p,c5,rfl,c6,i,c7⟩;replace a:=a.lq c7;refine ng<|mZ (nW rfl rfl)<|mZ (nW rfl rfl)<|nA<|nA<|nk<|nI<|ny<|ng<|mZ (qB rfl rfl)<|nk<|uT rfl (rfl)<|nO<|ng<|ng<|mZ (oo rfl)<|mZ (nG 0)<|mZ (nG 1)<|mZ (oK rfl (Ld.ru i.rowx dA rfl))<|nP (F _ _ c4 i) ?_;rintro _ e3 ⟨rfl,i,c8⟩;replace a:=a.lq c8;refine nA<|nk<|nI<|ny<|ng<|mZ (pJ rfl rfl)<|nk<|oZ rfl (λM=>?_)<|λM=>?_
  ·
   refine ny<|ng<|nA<|nA<|nA<|nk<|nY<|qy<|ou [_,_,_] ⟨rfl,rfl,rfl,trivial⟩ ?_
   have N:ok=false:=by cases ok with|false=>rfl|true=>simp at M
   subst N;exact⟨a, .inl ⟨rfl,rfl,Vy i.fst⟩⟩
  ·
   have N:ok=true:=by cases ok with|true=>rfl|false=>simp at M
   subst N;refine nU<|nJ<|ny<|ng<|ng<|nA<|nA<|nA<|nk<|nY<|ou [_,_,_] ⟨rfl,rfl,rfl,trivial⟩ ?_
   exact⟨a, .inr ⟨rfl,_,p,c5,rfl,c6,i⟩⟩
end
def vN(n:Nat)(s:Int):Nat:=if s<4\/4000<s then 0 else(n - 1 - s.toNat) / 4
section
variable {Y:VE}{g lo:Nat}{L:List Nat}{D:Dk}{w:World}
theorem countP(h:Two (DZ g D) Y lo L w)(s:Int)(hs:BO s):CQ 124 [VA g,VB s] w (λv w'=>v=VB ((vN D.V.length s:Nat):Int)/\w=w'):=by
 have e:=VT h;have g:=(zz h).1.n;have i:=hs.1;have j:=hs.2;refine nZ (rs:=[.tmp 4]) (n:=18) Tryz.func124 rfl rfl Tryz.ntmps124 dA rfl<|ny<|nA<|nk<|nI<|ny<|ng<|mZ (pI rfl rfl)<|ng<|sZ 7 rfl (λa=>?_)<|λa=>?_
 ·
  refine mH ?_;exact⟨by rw[vN,if_pos (.inl a)];rfl,rfl⟩
 ·
  refine nE<|ng<|nE<|mZ (rz rfl rfl)<|mZ (oP rfl)<|nk<|oZ rfl (λc=>?_)<|λc=>?_
  ·
   refine lY ?_;exact⟨by rw[vN,if_pos (.inr c)];rfl,rfl⟩
  ·
   have f:∃ m:Nat,s=m:=⟨s.toNat,dB⟩;obtain⟨m,rfl⟩:=f;refine nU<|nJ<|ny<|ng<|nP (e) ?_
   rintro _ _ ⟨rfl,rfl⟩;refine mZ (vZ rfl rfl (Coup.nV dB))<|ng<|mZ (vZ rfl rfl (Coup.nV dB))<|mZ (UN rfl rfl)<|mZ (NN rfl rfl dB dB)<|nA<|nk<|nY<|ou [_] ⟨rfl,trivial⟩<|⟨?_,rfl⟩;show VB (max ((D.V.length:Int) - 1 - m) 0 / 4)=_;rw[vN,if_neg dB,aW]
   congr 1
   omega
theorem QB(h:Two (DZ g D) Y lo L w)(s:Int)(hs:BO s):CQ 123 [VA g,VB s] w (λv w'=>v=VB (if vN D.V.length s<4 then 2 else 0)/\w=w'):=by
 have a:=VT h;have hp:=(zz h).2;have c:=countP h s hs;refine nZ (rs:=[.tmp 4]) (n:=14) Tryz.func123 rfl rfl Tryz.ntmps123 dA rfl<|ny<|nA<|nk<|nI<|pE<|ny<|ng<|nP (a) ?_
 rintro _ _ ⟨rfl,rfl⟩;refine mZ (qB rfl rfl)<|nA<|nk<|qg rfl (dB)<|ny<|ng<|ng<|nP (c) ?_;rintro _ _ ⟨rfl,rfl⟩;refine mZ (pI rfl rfl)<|nA<|nk<|oZ rfl (λe=>?_)<|λe=>?_
 ·
  refine lW ?_;exact⟨by rw[if_pos dB];rfl,rfl⟩
 ·
  refine lX ?_;exact⟨by rw[if_neg dB];rfl,rfl⟩
end
theorem Dl(s n:Nat)(w:World)(hs:s<=4000)(hn:n<=8192):CQ 182 [VB (s:Int),VB (n:Int)] w (λv w'=>v=VB ((1+s+n*4:Nat):Int)/\w=w'):=by
 refine nZ (rs:=[.tmp 4]) (n:=10) Tryz.func182 rfl rfl Tryz.ntmps182 dA rfl<|ny<|oG<|ng<|mZ (oJ rfl rfl (Coup.nV dB))<|ng<|mZ (yR rfl rfl (Coup.nV dB))<|mZ (oJ rfl rfl (Coup.nV dB))<|nA<|nk<|nY<|ou [_] ⟨rfl,trivial⟩ ?_
 exact⟨by show VB (1+(s:Int)+n*4)=_;congr 1,rfl⟩
theorem zoe(b:List UInt8){m n:Nat}(h:m<=n):(ry b n).take m=ry b m:=by
 rw[ry,ry,<-fA,List.take_range,bS h]
section
variable {Y:VE}[nz Y]{g lo:Nat}{L:List Nat}{D:Dk}{w:World}
theorem CJ(h:Two (DZ g D) Y lo L w)(s n:Nat)(X:List UInt8)(hX:X.length=512)(hs:s<=4000)(hn:1+s+n*4+4<=D.V.length)(hsh:tJ D 80000):
   CQ 125 [VA g,VB (s:Int),VB (n:Int), .agg (bv X).toArray] w (λv w'=>v=VB (if(qQ D (1+s+n*4) (ry X 4)).2 then 0 else 10)/\Two (DZ g (qQ D (1+s+n*4) (ry X 4)).1) Y lo L w'/\nC lo L w w'):=by
 have c:=h;have j:=nC.refl lo L w;have U:=(zz c).1.n;have y:=λw'=>Dl s n w' hs dB
 obtain⟨a,H⟩:=aa (1+s+n*4);rw[H]at y hn |-;have V:(bv X).length=512:=by rw[oL];exact hX
 refine nZ (rs:=[.tmp 8]) (n:=33) Tryz.func125 rfl rfl Tryz.ntmps125 dA rfl<|ny<|nK<|qi (bv X) rfl<|λo Z I l z=>?_
 replace c:=c.nL z I l.lt;replace j:=j.new z;refine nA<|nk<|nI<|ny<|ng<|nk<|pE ?_
 refine qY (α:=Nat) 0 (λi=>[(11,VB (i:Nat)),(7,VA o),(0,VA g),(1,VB (s:Int)),(2,VB (n:Int))])
   (λi w'=>i<=4/\(qQ D a (ry X i)).2=true/\row w' o (bv X) 121/\Two (DZ g (qQ D a (ry X i)).1) Y lo (o::L) w'/\nC lo L w w') (λi=>4 - i)
   VF ⟨aC _,rfl,l,c,j⟩ ?_
 clear c j l;rintro i f a0 ⟨a1,A,l,c,j⟩;have B:=TD (ry X i) D a 80000 hsh;have a2:=Bp (ry X i) D a;rw[Hm]at B;refine ny<|mZ (pI rfl rfl)<|nk<|nI<|oZ rfl (λJ=>?_)<|λJ=>?_
 ·
  refine lQ ?_;obtain⟨S,q⟩:=aa ((X.drop (128*i)).take 128);have K:bv S=((bv X).drop (0+128*i)).take 128:=by rw[<-q,EE,AA,aZ]
  have M:S.length=128:=by rw[<-q,aI,aM];omega
  have C:=zjs X i;rw[q]at C;have m:=Wo (ry X i) D a S A;rw[<-C,Hm]at m;refine vX (lo) ((o::L)) dA ?_;intro a3 r N O;replace c:=c.new r;replace j:=j.new r;replace l:=l.new r;have P:=l;refine nu 0 (nS)<|nu 1 (nS)<|nu 2 (nS)<|zh 3 dA rfl (λ_=>oz dA rfl) (λw' E=>y w')<|nu 4 (nS)<|nu 5 (oJ rfl rfl (Coup.nV dB))<|nu 6 (nS)<|nu 7 (yR rfl rfl (Coup.nV dB))<|nu 8 (nS)<|nu 9 (oJ rfl rfl (Coup.nV dB))<|nu 10 (yR rfl rfl (Coup.nV dB))<|nu 11 (yw (e:=5) (n:=512) (128*i) (128*i+128) (512) (128) dA rfl ⟨_,_,rfl,dB⟩ ⟨_,_,rfl,dB⟩ rfl ig dB dB dB dB dB)<|nu 12 (zkq (n:=128) (e:=5) (sz:=1) dA rfl dB)<|nR 13 (λw' E=>oK rfl (Ld.za (k:=128) (off:=0+128*i) (P.kL E) dA dA dB))<|oh 14 dA ?_
  have F:=TQ c ((a:Int)+(i:Int)) S M (yD B dB);rw[K]at F;refine qw rfl rfl (oz dA rfl) (F) ?_;rintro _ a4 ⟨rfl,c,t⟩;have Q:=O.vv N t.wk;refine⟨Q,?_⟩;replace j:=j.lq t;replace l:=l.kl t;refine nu 15 (rO)<|pq dA<|nJ<|ny ?_
  have R:xC (qQ D a (ry X i)).1 ((a:Int)+(i:Int))=true:=decide_eq_true dB;rw[Kz,R,if_pos rfl];rw[show(a:Int)+(i:Int)=((a+i:Nat):Int) by omega]at c;refine ng<|mZ (pJ rfl rfl)<|nk<|oZ rfl (λu=>?_)<|λu=>?_
  ·
   refine lS ?_;have p:qM (qQ D a (ry X i)).1=false:=by cases hq:qM (qQ D a (ry X i)).1 with|false=>rfl|true=>simp[hq]at u
   rw[p]at m;have G:=Vr (ry X (i+1)) ((ry X 4).drop (i+1)) D a (by rw[m]);rw[show ry X (i+1)++(ry X 4).drop (i+1)=ry X 4 by rw[<-zoe X (show i+1<=4 by omega),bM],m]at G;rw[G];exact⟨by rw[p];rfl,c.weak (λb hb=>aj _ hb),j⟩
  ·
   have p:qM (qQ D a (ry X i)).1=true:=by cases hq:qM (qQ D a (ry X i)).1 with|true=>rfl|false=>simp[hq]at u
   refine nU<|pO<|nJ<|nO<|mZ (oJ rfl rfl (Coup.nV dB))<|ng<|oI<|oM ⟨i+1,dB,⟨by go_num,rfl,rfl,rfl,rfl,rfl⟩,dB,by rw[m];exact p,l,by rw[m];exact c,j⟩
 ·
  have T:i=4:=by omega
  subst T;refine mi ?_;exact⟨by rw[A];rfl,c.weak (λb hb=>aj _ hb),j⟩
theorem Xb:∀ (l:List qz) {D:Dk} {k:Nat} (a:Nat),tL D k->(qQ D a l).2=true/\tL (qQ D a l).1 (k+l.length)
 |[],D,k,a,h=>⟨rfl,h⟩
 |t::l,D,k,a,h=>by
  rw[qQ,(Ia h.left h.dead).1,if_pos rfl];obtain⟨c,e⟩:=Xb l (a+1) (h.uC (a:Int) t).1;exact⟨c,e.weak (by rw[aD];omega)⟩
def uQ:List UInt8:=List.replicate 512 0
def Dz(D:Dk)(s:Nat):Nat->Dk
 |0=>D
 |m+1=>(qQ (Dz D s m) (1+s+m*4) (ry uQ 4)).1
theorem Rl{D:Dk}{k s:Nat}(h:tL D k):∀ m,tL (Dz D s m) (k+m*4)/\(Dz D s m).V.length=D.V.length
 |0=>⟨by rw[cO,dx];exact h,rfl⟩
 |m+1=>by
  obtain⟨a,c⟩:=Rl (s:=s) h m;refine⟨?_,(Bp _ _ _).trans c⟩;exact(Xb (ry uQ 4) (1+s+m*4) a).2.weak (by rw[Hm];omega)
theorem Fj(h:Two (DZ g D) Y lo L w)(s:Int)(hs:BO s)(ha:tL D 60000):
   CQ 64 [VA g,VB s] w (λv w'=>v=VB (if vN D.V.length s<4 then 2 else 0)/\Two (DZ g (if vN D.V.length s<4 then D else yT (Dz D s.toNat (vN D.V.length s)) s.toNat)) Y lo L w'/\nC lo L w w'):=by
 have a:=h;have e:=nC.refl lo L w;have p:=QB h s hs;have q:=countP h s hs;have J:=(zz a).1.n;obtain⟨c,j⟩:=aa (vN D.V.length s);rw[j]at p q |-;refine nZ (rs:=[.tmp 4]) (n:=32) Tryz.func64 rfl rfl Tryz.ntmps64 dA rfl<|ny<|nA<|nk<|nI<|ny<|ng<|ng<|nP (p) ?_
 rintro _ _ ⟨rfl,rfl⟩;refine oG<|ng<|mZ (pJ rfl rfl)<|nk<|oZ rfl (λk=>?_)<|λk=>?_
 ·
  refine mg ?_;have l:c<4:=by
    by_cases h:c<4
    .exact h
    .rw[if_neg h]at k;simp at k
  rw[if_pos l,if_pos l];exact⟨rfl,a,e⟩
 ·
  have l:¬c<4:=λh=>by rw[if_pos h]at k;simp at k
  rw[if_neg l,if_neg l];have B:¬(s<4\/4000<s)/\(D.V.length - 1 - s.toNat) / 4=c:=by
    rw[vN]at j
    by_cases h:s<4\/4000<s
    .rw[if_pos h]at j;omega
    .rw[if_neg h]at j;exact⟨h,j⟩
  have C:∃ m:Nat,s=m:=⟨s.toNat,dB⟩;obtain⟨m,rfl⟩:=C;rw[aW]at B |-;have r:uQ.length=512:=bz ..;obtain⟨Z,t⟩:=aa (uQ);have u:=λi=>show Dz D m (i+1)=(qQ (Dz D m i) (1+m+i*4) (ry uQ 4)).1 from rfl
  have E:bv Z=List.replicate 512 (.int .u8 0):=by rw[<-t];kernel_rfl
  have y:=λi=>(Xb (ry uQ 4) (1+m+i*4) (Rl (s:=m) ha i).1).1
  rw[t]at u r y;refine nU<|nJ<|nI<|ny<|ng<|ng<|nP (q) ?_
  rintro _ _ ⟨rfl,rfl⟩;refine ng<|nk<|pE ?_;refine qY (α:=Nat) 0 (λi=>[(17,VB (i:Nat)),(16,VB (c:Int)),(0,VA g),(1,VB (m:Int))])
    (λi w'=>i<=c/\Two (DZ g (Dz D m i)) Y lo L w'/\nC lo L w w') (λi=>c - i)
    VF ⟨aC _,a,e⟩ ?_
  clear a e;rintro i f K ⟨M,a,e⟩;have o:=Rl (s:=m) ha i;refine ny<|mZ (pI rfl rfl)<|nk<|nI<|oZ rfl (λF=>?_)<|λF=>?_
  ·
   refine nU<|nJ<|nI<|pE<|ny<|ng<|oG<|ng<|ng<|ng<|mZ (BF (bv Z) (by rw[E];kernel_rfl)) ?_
   have z:=CJ a m i Z r dB dB (yD o.1.short dB);rw[y i,if_pos rfl,<-u]at z;refine nP (z) ?_;rintro _ N ⟨rfl,a,G⟩;replace e:=e.lq G;refine oG<|ng<|mZ (pJ rfl rfl)<|nk<|qg rfl (dB)<|nU<|pO<|nJ<|nO<|mZ (oJ rfl rfl (Coup.nV dB))<|ng<|oI<|oM ⟨i+1,dB,⟨by go_num,rfl,rfl,rfl,rfl⟩,dB,a,e⟩
  ·
   have H:i=c:=by omega
   subst H;refine qL<|qK<|rq<|qO<|nJ<|ny<|ng<|ng ?_
   have A:=zuy a (m:Int) ⟨dB,dB⟩ (o.1.weak dB);rw[o.2,show Aw D.V.length (m:Int)=true from decide_eq_true dB,if_pos rfl,if_pos rfl,aW]at A;refine nP (A) ?_;rintro _ O ⟨rfl,a,I⟩;replace e:=e.lq I;refine lZ ?_;exact⟨rfl,a,e⟩
end
theorem isA(c:Ch)(b:Nat)(n:Int)(w:World)(hb:row w b [VB n] 3):CQ 198 [.agg (rV c).toArray,VA b] w (λv w'=>v= .bool (decide (c.num=n))/\VD w w'):=by
 have a:=Below.refl w.heap.size w;refine nZ (rs:=[.tmp 3]) (n:=8) Tryz.func198 rfl rfl Tryz.ntmps198 dA rfl<|ny<|nK<|qi (rV c) rfl<|λg w2 h f e=>?_
 replace hb:=hb.new e;replace a:=a.acc e;refine mJ ?_;exact⟨rfl,a⟩
theorem YP(c:Ch)(b:Nat)(n:Int)(w:World)(hb:row w b [VB n] 3):CQ 159 [.agg (rV c).toArray,VA b] w (λv w'=>v= .bool (decide (c.num=n))/\VD w w'):=by
 have a:=Below.refl w.heap.size w;refine nZ (rs:=[.tmp 3]) (n:=8) Tryz.func159 rfl rfl Tryz.ntmps159 dA rfl<|ny<|nK<|qi (rV c) rfl<|λg w2 h f e=>?_
 replace hb:=hb.new e;replace a:=a.acc e;refine mJ ?_;exact⟨rfl,a⟩
def sN(R:Rec)(n:Int):Nat:=R.findIdx λc=>decide (c.num=n)
theorem zsc{R:Rec}{n:Int}{i:Nat}{c:Ch}(h:R[i]?=some c)(hi:i<=sN R n)(hc:c.num=n):sN R n=i:=by
 obtain⟨g,a⟩:=aL.1 h
 by_cases e:i=sN R n
 .exact e.symm
 .have f:i<List.findIdx (λc:Ch=>decide (c.num=n)) R:=by
   have:i<sN R n:=by omega
   exact this
  have:=jA f;rw[a]at this;simp[hc]at this
theorem zsd{R:Rec}{n:Int}{i:Nat}{c:Ch}(h:R[i]?=some c)(hi:i<=sN R n)(hc:¬c.num=n):i+1<=sN R n:=by
 obtain⟨g,j⟩:=aL.1 h
 by_cases a:i=sN R n
 .exfalso
  have:=iK (p:=λc:Ch=>decide (c.num=n)) (xs:=R) (w:=by rw[<-show i=List.findIdx _ R from a];exact g);have e:R[sN R n]?=some c:=by rw[<-a];exact h
  have f:=(aL.1 e).2;unfold sN at f;rw[f]at this;simp[hc]at this
 .omega
theorem El(R:Rec)(hR:sI R)(p:Option Addr)(c m:Nat)(hm:m=R.length)(b:Nat)(n:Int)(w:World)(h:nM w p m 513 (qp R))(hb:row w b [VB n] 3):
   CQ 197 [.slice p m c, .func (.func 198) #[] #[VA b]] w (λv w'=>v=VB (if sN R n<m then(sN R n:Int)else -1)/\VD w w'):=by
 have a:=Below.refl w.heap.size w;have A:maxLen=9223372036854775807:=by decide
 have B:=h.max;refine mK ?_;refine qY (α:=Nat) 0 (λk=>[(8,VB (k:Nat)),(7,VB (m:Nat)),(0, .slice p m c),(1, .func (.func 198) #[] #[VA b])]) (λk w'=>k<=m/\k<=sN R n/\VD w w') (λk=>m - k)
   VF ⟨aC _,aC _,a⟩ ?_
 rintro i f q ⟨C,o,a⟩;refine ny<|mZ (pI rfl rfl)<|nk<|nI<|oZ rfl (λr=>?_)<|λr=>?_
 ·
  refine lQ ?_;have g:∃ j,R[i]?=some j:=⟨_,aG dB⟩;obtain⟨j,g⟩:=g;have s:=h.some dB;obtain⟨D,E,rfl,F⟩:=s;have t:=hb.new a;refine nO<|ng<|ng<|ng<|mZ (qZ (e:=164) (sz:=513) dA rfl rfl i dB dB)<|mZ (oK rfl (NP (h.below a (ax _)) hR g))<|qA rfl (uH dA rfl rfl) (isA j b n q t) ?_
  rintro _ G ⟨rfl,u⟩;replace a:=a.acc u;refine nk<|xy rfl (λl=>?_)<|λl=>?_
  ·
   refine lS ?_;have y:=zsc g o (of_decide_eq_true l);refine⟨?_,a⟩;rw[if_pos dB,y];rfl
  ·
   have z:=zsd g o (of_decide_eq_false l);refine nU<|pO<|nJ<|nO<|mZ (oJ rfl rfl (Coup.nV dB))<|ng<|oI<|oM ⟨i+1,dB,VF,dB,z,a⟩
 ·
  obtain rfl:i=m:=by omega
  refine qL<|qK<|rq<|qO<|nJ<|ny<|nA<|nk<|nY<|ou [_] ⟨rfl,trivial⟩<|⟨?_,a⟩
  rw[if_neg dB];rfl
theorem indexB(R:Rec)(hR:sI R)(p:Option Addr)(c m:Nat)(hm:m=R.length)(b:Nat)(n:Int)(w:World)(h:nM w p m 513 (qp R))(hb:row w b [VB n] 3):
   CQ 197 [.slice p m c, .func (.func 159) #[] #[VA b]] w (λv w'=>v=VB (if sN R n<m then(sN R n:Int)else -1)/\VD w w'):=by
 have a:=Below.refl w.heap.size w;have A:maxLen=9223372036854775807:=by decide
 have B:=h.max;refine mK ?_;refine qY (α:=Nat) 0 (λk=>[(8,VB (k:Nat)),(7,VB (m:Nat)),(0, .slice p m c),(1, .func (.func 159) #[] #[VA b])]) (λk w'=>k<=m/\k<=sN R n/\VD w w') (λk=>m - k)
   VF ⟨aC _,aC _,a⟩ ?_
 rintro i f q ⟨C,o,a⟩;refine ny<|mZ (pI rfl rfl)<|nk<|nI<|oZ rfl (λr=>?_)<|λr=>?_
 ·
  refine lQ ?_;have g:∃ j,R[i]?=some j:=⟨_,aG dB⟩;obtain⟨j,g⟩:=g;have s:=h.some dB;obtain⟨D,E,rfl,F⟩:=s;have t:=hb.new a;refine nO<|ng<|ng<|ng<|mZ (qZ (e:=164) (sz:=513) dA rfl rfl i dB dB)<|mZ (oK rfl (NP (h.below a (ax _)) hR g))<|qA rfl (uH dA rfl rfl) (YP j b n q t) ?_
  rintro _ G ⟨rfl,u⟩;replace a:=a.acc u;refine nk<|xy rfl (λl=>?_)<|λl=>?_
  ·
   refine lS ?_;have y:=zsc g o (of_decide_eq_true l);refine⟨?_,a⟩;rw[if_pos dB,y];rfl
  ·
   have z:=zsd g o (of_decide_eq_false l);refine nU<|pO<|nJ<|nO<|mZ (oJ rfl rfl (Coup.nV dB))<|ng<|oI<|oM ⟨i+1,dB,VF,dB,z,a⟩
 ·
  obtain rfl:i=m:=by omega
  refine qL<|qK<|rq<|qO<|nJ<|ny<|nA<|nk<|nY<|ou [_] ⟨rfl,trivial⟩<|⟨?_,a⟩
  rw[if_neg dB];rfl
end Go.Proofs.YtpaniebomegnbaaGreat
namespace Coup
open Go Go.RowKit Go.Maps
section
variable {P:Program}{ρ:Env}{w:World}{d:Option Nat}{ty:TypeId}{pos:String}{af:Array Edge}{gd:Option (Nat × Bool)}{K:Value->World->Prop}
theorem YF {t k e:TypeId} {x:Operand} {m N:Nat} {f:Nat->Option Value} (ht:P.underlying t=some (.map k e)) (hm:MapAt P k w m N f) (hx:ev ρ x= .map (some m))
  (h:∀ w',MapAt P k w' m N (λ_=>none)->Only m w w'->K (.tuple #[]) w'):Mk P ρ w ⟨d, .call ⟨.builtin .clear,#[x],#[t]⟩,ty,pos,af,gd⟩ K:=by
 obtain⟨c,a,hb,F,i,j⟩:=hm;have e:=(aX.1 hb).1;refine⟨.tuple #[],Go.ChangeMaps.setBlock w m (.map #[] a),?_,h _ ⟨#[],a,?_,⟨ig,Go.MapKept.stamped_empty a,ig⟩,aC _,by rw[VP];rfl⟩ (VS ⟨c,a,#[],a,hb,rfl⟩)⟩
 .have f:=Go.MapKept.run_getObj_map (P:=P) hb
  have g:=Go.MapKept.run_setObj_map (P:=P) (.map #[] a) hb;simp[execOp,resolve,invoke,builtin,Builtin.clear_,hx,run_underlying ht,f,g,Result.andThen,Go.ChangeMaps.setBlock]
 .simp[Go.ChangeMaps.setBlock,e]
theorem TY{g o:Nat}{base e sz m c:Nat}{xs:List Value}(vs:List Value)(j:Nat)(hown:qU w base e sz g o m c xs)(hfit:j+vs.length<=xs.length):
  ∃ cur,row w g cur e/\o+j+vs.length<=cur.length/\∀ w',row w' g (splice cur (o+j) vs) e->qU w' base e sz g o m c (splice xs j vs):=by
 have y:=hown.1;rcases hown.2 with⟨l,_⟩|⟨z,A,B,cur,p,hb,q,f,r,C,s⟩
 .cases l
 .cases p
  have t:row w g cur.toList e:=by unfold row;simpa using q
  have D:m*sz<=c*sz:=cz _ f;have E:cur.toList.length=cur.size:=by simp
  refine⟨cur.toList,t,dB,λw' hr=>⟨?_,Or.inr ⟨g,o,c,(splice cur.toList (o+j) vs).toArray,rfl,hb,hr,f,r,?_,?_⟩⟩⟩
  .simp only[splice,aA,aI,aM];omega
  .simp only[splice,eQ,aA,aI,aM];omega
  .rw[<-s]
   have u:((cur.toList.drop o).take (m*sz)).length=m*sz:=by rw[aI,aM];omega
   refine dI λi=>?_
   rw[bD,bC,OG dB,OG (by rw[u];omega),bD,bC]
   by_cases a:i<m*sz
   .rw[if_pos a]
    by_cases h:i<j
    .rw[if_pos dB,if_pos h,if_pos a]
    .rw[if_neg dB,if_neg h]
     by_cases k:i<j+vs.length
     .rw[if_pos dB,if_pos k];congr 1;omega
     .rw[if_neg dB,if_neg k,if_pos a]
   .rw[if_neg a,if_neg dB,if_neg dB,if_neg a]
theorem zlC{z:Array Value}(hz:∀ v∈z.toList,v.oneCell'=true)(n:Nat):∀ v∈(Builtin.zeroCells z n).toList,v.oneCell'=true:=λv a=>by
 unfold Builtin.zeroCells at a;rw[Array.toList_map,bg]at a;obtain⟨i,c,rfl⟩:=a;have e:i<n*z.size:=by simpa using c
 have hp:0<z.size:=iH λf=>by rw[f,Nat.mul_zero]at e;omega
 have g:=Nat.mod_lt i hp;rw[getElem!_pos z (i % z.size) g];exact hz _ ig
theorem Vu {t e0:TypeId} {x:Operand} {z:Value} {g o base e sz m c k cc:Nat} {xs:List Value} (j:Nat) (ht:P.underlying t=some (.slice e0)) (hz:∀ w,(zeroValue e0).run P w= .ok z w) (hzs:z.cells.size=sz)
  (hz1:∀ v∈z.cells.toList,v.oneCell'=true) (hown:qU w base e sz g o m c xs) (hx:ev ρ x= .slice (some ⟨g,o+j*sz,none⟩) k cc) (hfit:j+k<=m)
  (h:∀ w' zs,zs.length=k*sz->qU w' base e sz g o m c (splice xs (j*sz) zs)->Only g w w'->K (.tuple #[]) w'):Mk P ρ w ⟨d, .call ⟨.builtin .clear,#[x],#[t]⟩,ty,pos,af,gd⟩ K:=by
 have s:=hown.1;have i:(j+k)*sz<=m*sz:=cz _ hfit;rw[cZ]at i;cases k with
 |zero=>
  refine⟨.tuple #[],w,?_,h w [] ig ?_ ⟨rfl,rfl,rfl,rfl,λ_ _=>rfl⟩⟩
  .simp[execOp,resolve,invoke,builtin,Builtin.clear_,hx,run_underlying ht,Result.andThen]
  .have:splice xs (j*sz) []=xs:=by simp[splice]
   rw[this];exact hown
 |succ k=>
  have c:(Builtin.zeroCells z.cells (k+1)).toList.length=(k+1)*sz:=by rw[fK,size_zeroCells,hzs]
  have l:j*sz+(Builtin.zeroCells z.cells (k+1)).toList.length<=xs.length:=by rw[c];omega
  obtain⟨a,hr,p,q⟩:=TY (Builtin.zeroCells z.cells (k+1)).toList (j*sz) hown l;have f:=run_storeCells_at P g (o+j*sz) e (Builtin.zeroCells z.cells (k+1)).toList 0 a.toArray w hr (by simpa using p) (zlC hz1 _);refine⟨.tuple #[],_,?_,h (w.setRow g (splice a (o+j*sz) (Builtin.zeroCells z.cells (k+1)).toList).toArray) _ c (q _ (setRow_heap w g _ _ e _ hr)) (Only.setRow _)⟩;simp only[dx]at f;have r:(storeCells ⟨g,o+j*sz,none⟩ (Builtin.zeroCells z.cells (k+1)).toList).run P w= .ok () (w.setRow g (splice a (o+j*sz) (Builtin.zeroCells z.cells (k+1)).toList).toArray):=by simpa [splice]using f
  simp[execOp,resolve,invoke,builtin,Builtin.clear_,hx,run_underlying ht,hz,r,Result.andThen]
theorem zkF {t t' e base sz g o m n cap k c g1 o1:Nat} {s x:Operand} {ys news:List Value} (ht:P.underlying t=some (.slice e)) (ht':t'=t) (hsz:vS P e sz=true) (hs:ev ρ s= .slice (some ⟨g,o,none⟩) n cap)
  (hown:qU w base e sz g o m cap ys) (hx:ev ρ x= .slice (some ⟨g1,o1,none⟩) k c) (hsrc:nM w (some ⟨g1,o1,none⟩) k sz news) (h1:∀ u∈news,u.oneCell'=true) (hroom:n+k<=m)
  (h:∀ w',qU w' base e sz g o m cap (splice ys (n*sz) news)->Only g w w'->K (.slice (some ⟨g,o,none⟩) (n+k) cap) w'):Mk P ρ w ⟨d, .call ⟨.builtin .append,#[s,x],#[t,t']⟩,ty,pos,af,gd⟩ K:=by
 subst ht';obtain⟨i,l,p⟩:=FI hsz;subst p;have q:=hsrc.len;have D:=hown.1;have r:(n+k)*i.size<=m*i.size:=cz _ hroom;rw[cZ]at r;have f:m<=cap:=by
  rcases hown.2 with⟨s,_⟩|⟨E,F,G,a,t,hb,H,f,_⟩
  .cases s
  .cases t;exact f
 obtain⟨a,hr,y,z⟩:=TY news (n*i.size) hown dB;have A:=Zl (P:=P) w t' ty e i ht l g o n cap a.toArray hr ⟨g1,o1,none⟩ k c news q (λj u B=>by rw[Addr.add_lit];exact hsrc.cell j B) h1 dB (by simpa using y);have C:(Builtin.append_ #[t',t'] ty #[.slice (some ⟨g,o,none⟩) n cap, .slice (some ⟨g1,o1,none⟩) k c]).run P w= .ok (.slice (some ⟨g,o,none⟩) (n+k) cap) (w.setRow g (splice a (o+n*i.size) news).toArray):=by simpa [splice]using A
 refine⟨_,w.setRow g (splice a (o+n*i.size) news).toArray,?_,h _ (z _ (setRow_heap w g _ _ e _ hr)) (Only.setRow _)⟩;simp[execOp,resolve,invoke,builtin,hs,hx,C,Result.andThen]
end
end Coup
namespace Go.Proofs.YtpaniebomegnbaaGreat
open Go Go.RowKit Coup
theorem TT{w:World}{base e sz g o m n c:Nat}{xs:List Value}(h:qU w base e sz g o m c xs)(hn:n<=m):qU w base e sz g o n c (xs.take (n*sz)):=by
 have q:=h.1;have a:n*sz<=m*sz:=cz _ hn;refine⟨by rw[aI];omega,?_⟩;rcases h.2 with⟨hn,_⟩|⟨r,s,t,e,f,hb,i,j,k,l,p⟩
 .cases hn
 .cases f
  exact .inr ⟨g,o,c,e,rfl,hb,i,ag hn j,k,l,by rw[<-p,dQ,bS a]⟩
theorem zmM{R:Rec}(h:sI R)(k:Nat):(qp R).take (k*513)=qp (R.take k):=by
 by_cases f:k<=R.length
 .have g:sI (R.take k):=λc i=>h c (fH i)
  have e:qp R=qp (R.take k)++qp (R.drop k):=by
   rw[qp,qp,qp,<-bR,bM]
  have a:=Ao g;rw[aI,bS f]at a;rw[e,bN a]
 .rw[aQ (l:=R) dB,aQ]
  rw[Ao h];exact cz _ dB
theorem zuD{R:Rec}(h:sI R){i:Nat}{c:Ch}(hi:i<R.length)(hc:c.page.length=512):splice (qp R) (i*513) (rV c)=qp (R.set i c):=by
 have f:sI (R.take i):=λc hc=>h c (fH hc)
 have a:=Ao f;rw[aI,bS dB]at a;have g:=BG hc;have j:∀ k,(qp R).drop (k*513)=qp (R.drop k):=λk=>by
  by_cases m:k<=R.length
  .have o:sI (R.take k):=λc hc=>h c (fH hc)
   have e:qp R=qp (R.take k)++qp (R.drop k):=by
    rw[qp,qp,qp,<-bR,bM]
   have a:=Ao o;rw[aI,bS m]at a;rw[e,fE a]
  .rw[cK (l:=R) dB,cK]
   .rfl
   .rw[Ao h]
    exact cz _ dB
 have p:R.set i c=R.take i++(c::R.drop (i+1)):=jQ.trans (by rw[if_pos hi]);unfold splice;rw[zmM h,g,show i*513+513=(i+1)*513 by omega,j,p];simp[qp]
def without(R:Rec)(n:Int):Rec:=R.filter λc=>!decide (c.num=n)
theorem zmN{R:Rec}{n:Int}(h:¬sN R n<R.length):without R n=R:=by
 refine iZ.2 λc a=>?_
 have e:¬∃ x∈R,decide (x.num=n)=true:=λf=>h (List.findIdx_lt_length.2 f)
 cases hd:decide (c.num=n)with
 |false=>rfl
 |true=>exact absurd ⟨c,a,hd⟩ e
theorem zlD{R:Rec}{n:Int}(h:sN R n<R.length):R.take (sN R n)=without (R.take (sN R n+1)) n:=by
 have hp:decide ((R[sN R n]).num=n)=true:=iK (p:=λc:Ch=>decide (c.num=n)) (xs:=R) (w:=h);rw[bf,aG h,without,fq];have a:(R.take (sN R n)).filter (λc=>!decide (c.num=n))=R.take (sN R n):=by
  refine iZ.2 λc e=>?_
  obtain⟨i,j,rfl⟩:=List.mem_take_iff_getElem.1 e;have f:i<List.findIdx (λc:Ch=>decide (c.num=n)) R:=by
   have:i<sN R n:=by omega
   exact this
  have g:=jA f;rw[g];rfl
 rw[a,fV,dE,hp];simp
theorem zmO{R:Rec}{n:Int}{j:Nat}{c:Ch}(h:R[j]?=some c):without (R.take (j+1)) n=if c.num=n then without (R.take j) n else without (R.take j) n++[c]:=by
 rw[bf,h,without,fq,fV]
 by_cases a:c.num=n
 .rw[if_pos a];simp[without,a]
 .rw[if_neg a];simp[without,a]
theorem BZ(w:World):(zeroValue 164).run Tryz.prog w= .ok (.agg (rV ⟨0,List.replicate 512 0⟩).toArray) w:=by kernel_rfl
theorem Yg{xs zs:List Value}(a:Nat)(h:a<=xs.length):(splice xs a zs).take a=xs.take a:=by
 unfold splice
 first
  |rw[bN kJ]
  |rw[aH,bN kJ]
theorem LK{w:World}{base e sz g o m c:Nat}{xs:List Value}(h:qU w base e sz g o m c xs):m<=c:=by
 rcases h.2 with⟨a,_⟩|⟨f,g,i,j,c,hb,k,e,_⟩
 .cases a
 .cases c;exact e
theorem Fy(R:Rec)(hR:sI R)(g o m c base:Nat)(hm:m=R.length)(b:Nat)(n:Int)(w:World)(h:qU w base 164 513 g o m c (qp R))(hb:row w b [VB n] 3)(hbg:b≠g):
   CQ 158 [.slice (some ⟨g,o,none⟩) m c, .func (.func 159) #[] #[VA b]] w (λv w'=>v= .slice (some ⟨g,o,none⟩) (without R n).length c/\qU w' base 164 513 g o (without R n).length c (qp (without R n))/\tC [g] w w'):=by
 have p:=tC.refl [g] w;have b0:maxLen=9223372036854775807:=by decide
 have b1:=h.sl.max;obtain⟨q,t⟩:∃ q:Int,(if sN R n<m then(sN R n:Int)else -1)=q:=⟨_,rfl⟩;have K:=λw' (h:nM w' (some ⟨g,o,none⟩) m 513 (qp R)) (hb:row w' b [VB n] 3)=>indexB R hR (some ⟨g,o,none⟩) c m hm b n w' h hb
 simp only[t]at K;have b2:=h.lt;have b3:=LK h;have b4:=hb.lt;refine nZ (rs:=[.tmp 4]) (n:=42) Tryz.func158 rfl rfl Tryz.ntmps158 dA rfl<|ny<|oG<|ng<|ng<|nP (K w h.sl hb) ?_
 rintro _ b5 ⟨rfl,C⟩;replace p:=p.new C;replace h:=h.new C;replace hb:=hb.new C;refine nA<|nk<|nI<|ny<|ng<|mZ (qB rfl rfl)<|nk<|oZ rfl (λL=>?_)<|λL=>?_
 ·
  refine mg ?_;have U:¬sN R n<R.length:=λM=>by rw[if_pos dB]at t;omega
  rw[zmN U,<-hm];exact⟨rfl,h,p⟩
 ·
  have V:sN R n<R.length:=by
    by_cases M:sN R n<R.length
    .exact M
    .rw[if_neg dB]at t;exact absurd t.symm L
  rw[if_pos dB]at t;subst t;refine nU<|nJ<|nI<|ny<|ng<|mZ (oJ rfl rfl (Coup.nV dB))<|nA<|nk<|pE ?_
  refine qY (α:=Nat × Nat × Rec) (sN R n,sN R n+1,R) (λa=>[(5,VB (a.1:Nat)),(6,VB (a.2.1:Nat)),(0, .slice (some ⟨g,o,none⟩) m c),(1, .func (.func 159) #[] #[VA b])])
    (λa w'=>a.1<a.2.1/\a.2.1<=m/\a.2.2.length=m/\sI a.2.2/\(∀ k,a.2.1<=k->a.2.2[k]?=R[k]?)/\a.2.2.take a.1=without (R.take a.2.1) n/\qU w' base 164 513 g o m c (qp a.2.2)/\row w' b [VB n] 3/\tC [g] w w') (λa=>m - a.2.1)
    VF ⟨il _,by show sN R n+1<=m;omega,hm.symm,hR,λ_ _=>rfl,zlD V,h,hb,p⟩ ?_
  clear h hb p;rintro⟨i,j,T⟩ f b6 ⟨b7,b8,N,s,D,y,h,hb,p⟩;dsimp only at*;refine nI<|ny<|ng<|ng<|mZ (oV (e:=164) (sz:=513) dA rfl rfl)<|mZ (pI rfl rfl)<|nk<|oZ rfl (λX=>?_)<|λX=>?_
  ·
   refine lN ?_;have Y:∃ r,R[j]?=some r:=⟨_,aG dB⟩;obtain⟨r,E⟩:=Y;have Z:=(D j (ax _)).trans E;have F:=hR r (aO E);have z:=zmO (n:=n) E;have a0:=BG F;have a1:=EC r;have b9:=p.k.size;refine nO<|ng<|ng<|mZ (qZ (e:=164) (sz:=513) dA rfl rfl j dB dB)<|mZ (oK rfl (NP h.sl s Z))<|nK<|oD (([VB 0])++(List.replicate 512 (Value.int .u8 0))) dA<|λO c4 P u G=>?_
   have a2:g<O:=ae h.lt P;have a3:b<O:=ae hb.lt P;replace p:=p.new G;replace h:=h.new G;replace hb:=hb.new G;refine nT<|oC 513 (rV r) u<|λa4 u H=>?_
   replace p:=p.only H iB;replace h:=h.only H (ai a2);replace hb:=hb.only H (ai a3);refine qx<|ng<|mZ (pz 513 u)<|qA rfl (uH dA rfl rfl) (YP r b n a4 hb) ?_
   rintro _ c5 ⟨rfl,A⟩;replace p:=p.new A;replace h:=h.new A;replace hb:=hb.new A;replace u:=u.new A;refine mZ (sj rfl)<|nk<|Ki rfl (λI=>?_)<|λI=>?_
   ·
    refine nI ?_;have J:¬r.num=n:=by simpa using I
    rw[if_neg J]at z;have c6:=Ao s;have a5:=zuD s (i:=i) (c:=r) dB F;refine nO<|ng<|ng<|mZ (pz 513 u)<|mZ (qZ (e:=164) (sz:=513) dA rfl rfl (i) dB dB)<|nT<|Jj (rV r) (i*513) h rfl rfl (by rw[a0];kernel_rfl) kS a1<|λc7 h Q=>?_
    replace p:=p.only Q iB;replace hb:=hb.only Q dB;rw[a5]at h;refine nk<|nO<|ng<|mZ (oJ rfl rfl (Coup.nV dB))<|nA<|oI<|pO<|nJ<|nO<|ng<|mZ (oJ rfl rfl (Coup.nV dB))<|nA<|oI<|oM ⟨(i+1,j+1,T.set i r),by show m - (j+1)<m - j;omega,⟨by go_num,by go_num,rfl,rfl,rfl⟩,by show i+1<j+1;omega,by show j+1<=m;omega,by show(T.set i r).length=m;rw[bA];exact N,?_,?_,?_,h,hb,p⟩
    .intro c a6
     rcases iO a6 with e|e
     .exact s c e
     .rw[e];exact F
    .intro k B
     show(T.set i r)[k]?=_;rw[ek,if_neg (by have:j+1<=k:=B;omega)];exact D k<|ag (Nat.le_succ _) B
    .show(T.set i r).take (i+1)=without (R.take (j+1)) n
     rw[z,<-y,bf,ek,if_pos rfl,if_pos dB,List.take_set_of_le (ax _)];rfl
   ·
    have J:r.num=n:=by simpa using I
    rw[if_pos J]at z;refine nU<|pO<|nJ<|nO<|ng<|mZ (oJ rfl rfl (Coup.nV dB))<|nA<|oI<|oM ⟨(i,j+1,T),by show m - (j+1)<m - j;omega,⟨rfl,by go_num,rfl,rfl,rfl⟩,by show i<j+1;omega,by show j+1<=m;omega,N,s,λk B=>D k (ag (Nat.le_succ _) B),y.trans z.symm,h,hb,p⟩
  ·
   obtain rfl:j=m:=by omega
   rw[aQ (l:=R) dB]at y;have a7:(without R n).length=i:=by rw[<-y,aI];omega
   have a8:=EC ⟨0,List.replicate 512 0⟩;refine qL<|qK<|rq<|qO<|nJ<|ny<|ng<|ng<|mZ (xn (e:=164) (sz:=513) (i) (j) (c) (j - i) dA rfl ⟨_,_,rfl,dB⟩ rfl rfl ig dB dB dB dB dB)<|nK<|Vu (e0:=164) (i) dA BZ dA a8 h rfl dB<|λc8 c9 d0 h a9=>?_
   replace p:=p.only a9 iB;refine qx<|ng<|ng<|mZ (xn (e:=164) (sz:=513) (0) (i) (c) (i) dA rfl rfl ⟨_,_,rfl,dB⟩ rfl ig dB dB dB dB dB)<|nA<|nk<|nY<|ou [_] ⟨rfl,trivial⟩ ?_
   have S:=TT h (n:=i) dB;rw[Yg _ (by rw[Ao s];exact cz _ dB),zmM s,y]at S;rw[a7];exact⟨rfl,S,p⟩
theorem zse{R:Rec}(h:sI R)(k:Nat):(qp R).drop (k*513)=qp (R.drop k):=by
 by_cases f:k<=R.length
 .have g:sI (R.take k):=λc i=>h c (fH i)
  have e:qp R=qp (R.take k)++qp (R.drop k):=by
   rw[qp,qp,qp,<-bR,bM]
  have a:=Ao g;rw[aI,bS f]at a;rw[e,fE a]
 .rw[cK (l:=R) dB,cK]
  .rfl
  .rw[Ao h]
   exact cz _ dB
theorem zmP{l n:List Value}:(splice l 0 n).take n.length=n:=by simp[splice]
theorem zof{l n:List Value}(h:n.length<=l.length):(splice l (0*513) n).length=l.length:=by
 simp[splice];omega
theorem Gz(R:Rec)(hR:sI R)(g o m c base:Nat)(hm:m=R.length)(h2:2<=m)(w:World)(h:qU w base 164 513 g o m c (qp R)):
  CQ 240 [.slice (some ⟨g,o,none⟩) m c,VB 0,VB 1] w (λv w'=>v= .slice (some ⟨g,o,none⟩) (R.drop 1).length c/\qU w' base 164 513 g o (R.drop 1).length c (qp (R.drop 1))/\tC [g] w w'):=by
 have a:=tC.refl [g] w;have A:maxLen=9223372036854775807:=by decide
 have B:=h.sl.max;have C:=h.lt;have D:=LK h;have r:=λw' (h:qU w' base 164 513 g o m c (qp R))=>(show nM w' (some ⟨g,o+1*513,none⟩) (m - 1) 513 (qp (R.drop 1))from by
  have i:=h.sl.sub 1 (m - 1) dB;rw[zse hR 1,aQ]at i
  .exact i
  .rw[Ao (λc f=>hR c (eP f)),aM,<-hm];exact ax _)
 have j:(R.drop 1).length=m - 1:=by rw[aM,hm]
 have s:=zut (R.drop 1);have t:=EC ⟨0,List.replicate 512 0⟩;refine nZ (rs:=[.tmp 6]) (n:=33) Tryz.func240 rfl rfl Tryz.ntmps240 dA rfl<|ny<|oG<|ng<|ng<|ng<|ng<|mZ (oV (e:=164) (sz:=513) dA rfl rfl)<|mZ (xn (e:=164) (sz:=513) (0) (1) (m) (1) dA rfl ⟨_,_,rfl,dB⟩ ⟨_,_,rfl,dB⟩ ⟨_,_,rfl,dB⟩ ig dB dB dB dB dB)<|nk<|nI<|ny<|ng<|ng<|mZ (qB rfl rfl)<|nk<|qg rfl (dB)<|nU<|nJ<|ny<|ng<|mZ (oV (e:=164) (sz:=513) dA rfl rfl)<|nA<|nk<|nI<|qH [g] dA ?_
 intro E k u;replace a:=a.new k;replace h:=h.new k;refine nu 0 (nS)<|nu 1 (nS)<|nu 2 (xn (e:=164) (sz:=513) (0) (0) (c) (0) dA rfl rfl ⟨_,_,rfl,dB⟩ rfl ig dB dB dB dB dB)<|nu 3 (nS)<|nu 4 (nS)<|nu 5 (xn (e:=164) (sz:=513) (1) (m) (c) (m - 1) dA rfl ⟨_,_,rfl,dB⟩ rfl rfl ig dB dB dB dB dB)<|oh 6 dA<|rf rfl rfl<|zkF (e:=164) (sz:=513) dA rfl dA rfl h rfl (r _ h) s dB<|λF h l=>?_
 have y:=u.aq l;refine⟨y,?_⟩;replace a:=a.only l iB;refine nu 7 (rO)<|pq dA<|nJ<|ny<|ng<|ng<|mZ (oV (e:=164) (sz:=513) dA rfl rfl)<|ng<|mZ (xn (e:=164) (sz:=513) (m - 1) (m) (c) (1) dA rfl ⟨_,_,rfl,dB⟩ ⟨_,_,rfl,dB⟩ rfl ig dB dB dB dB dB)<|nK<|Vu (e0:=164) ((m - 1)) dA BZ dA t h rfl dB<|λG H I h z=>?_
 replace a:=a.only z iB;refine mM ?_;have p:=TT h (n:=m - 1) dB;have q:=Ao (λc f=>hR c (eP f):sI (R.drop 1));rw[j]at q;have J:=Ao hR;rw[Yg _ (by rw[zof dB];omega),cO,dx,gB,<-q,zmP]at p;rw[j];exact⟨by show Value.slice (some ⟨g,o+0*513,none⟩) (0+(m - 1)) (c - 0)=_;rw[cO,dx,aZ,gB],p,a⟩
end Go.Proofs.YtpaniebomegnbaaGreat
namespace Go.Proofs
open Go.Shelf
def Tryz.Zw:Go.Shelf.Ren:=⟨fun|7=>208|10=>244|n=>n,fun|23=>129|26=>3|3=>121|28=>287|0=>0|27=>286|33=>261|4=>4|n=>n,fun|n=>n⟩
theorem Tryz.Ec:Go.Proofs.SlLaysZI.n7 Tryz.prog Tryz.Zw:={
 mixed:=by kernel_rfl
 f7:=⟨Tryz.f208.name,iT,Tryz.func208.trans (congrArg some dA)⟩
 f10:=⟨Tryz.f244.name,iT,Tryz.func244.trans (congrArg some dA)⟩
 t0:=Tryz.underlying0
 a0:=Tryz.isAgg0
 z0:=Tryz.sizeOf0
 v0:=Tryz.zeroValue0
 t4:=Tryz.underlying4
 a4:=Tryz.isAgg4
 z4:=Tryz.sizeOf4
 v4:=Tryz.zeroValue4
 t23:=Tryz.underlying129
 a23:=Tryz.isAgg129
 z23:=Tryz.sizeOf129
 v23:=Tryz.zeroValue129
 t26:=Tryz.underlying3
 a26:=Tryz.isAgg3
 z26:=Tryz.sizeOf3
 v26:=Tryz.zeroValue3
 t27:=Tryz.underlying286
 a27:=Tryz.isAgg286
 z27:=Tryz.sizeOf286
 v27:=Tryz.zeroValue286
 t28:=Tryz.underlying287
 a28:=Tryz.isAgg287
 z28:=Tryz.sizeOf287
 v28:=Tryz.zeroValue287
 t33:=Tryz.underlying261
 a33:=Tryz.isAgg261
 z33:=Tryz.sizeOf261
 v33:=Tryz.zeroValue261}
end Go.Proofs
namespace Go.Proofs.YtpaniebomegnbaaGreat
open Go Go.RowKit Go.Maps Go.Sort Go.Shelf Coup
theorem KG(mb:Option Nat)(w:World):CQ 208 [.map mb] w (λv w'=>v= .func (.func 244) #[] #[VA w.heap.size]/\w'=w.alloc (.cells #[.map mb] 129)/\VD w w'):=by
 have a:CallsIn Fence.wide 5 Tryz.prog 208 #[.map mb] w λe w'=>e= .returned (.func (.func 244) #[] #[VA w.heap.size])/\w'=w.alloc (.cells #[.map mb] 129):=AnyZI.keys_in Tryz.Ec Fence.wide 5 trivial rfl mb w
 refine(callsIn_wide.1 a).mono ?_;rintro e w' ⟨rfl,rfl⟩;exact⟨_,rfl,rfl,rfl,(Below.refl _ w).alloc (ax _) _⟩
theorem zuE{b N:Nat}{f:Nat->Option Value}(w W:World)(hW:W=w.alloc (.cells #[.map (some b)] 129))(h:MapAt Tryz.prog 3 w b N f)(hN:N<=1000000):
  CQ 207 [.func (.func 244) #[] #[VA w.heap.size]] W (λv w'=>∃ p c,v= .slice p (keysOf f 0 N).length c/\nM w' p (keysOf f 0 N).length 1 (iv (keysOf f 0 N))/\(∀ b o,p=some ⟨b,o,none⟩->W.heap.size<=b)/\VD W w'):=by
 subst hW;have l:=h.lt;have m:=RN f N 0;have A:maxLen=9223372036854775807:=by decide
 have B:Maps.size (DataW.map (qW f 0 N))<=N:=m;have q:(w.alloc (.cells #[.map (some b)] 129)).ownsMap Tryz.prog 3 RH b N (.map (qW f 0 N)):=by
  obtain⟨r,s,hb,Ft,t,u⟩:=h;exact⟨r,s,(Below.heap_alloc _ _ b l).trans hb,Ft,t,u⟩
 have y:SeqGives Fence.wide 2 Tryz.prog 244 #[VA w.heap.size] encZ (λa=>a.Perm (intKeys (DataW.map (qW f 0 N)))) (Maps.size (DataW.map (qW f 0 N))) (w.alloc (.cells #[.map (some b)] 129)):=
  AnyZI.keys_gives (ρ:=Tryz.Zw) {Tryz.Ec with} Fence.wide _ trivial rfl dB w.heap.size b N _ _ ig ig q
 have i:=AnyZI.sorted_in Tryz.t_ Fence.wide 5 trivial trivial trivial trivial rfl dB (Cz _) (enters_of Tryz.func55 dA rfl) 244 #[VA w.heap.size] trivial (enters_of Tryz.func244 dA rfl) _ _ dB dB _ y
 change CallsIn _ _ Tryz.prog 207 _ _ _ at i
 refine(callsIn_wide.1 i).mono ?_;rintro e w' ⟨v,a,rfl,j,k,C,hb⟩;have z:a.length=(keysOf f 0 N).length:=by rw[<-RL,j.length_eq]
 rw[zhj f N 0 j,z]at k;have g:=Sb k;obtain⟨p,c,rfl⟩:=g.form;exact⟨_,rfl,p,c,rfl,g.sl,λb o e=>(g.lt b kZ).1,hb⟩
end Go.Proofs.YtpaniebomegnbaaGreat
namespace Go.Proofs.YtpaniebomegnbaaGreat
open Go Go.RowKit Coup
theorem IU{m N:Nat}{f:Nat->Option Value}(w:World)(h:MapAt Tryz.prog 3 w m N f)(hN:N<=1000000):
  CQ 149 [.map (some m)] w (λv w'=>(∃ p c,v= .slice p (keysOf f 0 N).length c/\nM w' p (keysOf f 0 N).length 1 (iv (keysOf f 0 N))/\∀ b o,p=some ⟨b,o,none⟩->w.heap.size<=b)/\VD w w'):=by
 have a:=Below.refl w.heap.size w;have g:=λw' W i (j:MapAt Tryz.prog 3 w' m N f)=>zuE w' W i j hN
 refine nZ (rs:=[.tmp 2]) (n:=6) Tryz.func149 rfl rfl Tryz.ntmps149 dA rfl<|ny<|oG<|ng<|nP (KG (some m) w) ?_
 rintro _ k ⟨rfl,l,q⟩;replace a:=a.acc q;have r:=a.size;refine nP (g w k l h) ?_;rintro _ y ⟨p,c,rfl,s,t,u⟩;replace a:=a.acc u;refine lZ ?_;exact⟨⟨p,c,rfl,s,λb o e=>ag r (t b o e)⟩,a⟩
abbrev Pg:=List UInt8
abbrev tK:=Nat->Option Pg
def WM(b:Pg):Value:=.agg (bv b).toArray
def rM(c:tK):Nat->Option Value:=λi=>(c i).map WM
def uW(c:tK)(i:Nat)(v:Option Pg):tK:=λj=>if j=i then v else c j
def xJ:tK:=λ_=>none
theorem zpu(c:tK)(i:Nat)(v:Option Pg):vY (rM c) i (v.map WM)=rM (uW c i v):=by
 funext j
 unfold vY rM uW
 split<;>rfl
theorem RI(c:tK)(i:Nat)(b:Pg):vY (rM c) i (some (.agg (bv b).toArray))=rM (uW c i (some b)):=zpu c i (some b)
theorem zsf(c:tK)(i:Nat):vY (rM c) i none=rM (uW c i none):=zpu c i none
structure Pl where
 D:Dk
 G:Lg
 fr:Nat
 ch:tK
 di:tK
 cl:Rec
 dead:Bool
def Pl.n(P:Pl):Nat:=vN P.D.V.length P.G.size
structure xP(P:Pl):Prop where
 lg:AQ P.D P.G
 n4:4<=P.n
 fr2:2<=P.fr
 frm:P.fr<=100
 ch:∀ i b,P.ch i=some b->b.length=512
 di:∀ i b,P.di i=some b->b.length=512
 cl:sI P.cl
 cll:P.cl.length<=P.fr
def uh(g x s f mc md:Nat)(rv:Value)(dead:Bool):List Value:=[VA g,VA x,VB (s:Int),VB (f:Int), .map (some mc), .map (some md),rv, .bool dead]
structure pu(g x q mc md:Nat)(rv cv:Value)(Y:VE)(lo:Nat)(L:List Nat)(P:Pl)(w:World):Prop where
 lg:rX g x Y lo (cv.ownBlock.toList++q::mc::md::L) P.D P.G w
 row:row w q (uh g x P.G.size P.fr mc md rv P.dead) 162
 mch:MapAt Tryz.prog 3 w mc P.n (rM P.ch)
 mdi:MapAt Tryz.prog 3 w md P.n (rM P.di)
 own:og w 0 164 513 cv P.cl.length (qp P.cl)
 qm:q≠mc
 qd:q≠md
 md':mc≠md
 cq:∀ b∈cv.ownBlock.toList,b≠q/\b≠mc/\b≠md/\lo<=b/\b∉L
 ql:lo<=q/\q∉L
 mcl:lo<=mc/\mc∉L
 mdl:lo<=md/\md∉L
def PZ(q:Nat)(P:Pl):VE:=λw B=>∃ g x mc md cv a,B=a++(x::(cv.ownBlock.toList++[q,mc,md]))/\xS w g a P.D/\Coup.row w x (EI g P.G) 231/\
 Coup.row w q (uh g x P.G.size P.fr mc md cv P.dead) 162/\MapAt Tryz.prog 3 w mc P.n (rM P.ch)/\MapAt Tryz.prog 3 w md P.n (rM P.di)/\og w 0 164 513 cv P.cl.length (qp P.cl)/\
 (∀ b∈a,b∉(x::(cv.ownBlock.toList++[q,mc,md])))/\x∉cv.ownBlock.toList++[q,mc,md]/\q≠mc/\q≠md/\mc≠md/\∀ b∈cv.ownBlock.toList,b≠q/\b≠mc/\b≠md
instance(q:Nat)(P:Pl):nz (PZ q P):=
 ⟨fun {w w' B M} ⟨g,x,mc,md,cv,m,e,c,f,h,i,j,l,o⟩ k a=>by
   subst e;exact⟨g,x,mc,md,cv,m,rfl,c.nD k λb hb=>a b jX,f.nD k (a x ig),h.nD k (a q ig),i.nD k (a mc ig),j.nD k (a md ig),l.nD k (λb hb e=>a b kH hb),o⟩,
  fun {w B} ⟨g,x,mc,md,cv,m,e,c,f,h,i,j,l,o⟩ b hb=>by
   subst e;simp only[ay,ak,bq,or_false]at hb;rcases hb with hb|rfl|hb|rfl|rfl|rfl
   .exact c.lt b hb
   .exact f.lt
   .exact(l.lt b (ah.1 hb)).2
   .exact h.lt
   .exact i.lt
   .exact j.lt⟩
section
variable {Y:VE}{g x q mc md lo gc:Nat}{rv cv cv2:Value}{L L2 M:List Nat}{P:Pl}{w w':World}
theorem NE(h:Two (PZ q P) Y lo L w):∃ g x mc md cv,pu g x q mc md cv cv Y lo L P w:=by
 obtain⟨⟨B,C,⟨g,x,mc,md,cv,A,e,D,r,s,t,u,y,E,i,F,G,H,j⟩,I,c,z⟩,J,K⟩:=h;subst e;have k:=c x ig;have l:=c q ig;have m:=c mc ig;have o:=c md ig;have p:=λb (hb:b∈cv.ownBlock.toList)=>c b jX
 refine⟨g,x,mc,md,cv,⟨⟨⟨A,C,D,I,λb hb=>⟨(c b jX).1,(c b jX).2.1,λa=>?_⟩,λb hb=>⟨(z b hb).1,λa=>?_⟩⟩,J,λb a=>?_⟩,r,k.1,λa=>?_⟩,s,t,u,y,F,G,H,λb hb=>⟨(j b hb).1,(j b hb).2.1,(j b hb).2.2,(p b hb).1,(p b hb).2.2⟩,⟨l.1,l.2.2⟩,⟨m.1,m.2.2⟩,⟨o.1,o.2.2⟩⟩
 .have f:=E b hb
  have L:=(c b jX).2.2;simp only[ak,ay,bq,or_false,not_or]at f a;rcases a with rfl|a|rfl|rfl|rfl|a
  .exact f.1 rfl
  .exact f.2.1 a
  .exact f.2.2.1 rfl
  .exact f.2.2.2.1 rfl
  .exact f.2.2.2.2 rfl
  .exact L a
 .simp only[ak,ay]at a
  rcases a with rfl|a|rfl|rfl|rfl|a
  .exact k.2.1 hb
  .exact(p b a).2.1 hb
  .exact l.2.1 hb
  .exact m.2.1 hb
  .exact o.2.1 hb
  .exact(z b hb).2 a
 .simp only[ak,ay]at a
  rcases a with rfl|a|rfl|rfl|rfl|a
  .exact r.lt
  .exact(y.lt b (ah.1 a)).2
  .exact s.lt
  .exact t.lt
  .exact u.lt
  .exact K b a
 .simp only[ak,ay,bq,or_false,not_or]at i a
  rcases a with a|rfl|rfl|rfl|a
  .exact i.1 a
  .exact i.2.1 rfl
  .exact i.2.2.1 rfl
  .exact i.2.2.2 rfl
  .exact k.2.2 a
theorem zpv(h:pu g x q mc md cv cv Y lo L P w):Two (PZ q P) Y lo L w:=by
 obtain⟨⟨⟨⟨p,C,r,s,i,j⟩,t,u⟩,y,z,e⟩,A,B,D,E,F,G,H,f,k,a,l⟩:=h;have m:∀ b,b∈C->b∉x::(cv.ownBlock.toList++q::mc::md::L):=λb hb=>(j b hb).2
 have o:x∉cv.ownBlock.toList++[q,mc,md]/\x∉L:=by
  simp only[ay,ak,not_or]at e;simp only[ay,ak,not_or,bq,not_false_eq_true,and_true];exact⟨⟨e.1,e.2.1,e.2.2.1,e.2.2.2.1⟩,e.2.2.2.2⟩
 refine⟨⟨_,C,⟨g,x,mc,md,cv,p,rfl,r,y,A,B,D,E,λb hb a=>(i b hb).2.2 ?_,o.1,F,G,H,λb hb=>⟨(f b hb).1,(f b hb).2.1,(f b hb).2.2.1⟩⟩,s,λb hb=>?_,λb hb=>⟨(j b hb).1,λa=>m b hb kE⟩⟩,t,λb hb=>u b jX⟩
 .simp only[ay,ak,bq,or_false]at a |-
  rcases a with a|a|a|a|a
  .exact .inl a
  .exact .inr<|.inl a
  .exact .inr<|.inr<|.inl a
  .exact .inr<|.inr<|.inr<|.inl a
  .exact .inr<|.inr<|.inr<|.inr<|.inl a
 .have c:∀ b,b∈x::(cv.ownBlock.toList++q::mc::md::L)->b∉C:=λb a c=>m b c a
  simp only[ay,ak,bq,or_false]at hb;rcases hb with hb|rfl|hb|rfl|rfl|rfl
  .exact⟨(i b hb).1,(i b hb).2.1,λa=>(i b hb).2.2 kE⟩
  .exact⟨z,c _ ig,o.2⟩
  .exact⟨(f b hb).2.2.2.1,c _ jX,(f b hb).2.2.2.2⟩
  .exact⟨k.1,c _ ig,k.2⟩
  .exact⟨a.1,c _ ig,a.2⟩
  .exact⟨l.1,c _ ig,l.2⟩
namespace pu
theorem lo'(h:pu g x q mc md rv cv Y lo L P w):lo<=w.heap.size:=h.lg.two.lo
theorem Qv(h:pu g x q mc md rv cv Y lo L P w):q<w.heap.size/\mc<w.heap.size/\md<w.heap.size:=⟨h.row.lt,h.mch.lt,h.mdi.lt⟩
theorem UD(h:pu g x q mc md rv cv Y lo L P w):∀ b∈L,b<w.heap.size:=λb hb=>h.lg.two.lt b jX
theorem nD [hY:nz Y](h:pu g x q mc md rv cv Y lo L P w)(k:Kp M w w')(hM:∀ b∈M,b<lo\/b∈L):pu g x q mc md rv cv Y lo L P w':=by
 have a:∀ b,lo<=b/\b∉L->b∉M:=λb hb c=>(hM b c).elim (λf=>absurd hb.1 (dW.2 f)) hb.2
 exact⟨h.lg.nD k λb hb=>(hM b hb).imp id λc=>by simp[c],h.row.nD k (a q h.ql),h.mch.nD k (a mc h.mcl),h.mdi.nD k (a md h.mdl),h.own.nD k λb hb e=>a b (h.cq b kH).2.2.2 hb,h.qm,h.qd,h.md',h.cq,h.ql,h.mcl,h.mdl⟩
theorem new [hY:nz Y](h:pu g x q mc md rv cv Y lo L P w)(hb:VD w w'):pu g x q mc md rv cv Y lo L P w':=h.nD (M:=[]) (Kp.of_below hb) ig
theorem only[hY:nz Y](h:pu g x q mc md rv cv Y lo L P w)(ho:Only gc w w')(hg:gc<lo\/gc∈L):pu g x q mc md rv cv Y lo L P w':=h.nD (Kp.rJ ho) λb hb=>by rw[aJ.1 hb];exact hg
theorem weak(h:pu g x q mc md rv cv Y lo L P w)(h2:∀ b∈L2,b∈L):pu g x q mc md rv cv Y lo L2 P w:=
 ⟨h.lg.weak λb hb=>by
  simp only[ay,ak]at hb |-;rcases hb with a|a|a|a|a
  .exact .inl a
  .exact .inr<|.inl a
  .exact .inr<|.inr<|.inl a
  .exact .inr<|.inr<|.inr<|.inl a
  .exact .inr (.inr (.inr (.inr (h2 b a)))),h.row,h.mch,h.mdi,h.own,h.qm,h.qd,h.md',λb hb=>⟨(h.cq b hb).1,(h.cq b hb).2.1,(h.cq b hb).2.2.1,(h.cq b hb).2.2.2.1,λa=>(h.cq b hb).2.2.2.2 (h2 b a)⟩,⟨h.ql.1,λa=>h.ql.2 (h2 _ a)⟩,⟨h.mcl.1,λa=>h.mcl.2 (h2 _ a)⟩,⟨h.mdl.1,λa=>h.mdl.2 (h2 _ a)⟩⟩
theorem nL [hY:nz Y](h:pu g x q mc md rv cv Y lo L P w)(hb:VD w w')(hg:w.heap.size<=gc)(hg':gc<w'.heap.size):pu g x q mc md rv cv Y lo (gc::L) P w':=by
 have c:=h.new hb;have e:=h.Qv;refine⟨(h.lg.nL hb hg hg').weak λb hb=>?_,c.row,c.mch,c.mdi,c.own,h.qm,h.qd,h.md',λb hb=>⟨(h.cq b hb).1,(h.cq b hb).2.1,(h.cq b hb).2.2.1,(h.cq b hb).2.2.2.1,λa=>?_⟩,⟨h.ql.1,λa=>?_⟩,⟨h.mcl.1,λa=>?_⟩,⟨h.mdl.1,λa=>?_⟩⟩
 .simp only[ay,ak]at hb |-
  rcases hb with a|a|a|a|a|a
  .exact .inr<|.inl a
  .exact .inr<|.inr<|.inl a
  .exact .inr<|.inr<|.inr<|.inl a
  .exact .inr<|.inr<|.inr<|.inr<|.inl a
  .exact .inl a
  .exact .inr<|.inr<|.inr<|.inr<|.inr a
 .rcases ak.1 a with rfl|a
  .have:=(h.own.lt b (ah.1 hb)).2;omega
  .exact(h.cq b hb).2.2.2.2 a
 .rcases ak.1 a with rfl|a
  .omega
  .exact h.ql.2 a
 .rcases ak.1 a with rfl|a
  .omega
  .exact h.mcl.2 a
 .rcases ak.1 a with rfl|a
  .omega
  .exact h.mdl.2 a
theorem xne(h:pu g x q mc md rv cv Y lo L P w):x≠q/\x≠mc/\x≠md/\x∉cv.ownBlock.toList/\x∉L:=by
 have a:=h.lg.ni;simp only[ay,ak,not_or]at a;exact⟨a.2.1,a.2.2.1,a.2.2.2.1,a.1,a.2.2.2.2⟩
theorem setRow [hY:nz Y]{rv2:Value}{b:Bool}(h:pu g x q mc md rv cv Y lo L P w)(hr:Coup.row w' q (uh g x P.G.size P.fr mc md rv2 b) 162)(ho:Only q w w'):pu g x q mc md rv2 cv Y lo L {P with dead:=b} w':=
 ⟨h.lg.only ho (.inr ig),hr,h.mch.only ho (bT h.qm),h.mdi.only ho (bT h.qd),h.own.nD (Kp.rJ ho) (λb hb e=>by rw[aJ.1 hb]at e;exact(h.cq q kH).1 rfl),h.qm,h.qd,h.md',h.cq,h.ql,h.mcl,h.mdl⟩
theorem Qt [hY:nz Y]{c:tK}(h:pu g x q mc md rv cv Y lo L P w)(hr:MapAt Tryz.prog 3 w' mc P.n (rM c))(ho:Only mc w w'):pu g x q mc md rv cv Y lo L {P with ch:=c} w':=
 ⟨h.lg.only ho (.inr ig),h.row.only ho h.qm,hr,h.mdi.only ho (bT h.md'),h.own.nD (Kp.rJ ho) (λb hb e=>by rw[aJ.1 hb]at e;exact(h.cq mc kH).2.1 rfl),h.qm,h.qd,h.md',h.cq,h.ql,h.mcl,h.mdl⟩
theorem CK [hY:nz Y]{c:tK}(h:pu g x q mc md rv cv Y lo L P w)(hr:MapAt Tryz.prog 3 w' md P.n (rM c))(ho:Only md w w'):pu g x q mc md rv cv Y lo L {P with di:=c} w':=
 ⟨h.lg.only ho (.inr ig),h.row.only ho h.qd,h.mch.only ho h.md',hr,h.own.nD (Kp.rJ ho) (λb hb e=>by rw[aJ.1 hb]at e;exact(h.cq md kH).2.2.1 rfl),h.qm,h.qd,h.md',h.cq,h.ql,h.mcl,h.mdl⟩
theorem RG [hY:nz Y]{R:Rec}(h:pu g x q mc md rv cv Y lo L P w)(hv:og w' 0 164 513 cv2 R.length (qp R))(k:Kp cv.ownBlock.toList w w')(hf:∀ b,cv2.ownBlock=some b->cv.ownBlock=some b\/w.heap.size<=b):pu g x q mc md rv cv2 Y lo L {P with cl:=R} w':=by
 have G:=h.Qv;have i:=h.xne;have H:=h.lo';have t:=h.UD;have u:=h.lg.nD k λb hb=>.inr jX
 have l:∀ b∈cv2.ownBlock.toList,b∈cv.ownBlock.toList\/w.heap.size<=b:=λb hb=>(hf b (ah.1 hb)).imp (λe=>ah.2 e) id
 have y:∀ b∈cv2.ownBlock.toList,b≠q/\b≠mc/\b≠md/\lo<=b/\b∉L:=λb hb=>(l b hb).elim (h.cq b) λo=>⟨dB,dB,dB,dB,λa=>by have:=t b a;omega⟩
 obtain⟨⟨⟨B,C,r,s,m,p⟩,z,j⟩,A,D,I⟩:=h.lg;have E:=λb hb=>(inferInstance:nz (DZ g P.D)).lt r b hb
 have F:=λb hb=>hY.lt s b hb
 refine⟨⟨⟨⟨B,C,?_,?_,λb hb=>⟨(m b hb).1,(m b hb).2.1,λa=>?_⟩,λb hb=>⟨(p b hb).1,λa=>?_⟩⟩,ag z k.size,λb a=>?_⟩,u.rowx,D,λa=>?_⟩,h.row.nD k λa=>(h.cq q a).1 rfl,h.mch.nD k λa=>(h.cq mc a).2.1 rfl,h.mdi.nD k λa=>(h.cq md a).2.2.1 rfl,hv,h.qm,h.qd,h.md',y,h.ql,h.mcl,h.mdl⟩
 .exact(inferInstance:nz (DZ g P.D)).nD r k λb hb a=>(m b hb).2.2 kE
 .exact hY.nD s k λb hb a=>(p b hb).2 kE
 .have c:=(m b hb).2.2
  simp only[ak,ay,not_or]at c a;rcases a with a|a|a|a|a|a
  .exact c.1 a
  .exact(l b a).elim c.2.1 λo=>by have:=E b hb;omega
  .exact c.2.2.1 a
  .exact c.2.2.2.1 a
  .exact c.2.2.2.2.1 a
  .exact c.2.2.2.2.2 a
 .have f:=(p b hb).2
  simp only[ak,ay,not_or]at f a;rcases a with a|a|a|a|a|a
  .exact f.1 a
  .exact(l b a).elim f.2.1 λo=>by have:=F b hb;omega
  .exact f.2.2.1 a
  .exact f.2.2.2.1 a
  .exact f.2.2.2.2.1 a
  .exact f.2.2.2.2.2 a
 .simp only[ak,ay]at a
  rcases a with a|a|a|a|a|a
  .exact ae (j b kE) k.size
  .exact(hv.lt b (ah.1 a)).2
  .exact ae (j b kE) k.size
  .exact ae (j b kE) k.size
  .exact ae (j b kE) k.size
  .exact ae (j b kE) k.size
 .simp only[ay,ak]at a
  rcases a with a|a|a|a|a
  .refine(l x a).elim i.2.2.2.1 λo=>?_
   have:=A.lt;omega
  .exact i.1 a
  .exact i.2.1 a
  .exact i.2.2.1 a
  .exact i.2.2.2.2 a
theorem DU{D:Dk}{G:Lg}(h:pu g x q mc md rv cv Y lo L P w)(hG:rX g x Y lo (cv.ownBlock.toList++q::mc::md::L) D G w')(k:nC lo (cv.ownBlock.toList++q::mc::md::L) w w')(hs:G.size=P.G.size)(hD:D.V.length=P.D.V.length):pu g x q mc md rv cv Y lo L {P with D:=D,G:=G} w':=by
 have a:({P with D:=D,G:=G}:Pl).n=P.n:=by unfold Pl.n;dsimp only;rw[hs,hD]
 refine⟨hG,?_,?_,?_,h.own.nD k.kp λb hb e=>pG (.inr kH) hb,h.qm,h.qd,h.md',h.cq,h.ql,h.mcl,h.mdl⟩
 .dsimp only;rw[hs];exact h.row.nD k.kp (pG (.inr ig))
 .rw[a];exact h.mch.nD k.kp (pG (.inr ig))
 .rw[a];exact h.mdi.nD k.kp (pG (.inr ig))
theorem Jv(h:pu g x q mc md rv cv Y lo L P w)(k:nC lo (cv.ownBlock.toList++q::mc::md::L) w w'):nC lo L w w':=k.weak (ax _) λb hb=>by simp[hb]
theorem QF(h:pu g x q mc md rv cv Y lo L P w)(k:Kp cv.ownBlock.toList w w'):nC lo L w w':=nC.LA k λb hb=>.inl (h.cq b hb).2.2.2
end pu
theorem Xe [hY:nz Y] {Pr:Program} {f:FuncId} {args:Array Value} {R:Value->Prop} {P':Pl} (h:Two (PZ q P) Y lo L w)
  (hc:∀ g x mc md cv,pu g x q mc md cv cv Y lo L P w->Calls Pr f args w (qb λv w'=>R v/\(∃ cv',pu g x q mc md cv' cv' Y lo L P' w')/\nC lo L w w')):Calls Pr f args w (qb λv w'=>R v/\Two (PZ q P') Y lo L w'/\nC lo L w w'):=by
 obtain⟨g,x,mc,md,cv,a⟩:=NE h;exact(hc g x mc md cv a).to λv w' ⟨c,⟨cv',e⟩,f⟩=>⟨c,zpv e,f⟩
end
theorem IC(b:Nat)(n:Int)(w:World)(hb:row w b [VB n] 3):
  CQ 158 [VC, .func (.func 159) #[] #[VA b]] w (λv w'=>v=VC/\VD w w'):=by
 have a:=Below.refl w.heap.size w;have f:nM w none 0 513 (qp []):=(xV w 0 164 513).sl;have e:=λw' (c:nM w' none 0 513 (qp [])) (hb:row w' b [VB n] 3)=>indexB [] (λ_ c=>nomatch c) none 0 0 rfl b n w' c hb
 rw[if_neg ig]at e;refine nZ (rs:=[.tmp 4]) (n:=42) Tryz.func158 rfl rfl Tryz.ntmps158 dA rfl<|ny<|oG<|ng<|ng<|nP (e w f hb) ?_
 rintro _ h ⟨rfl,g⟩;replace a:=a.acc g;refine nA<|nk<|nI<|ny<|ng<|mZ (qB rfl rfl)<|nk<|uT rfl (rfl)<|ny<|ng<|nA<|nk<|nY<|qy<|ou [_] ⟨rfl,trivial⟩ ?_;exact⟨rfl,a⟩
section
variable {Y:VE}[nz Y]{g x q mc md lo:Nat}{rv cv:Value}{L:List Nat}{P:Pl}{w:World}
theorem CU(h:pu g x q mc md rv cv Y lo L P w)(hsz:P.G.size<=4000):CQ 74 [VA q] w (λv w'=>v=VB (P.n:Int)/\VD w w'):=by
 have i:=Below.refl w.heap.size w;have l:=λw' (m:pu g x q mc md rv cv Y lo L P w')=>countP m.lg.fst (P.G.size:Int) ⟨dB,dB⟩
 have a:=h.row;unfold uh at a;unfold Pl.n;refine nZ (rs:=[.tmp 2]) (n:=21) Tryz.func74 rfl rfl Tryz.ntmps74 dA rfl<|ny<|nA<|nk<|nI<|ny<|ng<|mZ (yU dA rfl rfl)<|ng<|SN 5 rfl (rfl)<|nE<|ng<|nE<|mZ (oo rfl)<|nE<|mZ (nG 0)<|nE<|mZ (nH a)<|nE<|mZ (yU dA rfl rfl)<|mZ (oP rfl)<|nk<|ui rfl (rfl)<|nU<|nJ<|nI<|qH [] dA ?_
 intro r j s;replace h:=h.new j;replace a:=a.new j;replace i:=i.acc j;have p:=h;have k:=a;refine nu 0 (nS)<|nu 1 (oo rfl)<|nu 2 (nG 0)<|nR 3 (λw' c=>nH (k.kq c))<|nu 4 (nS)<|nu 5 (oo rfl)<|nu 6 (nG 2)<|nR 7 (λw' c=>nH (k.kq c))<|zh 8 dA rfl (λ_=>oz dA rfl) (λw' c=>l w' (p.nD c (by first |(simp;done)|(simp;omega)|(simp[*];done)|exact pG (Or.inl dB)|exact pG (Or.inr ig)|exact λg f=>ag dB (wh f).1|(intro b o e;cases e;exact pG (Or.inl dB))|(intro b f;have:=(hu.lt b (ah.1 f)).1;omega)|(intro b o e;cases e;intro f;have:=(hu.lt _ (ah.1 f)).1;omega)|assumption)))<|nu 9 (rO)<|pq dA<|nJ<|nY<|ou [_] ⟨rfl,trivial⟩ ?_
 exact⟨rfl,i⟩
def yg(P:Pl)(n:Int):Int:=if P.dead then 10 else if 0<=n/\n<(P.n:Int)then 0 else 2
theorem NV(h:pu g x q mc md rv cv Y lo L P w)(hsz:P.G.size<=4000)(n:Int):CQ 93 [VA q,VB n] w (λv w'=>v=VB (yg P n)/\VD w w'):=by
 have a:=Below.refl w.heap.size w;have f:=λw' (j:pu g x q mc md rv cv Y lo L P w')=>CU j hsz
 have c:=h.row;obtain⟨i,k⟩:=aa (P.dead);obtain⟨N,l⟩:=aa (P.n);unfold uh at c;unfold yg;rw[k]at c |-;rw[l]at f |-;refine nZ (rs:=[.tmp 4]) (n:=29) Tryz.func93 rfl rfl Tryz.ntmps93 dA rfl<|ny<|nA<|nk<|nI<|pE<|ny<|ng<|mZ (yU dA rfl rfl)<|ng<|SN 8 rfl (rfl)<|nE<|ng<|nE<|mZ (oo rfl)<|nE<|mZ (nG 0)<|nE<|mZ (nH c)<|nE<|mZ (yU dA rfl rfl)<|mZ (oP rfl)<|nA<|nk<|ui rfl (rfl)<|ny<|ng<|mZ (oo rfl)<|mZ (nG 7)<|mZ (nH c)<|nA<|nk<|xy rfl (λe=>?_)<|λe=>?_
 ·
  refine lW ?_;subst e;exact⟨rfl,a⟩
 ·
  have m:i=false:=by cases i with|false=>rfl|true=>cases e
  subst m;refine ny<|ng<|mZ (pI rfl rfl)<|ng<|sZ 23 rfl (λo=>?_)<|λo=>?_
  ·
   refine nN<|nN<|nN<|nN<|mZ (pK rfl)<|nA<|nk<|vD rfl (rfl)<|ny<|nA<|nk<|nY<|sS<|qy<|ou [_] ⟨rfl,trivial⟩ ?_
   exact⟨by rw[if_neg ig,if_neg dB];rfl,a⟩
  ·
   refine nE<|ng<|nE<|ng<|nE<|nP (f w h) ?_
   rintro _ s ⟨rfl,p⟩;replace a:=a.acc p;refine nE<|mZ (tV rfl rfl)<|mZ (oP rfl)<|nA<|nk<|oZ rfl (λr=>?_)<|λr=>?_
   ·
    refine lW ?_;exact⟨by rw[if_neg ig,if_neg dB];rfl,a⟩
   ·
    refine lX ?_;exact⟨by rw[if_neg ig,if_pos dB];rfl,a⟩
theorem En(h:pu g x q mc md rv cv Y lo L P w)(e:Int):CQ 98 [VA q,VB e] w (λv w'=>v=VB e/\pu g x q mc md rv cv Y lo L {P with dead:=P.dead || decide (e=10)} w'/\nC lo L w w'):=by
 have c:=nC.refl lo L w;have a:=h.row;obtain⟨l,m⟩:=h.ql;obtain⟨D,G,fr,o,p,cl,g⟩:=P;unfold uh at a;dsimp only at a |-;refine nZ (rs:=[.tmp 4]) (n:=17) Tryz.func98 rfl rfl Tryz.ntmps98 dA rfl<|ny<|oG<|ng<|ng<|mZ (oo rfl)<|mZ (nG 7)<|mZ (nH a)<|ng<|Kg 10 rfl (λe=>?_)<|λe=>?_
 ·
  refine nN<|nN ?_
  subst e;refine mZ (pK rfl)<|mZ (oo rfl)<|mZ (nG 7)<|nT<|pQ a<|λq a i=>?_
  replace c:=c.oq i;have f:=h.setRow a i;refine mM ?_;exact⟨rfl,f,c⟩
 ·
  have k:g=false:=by cases g with|false=>rfl|true=>cases e
  subst k;refine nE<|ng<|nE<|mZ (qB rfl rfl)<|mZ (oP rfl)<|mZ (oo rfl)<|mZ (nG 7)<|nT<|pQ a<|λr a j=>?_
  replace c:=c.oq j;have f:=h.setRow a j;refine mM ?_;exact⟨rfl,f,c⟩
theorem IL(h:pu g x q mc md cv cv Y lo L P w)(hcv:cv=VC)(h0:P.cl.length=0)(n:Int):CQ 100 [VA q,VB n] w (λv w'=>v= .tuple #[]/\(∃ cv',pu g x q mc md cv' cv' Y lo L {P with cl:=without P.cl n} w')/\nC lo L w w'):=by
 have c:=nC.refl lo L w;have a:=h.row;obtain⟨p,q⟩:=h.ql;unfold uh at a;subst hcv;have j:P.cl=[]:=bH h0;have k:without P.cl n=P.cl:=by rw[j];rfl
 rw[k];refine nZ (rs:=[]) (n:=13) Tryz.func100 rfl rfl Tryz.ntmps100 dA rfl<|ny<|nK<|qi ([_]) rfl<|λr l m g e=>?_
 replace h:=h.nL e m g.lt;replace c:=c.new e;replace a:=a.new e;refine nk<|nO<|ng<|ng<|mZ (oo rfl)<|mZ (nG 6)<|mZ (nH a)<|mZ (uV)<|nP (IC _ n l g) ?_
 rintro _ s ⟨rfl,f⟩;replace h:=h.new f;replace c:=c.new f;replace a:=a.new f;refine mZ (oo rfl)<|mZ (nG 6)<|nT<|pQ a<|λt a i=>?_
 replace c:=c.oq i;have o:=h.setRow a i;refine mf ?_;exact⟨rfl,⟨_,o.weak (λb hb=>aj _ hb)⟩,c⟩
theorem FV{gc o c:Nat}(h:pu g x q mc md cv cv Y lo L P w)(hcv:cv= .slice (some ⟨gc,o,none⟩) P.cl.length c)(hR:sI P.cl)(n:Int):CQ 100 [VA q,VB n] w (λv w'=>v= .tuple #[]/\(∃ cv',pu g x q mc md cv' cv' Y lo L {P with cl:=without P.cl n} w')/\nC lo L w w'):=by
 have f:=nC.refl lo L w;have a:=h.row;obtain⟨u,y⟩:=h.ql;unfold uh at a;subst hcv;have z:gc<w.heap.size:=qU.lt h.own;have g:=h.cq gc (aK ..);have m:∀ b∈[gc],(lo<=b/\b∉L)\/w.heap.size<=b:=λb hb=>.inl (by rw[aJ.1 hb];exact⟨g.2.2.2.1,g.2.2.2.2⟩)
 have A:q≠gc:=bT g.1;refine nZ (rs:=[]) (n:=13) Tryz.func100 rfl rfl Tryz.ntmps100 dA rfl<|ny<|nK<|qi ([_]) rfl<|λB p r k i=>?_
 replace h:=h.nL i r k.lt;replace f:=f.new i;replace a:=a.new i;refine nk<|nO<|ng<|ng<|mZ (oo rfl)<|mZ (nG 6)<|mZ (nH a)<|mZ (uV)<|qA rfl (oz dA rfl) (Fy P.cl hR gc o P.cl.length c 0 rfl _ n p h.own k dB) ?_
 rintro _ C ⟨rfl,s,j⟩;replace h:=h.RG s j.k (λb e=>Or.inl e);replace f:=f.nD j.k m;replace a:=a.nD j.k lG;refine mZ (oo rfl)<|mZ (nG 6)<|nT<|pQ a<|λD a l=>?_
 replace f:=f.oq l;have t:=h.setRow a l;refine mf ?_;exact⟨rfl,⟨_,t.weak (λb hb=>aj _ hb)⟩,f⟩
theorem Yu(h:pu g x q mc md cv cv Y lo L P w)(hR:sI P.cl)(n:Int):CQ 100 [VA q,VB n] w (λv w'=>v= .tuple #[]/\(∃ cv',pu g x q mc md cv' cv' Y lo L {P with cl:=without P.cl n} w')/\nC lo L w w'):=by
 rcases h.own.2 with⟨a,e⟩|⟨gc,o,c,f,a,_⟩
 .exact IL h a e n
 .exact FV h a hR n
end
end Go.Proofs.YtpaniebomegnbaaGreat
namespace Coup
open Go Go.RowKit Go.Maps
open Go.WideElems (Fit rd rg pl rd_val elemAt)
section
variable {P:Program}{ρ:Env}{w:World}{d:Option Nat}{ty:TypeId}{pos:String}{af:Array Edge}{gd:Option (Nat × Bool)}{K:Value->World->Prop}
theorem zsi{t k e:TypeId}{x:Operand}{m N:Nat}{f:Nat->Option Value}(ht:P.underlying t=some (.map k e))(hm:MapAt P k w m N f)(hx:ev ρ x= .map (some m)):
  (execOp (ev ρ) ⟨d, .call ⟨.builtin .len,#[x],#[t]⟩,ty,pos,af,gd⟩).run P w= .ok (.value (.int .i64 ((qW f 0 N).length:Int))) w:=by
 obtain⟨a,i,hb,F,j,c⟩:=hm;have e:=Go.MapKept.run_getObj_map (P:=P) hb;have g:(qW f 0 N).length=a.size:=by
  have h:qW f 0 N=(a.toList.map (rg P k RH)).foldr DataW.insert []:=by injection c
  rw[h,length_read]
 rw[g];simp[execOp,resolve,invoke,builtin,Builtin.len_,hx,run_underlying ht,e,goInt,Result.andThen]
theorem Ky {t k e:TypeId} {x y:Operand} {m N:Nat} {f:Nat->Option Value} {a:Int} (z:Value) (o:Option Value) (ht:P.underlying t=some (.map k e)) (hk:P.underlying k=some (.int .i64)) (hz:∀ w,(zeroValue e).run P w= .ok z w)
  (hm:MapAt P k w m N f) (hx:ev ρ x= .map (some m)) (hy:ev ρ y= .int .i64 a) (i:Nat) (ha:a=(i:Int)) (hi:i<N) (hN:N<=1000000) (hf:f i=o):
  (execOp (ev ρ) ⟨d, .lookup t x y true,ty,pos,af,gd⟩).run P w= .ok (.value (.tuple #[o.getD z, .bool o.isSome])) w:=by
 subst ha;subst hf;obtain⟨s,t,hb,F,u,o⟩:=hm;have p:=keyOf_int_mk hk (Uc (i:=i) dB);have h:∀ e:DataW Value,DataW.atKey (.map (qW f 0 N)) (.int .i64 (i:Int)) e=((f i).map DataW.held).getD e:=λe=>by
  unfold DataW.atKey;simp only[Tk N 0 (aC _) (by omega:i<0+N)];cases f i<;>rfl
 rw[o]at h;rcases Maps.fit_look true (int_keyed hk) ht (hz w) hb F p with⟨l,_,j⟩|⟨k,y,_,_,l,q,j,_⟩
 .have m:f i=none:=by
   cases hfi:f i with
   |none=>rfl
   |some v=>
    have a:=(h (.held (.bool true))).symm.trans (j (.held (.bool true)));have c:=(h (.held (.bool false))).symm.trans (j (.held (.bool false)));rw[hfi]at a c;have g:DataW.held (H:=Value) (.bool true)= .held (.bool false):=a.symm.trans c
    injection g with g
    injection g with g
    cases g
  rw[m];simp[execOp,hx,hy,l,Result.andThen]
 .have m:f i=some k.val:=by
   have r:y=(.held k.val,[]):=by
    have a:some (DataW.held k.val,([]:List MemPlace))=some y:=q
    injection a with a
    exact a.symm
   have a:=λe=>(h e).symm.trans (j e)
   rw[r]at a;cases hfi:f i with
   |none=>
    rw[hfi]at a;have c:DataW.held (H:=Value) (.bool true)= .held (.bool false):=(a (.held (.bool true))).trans (a (.held (.bool false))).symm
    injection c with c
    injection c with c
    cases c
   |some v=>
    rw[hfi]at a;have c:DataW.held (H:=Value) v= .held k.val:=a (.held v)
    injection c with c
    rw[c]
  rw[m];simp[execOp,hx,hy,l,Result.andThen]
theorem zsj {t i0 i1 i2 i3 i4 i5:Nat} {x0 x1 x2 x3 x4 x5:Operand} (v0 v1 v2 v3 v4 v5:Value) (cs:List Value) (h0:ev ρ x0=v0) (h1:ev ρ x1=v1) (h2:ev ρ x2=v2) (h3:ev ρ x3=v3) (h4:ev ρ x4=v4) (h5:ev ρ x5=v5)
  (hb:P.built t [(i0,v0),(i1,v1),(i2,v2),(i3,v3),(i4,v4),(i5,v5)]=some cs.toArray):
  (execOp (ev ρ) ⟨d, .build t #[(i0,x0),(i1,x1),(i2,x2),(i3,x3),(i4,x4),(i5,x5)],ty,pos,af,gd⟩).run P w= .ok (.value (.agg cs.toArray)) w:=by
 have:=run_build (P:=P) w t #[(i0,v0),(i1,v1),(i2,v2),(i3,v3),(i4,v4),(i5,v5)] cs.toArray kR;simp only[execOp,gz,bi,dZ,h0,h1,h2,h3,h4,h5,Sem.run_bind,this,Result.andThen_ok]
 rfl
end
end Coup
namespace Go.Proofs.YtpaniebomegnbaaGreat
open Go Go.RowKit Coup
def Ec(c:tK)(n:Nat):List Int:=keysOf (rM c) 0 n
theorem zsk(n:Nat)(s:Int):4*vN n s<=n:=by
 unfold vN
 split<;>omega
def Px(w:World)(l:List Int)(v:Value)(w':World):Prop:=∃ p c,v= .slice p l.length c/\nM w' p l.length 1 (iv l)/\∀ b o,p=some ⟨b,o,none⟩->w.heap.size<=b
section
variable {Y:VE}[nz Y]{g x q mc md lo:Nat}{rv cv:Value}{L:List Nat}{P:Pl}{w:World}
omit [nz Y] in
theorem pu.Eh(h:pu g x q mc md rv cv Y lo L P w):P.n<=2048/\P.D.V.length<=8192:=by
 have a:=(zz h.lg.fst).1.n;have c:=zsk P.D.V.length P.G.size;unfold Pl.n;exact⟨dB,a⟩
theorem zuF(h:pu g x q mc md rv cv Y lo L P w):CQ 94 [VA q] w (λv w'=>Px w (Ec P.ch P.n) v w'/\VD w w'):=by
 have e:=Below.refl w.heap.size w;have j:=h.Eh.1;have a:=h.row;unfold uh at a;refine nZ (rs:=[.tmp 2]) (n:=10) Tryz.func94 rfl rfl Tryz.ntmps94 dA rfl<|ny<|nA<|nk<|nI<|ny<|ng<|mZ (yU dA rfl rfl)<|nk<|ui rfl (rfl)<|nU<|nJ<|ny<|ng<|mZ (oo rfl)<|mZ (nG 4)<|mZ (nH a)<|qA rfl (oz dA rfl) (IU w h.mch dB) ?_
 rintro _ k ⟨⟨p,c,rfl,g,i⟩,f⟩;replace h:=h.new f;replace a:=a.new f;replace e:=e.acc f;refine lZ ?_;exact⟨⟨p,c,rfl,g,i⟩,e⟩
theorem Nc(h:pu g x q mc md rv cv Y lo L P w):CQ 151 [VA q] w (λv w'=>Px w (Ec P.di P.n) v w'/\VD w w'):=by
 have e:=Below.refl w.heap.size w;have j:=h.Eh.1;have a:=h.row;unfold uh at a;refine nZ (rs:=[.tmp 2]) (n:=10) Tryz.func151 rfl rfl Tryz.ntmps151 dA rfl<|ny<|nA<|nk<|nI<|ny<|ng<|mZ (yU dA rfl rfl)<|nk<|ui rfl (rfl)<|nU<|nJ<|ny<|ng<|mZ (oo rfl)<|mZ (nG 5)<|mZ (nH a)<|qA rfl (oz dA rfl) (IU w h.mdi dB) ?_
 rintro _ k ⟨⟨p,c,rfl,g,i⟩,f⟩;replace h:=h.new f;replace a:=a.new f;replace e:=e.acc f;refine lZ ?_;exact⟨⟨p,c,rfl,g,i⟩,e⟩
omit [nz Y] in
theorem PO(h:pu g x q mc md rv cv Y lo L P w):CQ 101 [VA q] w (λv w'=>v= .bool P.dead/\w=w'):=by
 have a:=h.row;unfold uh at a;refine nZ (rs:=[.tmp 2]) (n:=11) Tryz.func101 rfl rfl Tryz.ntmps101 dA rfl<|ny<|oG<|ng<|mZ (zuf dA rfl rfl)<|ng<|Ng 5 rfl (rfl)<|nE<|ng<|nE<|mZ (oo rfl)<|nE<|mZ (nG 7)<|nE<|mZ (nH a)<|mZ (pK rfl)<|nA<|nk<|nY<|ou [_] ⟨rfl,trivial⟩ ?_
 exact⟨rfl,rfl⟩
omit [nz Y] in
theorem pu.Ya(h:pu g x q mc md rv cv Y lo L P w):∃ p c,cv= .slice p P.cl.length c/\nM w p P.cl.length 513 (qp P.cl):=by
 have a:=h.own;rcases h.own.2 with⟨rfl,e⟩|⟨gc,o,c,g,f,_⟩
 .rw[e]at a |-;exact⟨none,0,rfl,a.sl⟩
 .subst f;exact⟨_,c,rfl,a.sl⟩
end
def frameC(fr:Nat)(R:Rec)(n:Int)(X:Pg):Rec:=if fr<(without R n++([⟨n,X⟩]:Rec)).length then(without R n++([⟨n,X⟩]:Rec)).drop 1 else without R n++[⟨n,X⟩]
theorem XO{R:Rec}(h:sI R)(n:Int):sI (without R n):=λc a=>h c (dU.1 a).1
theorem XF(R:Rec)(n:Int):(without R n).length<=R.length:=gG _ _
theorem Zd{R:Rec}(h:sI R){n:Int}{X:Pg}(hX:X.length=512):sI (R++[⟨n,X⟩]):=λc a=>by
 rcases ay.1 a with a|a
 .exact h c a
 .rw[aJ.1 a];exact hX
theorem zsm{fr:Nat}{R:Rec}(h:sI R)(hl:R.length<=fr)(n:Int){X:Pg}(hX:X.length=512):sI (frameC fr R n X)/\(frameC fr R n X).length<=fr:=by
 have a:=Zd (XO h n) (n:=n) hX;have f:=XF R n;unfold frameC
 split
 .exact⟨λc e=>a c (eP e),by rw[aM,aA,dV];omega⟩
 .exact⟨a,dB⟩
section
variable {Y:VE}[nz Y]{g x q mc md lo:Nat}{rv cv:Value}{L:List Nat}{P:Pl}{w:World}
omit [nz Y] in
theorem pu.Uf(h:pu g x q mc md rv cv Y lo L P w)(h0:0<P.cl.length):∃ gc o c,cv= .slice (some ⟨gc,o,none⟩) P.cl.length c/\qU w 0 164 513 gc o P.cl.length c (qp P.cl):=by
 have a:=h.own;rcases h.own.2 with⟨_,f⟩|⟨gc,o,c,g,e,_⟩
 .omega
 .subst e;exact⟨gc,o,c,rfl,a⟩
theorem zuH(R:Rec)(hR:sI R)(g o c:Nat)(h2:2<=R.length)(w:World)(h:qU w 0 164 513 g o R.length c (qp R)):
 CQ 240 [.slice (some ⟨g,o,none⟩) R.length c,VB 0,VB 1] w (λv w'=>v= .slice (some ⟨g,o,none⟩) (R.drop 1).length c/\qU w' 0 164 513 g o (R.drop 1).length c (qp (R.drop 1))/\tC [g] w w'):=Gz R hR g o R.length c 0 rfl h2 w h
theorem BX(h:pu g x q mc md cv cv Y lo L P w)(hR:sI P.cl)(hl:P.cl.length<=P.fr)(hf2:2<=P.fr)(hfm:P.fr<=100)(n:Int)(X:Pg)(hX:X.length=512):
   CQ 199 [VA q,VB n, .agg (bv X).toArray] w (λv w'=>v= .tuple #[]/\(∃ cv',pu g x q mc md cv' cv' Y lo L {P with cl:=frameC P.fr P.cl n X} w')/\nC lo L w w'):=by
 have f:=nC.refl lo L w;have e2:maxLen=9223372036854775807:=by decide
 obtain⟨e3,e4⟩:=h.ql;have e5:(bv X).length=512:=by rw[oL];exact hX
 have a6:(rV ⟨n,X⟩).length=1*513:=BG hX;have a7:=EC ⟨n,X⟩;have a8:=XO hR n;have b9:=XF P.cl n;have a9:=λL' w' (c4:pu g x q mc md cv cv Y lo L' P w')=>Yu c4 hR n
 unfold frameC;obtain⟨T,c5⟩:=aa (without P.cl n);simp only[c5]at a9 a8 b9 |-;have c6:=Zd a8 (n:=n) hX;have s:(T++[(⟨n,X⟩:Ch)]).length=T.length+1:=by rw[aA,dV]
 have b0:0<(T++[(⟨n,X⟩:Ch)]).length:=by omega
 refine nZ (rs:=[]) (n:=39) Tryz.func199 rfl rfl Tryz.ntmps199 dA rfl<|ny<|nK<|qi (bv X) rfl<|λp c7 c8 r b1=>?_
 replace h:=h.nL b1 c8 r.lt;replace f:=f.new b1;refine qx<|ng<|ng<|nP (a9 _ c7 h) ?_
 rintro _ e6 ⟨rfl,⟨cv2,h⟩,b2⟩;replace f:=f.lq b2;replace r:=r.kl b2;refine nk<|wO (λ_:Unit=>[(0,VA q)]) (λ_ w'=>(∃ J,pu g x q mc md J J Y lo (p::L) {P with cl:=T++[⟨n,X⟩]} w')/\nC lo L w w') ?_ ?_
 ·
  have a:=h.row;have i:=h.own;unfold uh at a;dsimp only at a i;have e7:p∉cv2.ownBlock.toList:=λk=>(h.cq p k).2.2.2.2 (aK ..)
  have e8:p≠q:=λe=>h.ql.2 (e▸aK ..)
  refine qH ((q::cv2.ownBlock.toList)) dA ?_;intro e9 t K;replace h:=h.new t;replace f:=f.new t;replace r:=r.new t;replace a:=a.new t;replace i:=i.new t;have c9:=r;refine nu 0 (nS)<|nu 1 (nS)<|nu 2 (oo rfl)<|nu 3 (nG 6)<|nu 5 (nS)<|nR 6 (λw' u=>pz 512 (c9.kq u))<|nu 7 (Vk hX rfl rfl rfl)<|zw 4 8 dA ?_ ?_
  ·
   refine Bi rfl rfl (nH a) K<|oh 8 dA<|rf rfl rfl<|tT (e:=164) (.agg (rV ⟨n,X⟩).toArray) (rV ⟨n,X⟩) (([VB 0])++(List.replicate 512 (Value.int .u8 0))) 513 dA dA rfl rfl iw ⟨iT,iT⟩<|λM y O A j=>?_
   have b3:=K.add0 j;refine⟨b3,?_⟩;replace h:=h.nL j O A.lt;replace f:=f.new j;replace a:=a.new j;replace i:=i.new j;refine oh 9 dA ?_;have Q:=A.tY (m:=1) (sz:=513) a6 dB;refine rf rfl rfl<|tu (v:=cv2) (e:=164) (sz:=513) (bytes:=520) (z:=.agg (([VB 0])++(List.replicate 512 (Value.int .u8 0))).toArray) dA rfl dA rfl iT rfl i rfl Q a7 dB dB (λd0=>aC _)<|λB C D E F=>?_
   rw[<-Uk,<-s]at D;have l:y.grownBy C cv2.ownBlock:=E;have R:∀ g,B.ownBlock=some g->cv2.ownBlock=some g\/y.heap.size<=g:=F;clear E F;have S:=(Kp.rU l).weak (N:=q::cv2.ownBlock.toList) (λ_ _ k=>aj _ k);have U:=h.QF (Kp.rU l);have G:pu g x q mc md cv2 B Y lo (M::p::L) {P with cl:=T++[⟨n,X⟩]} C:=h.RG D (Kp.rU l) R;clear h;have h:=G;clear G;have V:=h.Uf b0;obtain⟨d1,on,d2,Z,d3⟩:=V;subst Z;replace f:=f.ll (U.weak (L2:=L) (ax _) (λb hb=>by simp[hb])) (λb hb=>hb);replace a:=h.row;unfold uh at a;have b4:=b3.trans S;refine⟨b4,?_⟩;refine nu 10 (oo rfl)<|nu 11 (nG 6)<|oh 12 dA<|rA rfl rfl<|pQ a<|λf0 a a0=>?_
   have d4:=b4.aq a0;refine⟨d4,?_⟩;replace f:=f.oq a0;have H:=h.setRow a a0;refine pq dA<|oM ⟨(),⟨rfl,rfl⟩,⟨_,H.weak (λb hb=>aj _ hb)⟩,f⟩
  ·
   refine rf rfl rfl<|tT (e:=164) (.agg (rV ⟨n,X⟩).toArray) (rV ⟨n,X⟩) (([VB 0])++(List.replicate 512 (Value.int .u8 0))) 513 dA dA rfl rfl iw ⟨iT,iT⟩<|λM y O A j=>?_
   have a1:=K.add0 j;refine⟨a1,?_⟩;replace h:=h.nL j O A.lt;replace f:=f.new j;replace a:=a.new j;replace i:=i.new j;refine oh 4 dA<|Bi rfl rfl (nH a) a1<|oh 9 dA ?_
   have Q:=A.tY (m:=1) (sz:=513) a6 dB;refine rf rfl rfl<|tu (v:=cv2) (e:=164) (sz:=513) (bytes:=520) (z:=.agg (([VB 0])++(List.replicate 512 (Value.int .u8 0))).toArray) dA rfl dA rfl iT rfl i rfl Q a7 dB dB (λd0=>aC _)<|λB C D E F=>?_
   rw[<-Uk,<-s]at D;have l:y.grownBy C cv2.ownBlock:=E;have R:∀ g,B.ownBlock=some g->cv2.ownBlock=some g\/y.heap.size<=g:=F;clear E F;have S:=(Kp.rU l).weak (N:=q::cv2.ownBlock.toList) (λ_ _ k=>aj _ k);have U:=h.QF (Kp.rU l);have G:pu g x q mc md cv2 B Y lo (M::p::L) {P with cl:=T++[⟨n,X⟩]} C:=h.RG D (Kp.rU l) R;clear h;have h:=G;clear G;have V:=h.Uf b0;obtain⟨d1,on,d2,Z,d3⟩:=V;subst Z;replace f:=f.ll (U.weak (L2:=L) (ax _) (λb hb=>by simp[hb])) (λb hb=>hb);replace a:=h.row;unfold uh at a;have b5:=a1.trans S;refine⟨b5,?_⟩;refine nu 10 (oo rfl)<|nu 11 (nG 6)<|oh 12 dA<|rA rfl rfl<|pQ a<|λf1 a a2=>?_
   have d5:=b5.aq a2;refine⟨d5,?_⟩;replace f:=f.oq a2;have H:=h.setRow a a2;refine pq dA<|oM ⟨(),⟨rfl,rfl⟩,⟨_,H.weak (λb hb=>aj _ hb)⟩,f⟩
 ·
  clear h f;rintro _ f2 w2 ⟨⟨J,h⟩,f⟩;have a:=h.row;unfold uh at a;dsimp only at a;have d6:=h.Uf (by dsimp only;omega);obtain⟨gc,o,c,d7,i⟩:=d6;subst d7;dsimp only at i;have a3:=h.cq gc (aK ..);have d8:∀ b∈[gc],(lo<=b/\b∉L)\/w.heap.size<=b:=λb hb=>.inl (by rw[aJ.1 hb];exact⟨a3.2.2.2.1,λk=>a3.2.2.2.2 (aj _ k)⟩)
  have f3:q≠gc:=bT a3.1;refine nI<|qH [] dA ?_
  intro b6 a4 f4;replace h:=h.new a4;replace f:=f.new a4;replace a:=a.new a4;have b7:=a;refine nu 0 (nS)<|nu 1 (oo rfl)<|nu 2 (nG 6)<|nR 3 (λw' u=>nH (b7.kq u))<|nu 4 (oV (e:=164) (sz:=513) dA rfl rfl)<|nu 5 (nS)<|nu 6 (oo rfl)<|nu 7 (nG 3)<|nR 8 (λw' u=>nH (b7.kq u))<|nu 9 (rz rfl rfl)<|pq dA<|nJ<|oZ rfl (λI=>?_)<|λI=>?_
  ·
   have d9:2<=(T++[(⟨n,X⟩:Ch)]).length:=by rw[s];dsimp only at I;omega
   have e0:P.fr<(T++[(⟨n,X⟩:Ch)]).length:=by rw[s];dsimp only at I;omega
   rw[if_pos e0];refine nO<|ng<|ng<|mZ (oo rfl)<|mZ (nG 6)<|mZ (nH a) ?_
   have e1:qU b6 0 164 513 gc o (T++[(⟨n,X⟩:Ch)]).length c (qp (T++[⟨n,X⟩])):=h.own;refine nP (zuH _ c6 gc o c d9 b6 e1) ?_;rintro _ f5 ⟨rfl,i,a5⟩;replace h:=h.RG i a5.k (λb e=>Or.inl e);replace f:=f.nD a5.k d8;replace a:=a.nD a5.k lG;refine mZ (oo rfl)<|mZ (nG 6)<|nT<|pQ a<|λf6 a b8=>?_
   replace f:=f.oq b8;have H:=h.setRow a b8;refine mf ?_;exact⟨rfl,⟨_,H.weak (λb hb=>aj _ hb)⟩,f⟩
  ·
   rw[if_neg (by rw[s];dsimp only at I;omega)];refine nU<|zS [] trivial ?_
   exact⟨rfl,⟨_,h.weak (λb hb=>aj _ hb)⟩,f⟩
end
def vW(D:Dk)(a:Nat):Pg:=((List.range 4).map λi=>qa D (a+i)).flatten
theorem F_{D:Dk}{a:Nat}(h:yX D)(hn:a+4<=D.V.length):(vW D a).length=512/\∀ i,i<4->((vW D a).drop (128*i)).take 128=qa D (a+i):=by
 have c:zo ((List.range 4).map λi=>qa D (a+i)):=λs c=>by
  obtain⟨i,e,rfl⟩:=bg.1 c;exact Sa h (by have:=bZ.1 e;omega)
 refine⟨by rw[vW,Sw c];simp,λi e=>?_⟩;have:=ZH c (i:=i) (s:=qa D (a+i)) (by rw[aV,eH e];rfl);rw[eF 128 i];exact this
def wQ(P:Pl)(n:Nat):Pg:=match P.di n with
 |some b=>b
 |none=>match P.cl[sN P.cl n]? with
  |some c=>c.page
  |none=>vW P.D (1+P.G.size+n*4)
def wH(P:Pl)(n:Nat):Pl:=match P.di n with
 |some _=>P
 |none=>{P with cl:=frameC P.fr P.cl n (wQ P n)}
theorem Rj{P:Pl}(hok:xP P){n:Nat}(hn:n<P.n):1+P.G.size+n*4+4<=P.D.V.length/\4<=P.G.size/\P.G.size<=4000:=by
 unfold Pl.n vN at hn
 split at hn
 .omega
 .rw[aW]at hn;omega
theorem zpx{P:Pl}(hok:xP P)(hD:yX P.D){n:Nat}(hn:n<P.n):(wQ P n).length=512:=by
 unfold wQ
 split
 .exact hok.di _ _ ‹_›
 .split
  .exact hok.cl _<|aO ‹_›
  .exact(F_ hD (Rj hok hn).1).1
theorem Pq{w:World}{g o n:Nat}{R:Rec}(h:nM w (some ⟨g,o,none⟩) n 513 (qp R))(hR:sI R){i:Nat}{c:Ch}(hc:R[i]?=some c):Ld Tryz.prog w 121 ⟨g,o+i*513+1,none⟩ (.agg (bv c.page).toArray):=by
 have l:=(aL.1 hc).1;have m:=Ao hR;have a:=Ld.zu (P:=Tryz.prog) (t:=121) (j:=i*513+1) (k:=512) h dA dA dB;have g:=n_ hR hc;have hp:=hR c (aO hc);have e:((qp R).drop (i*513+1)).take 512=bv c.page:=by
  have f:(((qp R).drop (i*513)).take 513).drop 1=bv c.page:=by rw[g];rfl
  rw[fw,dR]at f;exact f
 rw[e]at a;exact a
def zP:List Value:=List.replicate 512 (.int .u8 0)
theorem Kn(w:World):(zeroValue 121).run Tryz.prog w= .ok (.agg zP.toArray) w:=by kernel_rfl
def yY(X:Pg)(i:Nat):Pg:=X.take (128*i)++List.replicate (512 - 128*i) 0
theorem HZ(X:Pg):bv (yY X 0)=zP:=by
 rw[yY,Nat.mul_zero,dz,aU,bv,fP]
 rfl
theorem Fh{X:Pg}(h:X.length=512):yY X 4=X:=by
 rw[yY,aQ dB,show 512 - 128*4=0 from rfl,List.replicate_zero,aR]
theorem zsn{X:Pg}(h:X.length=512){i:Nat}(hi:i<=4):(yY X i).length=512:=by
 rw[yY,aA,aI,bz];omega
theorem zqH{X S:Pg}(h:X.length=512){i:Nat}(hi:i<4)(hS:(X.drop (128*i)).take 128=S):splice (bv (yY X i)) (128*i) (bv S)=bv (yY X (i+1)):=by
 have a:(X.take (128*i)).length=128*i:=by rw[aI];omega
 have c:S.length=128:=by rw[<-hS,aI,aM];omega
 have e:splice (bv (yY X i)) (128*i) (bv S)=bv ((yY X i).take (128*i)++S++(yY X i).drop (128*i+128)):=by
  simp only[splice,bv,bJ,fA,fB,aP,c,aH]
 have f:(X.take (128*i)++List.replicate (512 - 128*i) (0:UInt8)).drop (128*i+128)=List.replicate (512 - (128*i+128)) 0:=by
  rw[fC,a,cK (by rw[a];omega),aU,iW,show 512 - 128*i - (128*i+128 - 128*i)=512 - (128*i+128) by omega]
 rw[e,yY,bN a,f,yY,show 128*(i+1)=128*i+128 by omega,List.take_add,hS]
section
variable {Y:VE}[nz Y]{g x q mc md lo:Nat}{rv cv:Value}{L:List Nat}{P:Pl}{w:World}
theorem zqI(h:pu g x q mc md cv cv Y lo L P w)(hok:xP P)(n:Nat)(hn:n<P.n){b:Pg}(hb:P.di n=some b):
  CQ 136 [VA q,VB (n:Int)] w (λv w'=>v= .tuple #[.agg (bv b).toArray,VB 0]/\(∃ cv',pu g x q mc md cv' cv' Y lo L P w')/\nC lo L w w'):=by
 have f:=nC.refl lo L w;have Y:=h.Eh.1;have Z:(bv b).length=512:=by rw[oL];exact hok.di n b hb
 have J:rM P.di n=some (.agg (bv b).toArray):=by unfold rM;rw[hb];rfl
 have a:=h.row;unfold uh at a;have c:=h.mdi;have a0:zP.length=512:=bz;have a1:∀ v∈zP,Value.oneCell' v=true:=λv K=>by rw[(eB.1 K).2];rfl
 refine nZ (rs:=[.cell 4 121, .tmp 5]) (n:=80) Tryz.func136 rfl rfl Tryz.ntmps136 dA rfl<|ny<|nK<|qi ([_]) rfl<|λA a2 F i B=>?_
 have a3:=f.size;have a4:q<A:=ae a.lt F;have a5:md<A:=ae c.lt F;replace h:=h.nL B F i.lt;replace f:=f.new B;replace a:=a.new B;replace c:=c.new B;refine nK<|oD (List.replicate 512 (Value.int .u8 0)) dA<|λC a6 D j u=>?_
 have M:q<C:=ae a.lt D;have N:md<C:=ae c.lt D;have O:A<C:=ae i.lt D;replace h:=h.nL u D j.lt;replace f:=f.new u;replace a:=a.new u;replace c:=c.new u;replace i:=i.new u;refine nA<|nk<|nI<|nI<|qH [] dA ?_
 intro a7 p G;replace h:=h.new p;replace f:=f.new p;replace a:=a.new p;replace c:=c.new p;replace i:=i.new p;replace j:=j.new p;have a8:=h;have a9:=f;have Q:=a;have R:=c;have S:=i;have b0:=j;refine nu 0 (nS)<|nu 1 (oo rfl)<|nu 2 (nG 5)<|nR 3 (λw' y=>nH (Q.kq y))<|nR 4 (λw' y=>nH (S.kq y))<|nR 5 (λw' y=>Ky (k:=3) (e:=121) (.agg zP.toArray) (some (.agg (bv b).toArray)) dA dA Kn (R.nD y (by first |(simp;done)|(simp;omega)|(simp[*];done)|exact pG (Or.inl dB)|exact pG (Or.inr ig)|exact λg z=>ag dB (wh z).1|(intro b o e;cases e;exact pG (Or.inl dB))|(intro b z;have:=(hu.lt b (ah.1 z)).1;omega)|(intro b o e;cases e;intro z;have:=(hu.lt _ (ah.1 z)).1;omega)|assumption)) rfl rfl n rfl hn dB J)<|nu 6 (nS)<|nu 7 (nW rfl rfl)<|nu 8 (nW rfl rfl)<|oh 9 dA<|rf rfl rfl<|oD (List.replicate 512 (Value.int .u8 0)) dA<|λE b1 r s l=>?_
 have H:=G.add0 l;refine⟨H,?_⟩;have b2:=ag G.size r;have T:q<E:=ae a.lt r;have U:md<E:=ae c.lt r;have V:A<E:=ae i.lt r;have I:C<E:=ae j.lt r;replace h:=h.nL l r s.lt;replace f:=f.new l;replace a:=a.new l;replace c:=c.new l;replace i:=i.new l;replace j:=j.new l;refine oh 10 dA<|rA rfl rfl<|oC 512 (bv b) s<|λb3 s m=>?_
 have X:=H.aq m;refine⟨X,?_⟩;replace h:=h.only m eG;replace f:=f.oq m;replace a:=a.only m (ai T);replace c:=c.only m (ai U);replace i:=i.only m (ai V);replace j:=j.only m (ai I);refine nu 11 (rO)<|pq dA<|nJ<|ny<|ng<|nk<|vD rfl (rfl)<|ny<|mZ (pz 512 s)<|nT<|oC 512 (bv b) j<|λb4 j t=>?_
 replace h:=h.only t eG;replace f:=f.oq t;replace a:=a.only t (ai M);replace c:=c.only t (ai N);replace i:=i.only t (ai O);replace s:=s.only t (bu I);refine nA<|nk<|nY<|qy<|ou [_,_] ⟨⟨_,rfl,Ld.qI (k:=512) j dA dA gp⟩,rfl,trivial⟩ ?_
 exact⟨rfl,⟨_,h.weak (λb hb=>by simp[hb])⟩,f⟩
theorem zqJ(h:pu g x q mc md cv cv Y lo L P w)(hok:xP P)(n:Nat)(hn:n<P.n)(hb:P.di n=none){c:Ch}(hc:P.cl[sN P.cl n]?=some c):
  CQ 136 [VA q,VB (n:Int)] w (λv w'=>v= .tuple #[.agg (bv c.page).toArray,VB 0]/\(∃ cv',pu g x q mc md cv' cv' Y lo L {P with cl:=frameC P.fr P.cl n c.page} w')/\nC lo L w w'):=by
 have a:=nC.refl lo L w;have a6:=h.Eh.1;have Q:=(aL.1 hc).1;have F:=hok.cl c (aO hc);have a7:(bv c.page).length=512:=by rw[oL];exact F
 have R:rM P.di n=none:=by unfold rM;rw[hb];rfl
 have j:=h.row;unfold uh at j;have l:=h.mdi;have a8:zP.length=512:=bz;have a9:∀ v∈zP,Value.oneCell' v=true:=λv S=>by rw[(eB.1 S).2];rfl
 have G:=λp H w' (h:nM w' p P.cl.length 513 (qp P.cl)) b (hb:row w' b [VB (n:Int)] 3)=>El P.cl hok.cl p H P.cl.length rfl b n w' h hb
 simp only[if_pos Q]at G;obtain⟨gc,b0,H,T,b1⟩:=h.Uf dB;subst T;refine nZ (rs:=[.cell 4 121, .tmp 5]) (n:=80) Tryz.func136 rfl rfl Tryz.ntmps136 dA rfl<|ny<|nK<|qi ([_]) rfl<|λI b2 U i A=>?_
 replace h:=h.nL A U i.lt;replace a:=a.new A;replace j:=j.new A;replace l:=l.new A;refine nK<|oD (List.replicate 512 (Value.int .u8 0)) dA<|λJ b3 K f t=>?_
 have V:I<J:=ae i.lt K;replace h:=h.nL t K f.lt;replace a:=a.new t;replace j:=j.new t;replace l:=l.new t;replace i:=i.new t;refine nA<|nk<|nI<|nI<|qH [] dA ?_
 intro b4 m X;replace h:=h.new m;replace a:=a.new m;replace j:=j.new m;replace l:=l.new m;replace i:=i.new m;replace f:=f.new m;have Y:=j;have Z:=l;have a0:=i;refine nu 0 (nS)<|nu 1 (oo rfl)<|nu 2 (nG 5)<|nR 3 (λw' u=>nH (Y.kq u))<|nR 4 (λw' u=>nH (a0.kq u))<|nR 5 (λw' u=>Ky (k:=3) (e:=121) (.agg zP.toArray) none dA dA Kn (Z.nD u (by first |(simp;done)|(simp;omega)|(simp[*];done)|exact pG (Or.inl dB)|exact pG (Or.inr ig)|exact λg y=>ag dB (wh y).1|(intro b o e;cases e;exact pG (Or.inl dB))|(intro b y;have:=(hu.lt b (ah.1 y)).1;omega)|(intro b o e;cases e;intro y;have:=(hu.lt _ (ah.1 y)).1;omega)|assumption)) rfl rfl n rfl hn dB R)<|nu 6 (nS)<|nu 7 (nW rfl rfl)<|nu 8 (nW rfl rfl)<|oh 9 dA<|rf rfl rfl<|oD (List.replicate 512 (Value.int .u8 0)) dA<|λC b5 B D r=>?_
 have M:=X.add0 r;refine⟨M,?_⟩;have a1:q<C:=ae j.lt B;have a2:I<C:=ae i.lt B;have a3:J<C:=ae f.lt B;replace h:=h.nL r B D.lt;replace a:=a.new r;replace j:=j.new r;replace i:=i.new r;replace f:=f.new r;refine oh 10 dA<|rA rfl rfl<|oC 512 (zP) D<|λa4 D s=>?_
 have a5:=M.aq s;refine⟨a5,?_⟩;replace h:=h.only s eG;replace a:=a.oq s;replace j:=j.only s (ai a1);replace i:=i.only s (ai a2);replace f:=f.only s (ai a3);refine nu 11 (rO)<|pq dA<|nJ<|ny<|ng<|nk<|ui rfl (rfl)<|nU<|nJ<|nI<|ny<|ng<|mZ (oo rfl)<|mZ (nG 6)<|mZ (nH j)<|mZ (uV)<|nP (G _ _ a4 h.own.sl _ i) ?_
 rintro _ b6 ⟨rfl,z⟩;replace h:=h.new z;replace a:=a.new z;replace j:=j.new z;replace i:=i.new z;replace f:=f.new z;refine oG<|ng<|mZ (tV rfl rfl)<|nk<|uT rfl (dB)<|ny<|ng<|mZ (oo rfl)<|mZ (nG 6)<|mZ (nH j)<|ng<|mZ (qZ (e:=164) (sz:=513) dA rfl rfl (sN P.cl n) dB dB)<|mZ (nG 1)<|mZ (oK rfl (Pq h.own.sl hok.cl hc))<|nT<|oC 512 (bv c.page) f<|λb7 f E=>?_
 replace h:=h.only E eG;replace a:=a.oq E;replace i:=i.only E (ai V);refine qx<|ng<|mZ (nH i)<|mZ (pz 512 f)<|nP (BX h hok.cl hok.cll hok.fr2 hok.frm n c.page F) ?_
 rintro _ b8 ⟨rfl,⟨cv2,h⟩,N⟩;replace a:=a.lq N;replace f:=f.kl N;refine qx<|mZ (pz 512 f)<|nT<|oC 512 (bv c.page) f<|λb9 f O=>?_
 replace h:=h.only O eG;replace a:=a.oq O;refine nA<|nk<|nY<|qy<|ou [_,_] ⟨⟨_,rfl,Ld.qI (k:=512) f dA dA gp⟩,rfl,trivial⟩ ?_
 exact⟨rfl,⟨_,h.weak (λb hb=>by simp[hb])⟩,a⟩
theorem zqK(h:pu g x q mc md cv cv Y lo L P w)(hok:xP P)(n:Nat)(hn:n<P.n)(hb:P.di n=none)(hc:P.cl[sN P.cl n]?=none):
   CQ 136 [VA q,VB (n:Int)] w (λv w'=>v= .tuple #[.agg (bv (vW P.D (1+P.G.size+n*4))).toArray,VB 0]/\(∃ cv',pu g x q mc md cv' cv' Y lo L {P with cl:=frameC P.fr P.cl n (vW P.D (1+P.G.size+n*4))} w')/\nC lo L w w'):=by
 have r:=nC.refl lo L w;have g4:=h.Eh;have g5:maxLen=9223372036854775807:=by decide
 have g6:=List.getElem?_eq_none_iff.1 hc;have d1:rM P.di n=none:=by unfold rM;rw[hb];rfl
 have s:=h.row;unfold uh at s;have t:=h.mdi;have g7:zP.length=512:=bz;have g8:∀ v∈zP,Value.oneCell' v=true:=λv a3=>by rw[(eB.1 a3).2];rfl
 have b3:=λp H w' (h:nM w' p P.cl.length 513 (qp P.cl)) b (hb:row w' b [VB (n:Int)] 3)=>El P.cl hok.cl p H P.cl.length rfl b n w' h hb
 simp only[if_neg (show¬sN P.cl n<P.cl.length by omega)]at b3;obtain⟨b4,g9,d2⟩:=Rj hok hn;have b5:=λw'=>Dl P.G.size n w' d2 dB
 obtain⟨a,d3⟩:=aa (1+P.G.size+n*4);rw[d3]at b5 b4 |-;have d4:=(zz h.lg.fst).1;obtain⟨I,b6⟩:=F_ d4 b4;have d5:=fun(i:Nat) (d6:i<4) L' w' (d7:pu g x q mc md cv cv Y lo L' P w')=>DY d7.lg.fst ((a:Int)+(i:Int))
 obtain⟨V,H,d8,h0⟩:=h.Ya;subst d8;obtain⟨X,hX⟩:=aa (vW P.D a);rw[hX]at I b6 |-;have h1:(bv X).length=512:=by rw[oL];exact I
 refine nZ (rs:=[.cell 4 121, .tmp 5]) (n:=80) Tryz.func136 rfl rfl Tryz.ntmps136 dA rfl<|ny<|nK<|qi ([_]) rfl<|λA h2 a4 l Z=>?_
 have h3:=r.size;have h4:q<A:=ae s.lt a4;have h5:md<A:=ae t.lt a4;replace h:=h.nL Z a4 l.lt;replace r:=r.new Z;replace s:=s.new Z;replace t:=t.new Z;refine nK<|oD (List.replicate 512 (Value.int .u8 0)) dA<|λy h6 a0 c N=>?_
 have h7:q<y:=ae s.lt a0;have h8:md<y:=ae t.lt a0;have d9:A<y:=ae l.lt a0;replace h:=h.nL N a0 c.lt;replace r:=r.new N;replace s:=s.new N;replace t:=t.new N;replace l:=l.new N;refine nA<|nk<|nI<|nI<|qH [] dA ?_
 intro h9 J b7;replace h:=h.new J;replace r:=r.new J;replace s:=s.new J;replace t:=t.new J;replace l:=l.new J;replace c:=c.new J;have e0:=s;have e1:=t;have e2:=l;refine nu 0 (nS)<|nu 1 (oo rfl)<|nu 2 (nG 5)<|nR 3 (λw' C=>nH (e0.kq C))<|nR 4 (λw' C=>nH (e2.kq C))<|nR 5 (λw' C=>Ky (k:=3) (e:=121) (.agg zP.toArray) none dA dA Kn (e1.nD C (by first |(simp;done)|(simp;omega)|(simp[*];done)|exact pG (Or.inl dB)|exact pG (Or.inr ig)|exact λg O=>ag dB (wh O).1|(intro b o e;cases e;exact pG (Or.inl dB))|(intro b O;have:=(hu.lt b (ah.1 O)).1;omega)|(intro b o e;cases e;intro O;have:=(hu.lt _ (ah.1 O)).1;omega)|assumption)) rfl rfl n rfl hn dB d1)<|nu 6 (nS)<|nu 7 (nW rfl rfl)<|nu 8 (nW rfl rfl)<|oh 9 dA<|rf rfl rfl<|oD (List.replicate 512 (Value.int .u8 0)) dA<|λa1 i0 K a5 F=>?_
 have b8:=b7.add0 F;refine⟨b8,?_⟩;have i1:=ag b7.size K;have e3:q<a1:=ae s.lt K;have e4:md<a1:=ae t.lt K;have e5:A<a1:=ae l.lt K;have e6:y<a1:=ae c.lt K;replace h:=h.nL F K a5.lt;replace r:=r.new F;replace s:=s.new F;replace t:=t.new F;replace l:=l.new F;replace c:=c.new F;refine oh 10 dA<|rA rfl rfl<|oC 512 (zP) a5<|λe7 a5 G=>?_
 have e8:=b8.aq G;refine⟨e8,?_⟩;replace h:=h.only G eG;replace r:=r.oq G;replace s:=s.only G (ai e3);replace t:=t.only G (ai e4);replace l:=l.only G (ai e5);replace c:=c.only G (ai e6);refine nu 11 (rO)<|pq dA<|nJ<|ny<|ng<|nk<|ui rfl (rfl)<|nU<|nJ<|nI<|ny<|ng<|mZ (oo rfl)<|mZ (nG 6)<|mZ (nH s)<|mZ (uV)<|nP (b3 _ _ e7 h.own.sl _ l) ?_
 rintro _ e9 ⟨rfl,M⟩;replace h:=h.new M;replace r:=r.new M;replace s:=s.new M;replace t:=t.new M;replace l:=l.new M;replace c:=c.new M;refine oG<|ng<|mZ (tV rfl rfl)<|nk<|qg rfl (dB)<|nU<|nJ<|nI<|ny<|ng<|nk<|pE ?_;have b9:row e9 y (bv (yY X 0)) 121:=by rw[HZ];exact c
 refine qY (α:=Nat) 0 (λi=>[(44,VB (i:Nat)),(0,VA q),(3,VA A),(4,VA y)])
   (λi w'=>i<=4/\row w' y (bv (yY X i)) 121/\row w' A [VB (n:Int)] 3/\pu g x q mc md (.slice V P.cl.length H) (.slice V P.cl.length H) Y lo (y::A::L) P w'/\nC lo L w w') (λi=>4 - i)
   VF ⟨aC _,b9,l,h.weak (λb hb=>by simp at hb;simp[hb]),r⟩ ?_
 clear h r s t l c b9;rintro i f i2 ⟨d6,c,l,h,r⟩;have s:=h.row;unfold uh at s;refine ny<|mZ (pI rfl rfl)<|nk<|nI<|oZ rfl (λf0=>?_)<|λf0=>?_
 ·
  refine lN ?_;obtain⟨S,a6⟩:=aa ((X.drop (128*i)).take 128);have f1:xC P.D ((a:Int)+(i:Int))=true:=decide_eq_true dB;have a7:=d5 i dB;rw[f1,if_pos rfl,if_pos rfl,show((a:Int)+(i:Int)).toNat=a+i by omega,<-b6 i dB,a6]at a7;have f2:S.length=128:=by rw[<-a6,aI,aM];omega
  have a8:(bv S).length=128:=by rw[oL];exact f2
  have f3:=zqH I dB a6;have f4:=zsn I (i:=i) dB;have i3:(bv (yY X i)).length=512:=by rw[oL];exact f4
  have i4:=l.lt;have i5:=c.lt;refine nO<|ng<|nA<|nk<|wO (λu:Nat=>[(44,VB (i:Nat)),(9,VB (i:Nat)),(10,VA u),(11,VB 0),(0,VA q),(3,VA A),(4,VA y)]) (λu w'=>row w' u (bv S) 265/\row w' y (bv (yY X i)) 121/\row w' A [VB (n:Int)] 3/\pu g x q mc md (.slice V P.cl.length H) (.slice V P.cl.length H) Y lo (u::y::A::L) P w'/\nC lo L w w'/\y<u/\A<u) ?_ ?_
  ·
   refine qH [] dA ?_;intro f5 Q a9;replace h:=h.new Q;replace r:=r.new Q;replace s:=s.new Q;replace l:=l.new Q;replace c:=c.new Q;have c4:=s;have f6:=l;refine nu 0 (nS)<|nu 1 (oo rfl)<|nu 2 (nG 0)<|nR 3 (λw' C=>nH (c4.kq C))<|nu 4 (nS)<|nu 5 (oo rfl)<|nu 6 (nG 2)<|nR 7 (λw' C=>nH (c4.kq C))<|nR 8 (λw' C=>nH (f6.kq C))<|zh 9 dA rfl (λ_=>oz dA rfl) (λw' C=>b5 w')<|nu 10 (nS)<|nu 11 (oJ rfl rfl (Coup.nV dB))<|zw 12 16 dA ?_ ?_
   ·
    refine qw rfl rfl (oz dA rfl) (a7 _ f5 h) ?_;rintro _ f7 ⟨rfl,B⟩;have b0:=a9.add0 B;refine⟨b0,?_⟩;replace h:=h.new B;replace r:=r.new B;replace s:=s.new B;replace l:=l.new B;replace c:=c.new B;refine nu 13 (nS)<|nu 14 (nW rfl rfl)<|nu 15 (nW rfl rfl)<|oh 16 dA<|rf rfl rfl<|oD (List.replicate 128 (Value.int .u8 0)) dA<|λu c5 D z E=>?_
    have c6:=b0.add0 E;refine⟨c6,?_⟩;have i6:=ag b0.size D;have f8:q<u:=ae s.lt D;have b1:A<u:=ae l.lt D;have b2:y<u:=ae c.lt D;replace h:=h.nL E D z.lt;replace r:=r.new E;replace l:=l.new E;replace c:=c.new E;refine oh 17 dA<|rA rfl rfl<|oC 128 (bv S) z<|λi7 z R=>?_
    have f9:=c6.aq R;refine⟨f9,?_⟩;replace h:=h.only R eG;replace r:=r.oq R;replace l:=l.only R (ai b1);replace c:=c.only R (ai b2);refine nu 18 (rO)<|pq dA<|oM ⟨u,VF,z,c,l,h,r,dB,dB⟩
   ·
    refine rf rfl rfl<|oD (List.replicate 128 (Value.int .u8 0)) dA<|λu c5 D z E=>?_
    have c7:=a9.add0 E;refine⟨c7,?_⟩;have i8:=ag a9.size D;have f8:q<u:=ae s.lt D;have b1:A<u:=ae l.lt D;have b2:y<u:=ae c.lt D;replace h:=h.nL E D z.lt;replace r:=r.new E;replace l:=l.new E;replace c:=c.new E;refine oh 12 dA<|qw rfl rfl (oz dA rfl) (a7 _ c5 h) ?_
    rintro _ f7 ⟨rfl,B⟩;have c8:=c7.add0 B;refine⟨c8,?_⟩;replace h:=h.new B;replace r:=r.new B;replace l:=l.new B;replace c:=c.new B;replace z:=z.new B;refine nu 13 (nS)<|nu 14 (nW rfl rfl)<|nu 15 (nW rfl rfl)<|oh 17 dA<|rA rfl rfl<|oC 128 (bv S) z<|λi9 z T=>?_
    have g0:=c8.aq T;refine⟨g0,?_⟩;replace h:=h.only T eG;replace r:=r.oq T;replace l:=l.only T (ai b1);replace c:=c.only T (ai b2);refine nu 18 (rO)<|pq dA<|oM ⟨u,VF,z,c,l,h,r,dB,dB⟩
  ·
   clear h r l c;rintro u j0 w2 ⟨z,c,l,h,r,j1,j2⟩;refine nI<|ny<|ng<|mZ (pJ rfl rfl)<|nk<|qg rfl (ig)<|nU<|nJ<|qH [y] dA ?_
   intro j3 U g1;replace h:=h.new U;replace r:=r.new U;replace l:=l.new U;replace c:=c.new U;replace z:=z.new U;refine nu 0 (nS)<|nu 1 (yR rfl rfl (Coup.nV dB))<|nu 2 (yw (e:=5) (n:=512) (128*i) (512) (512) (512 - 128*i) dA rfl ⟨_,_,rfl,dB⟩ rfl rfl ig dB dB dB dB dB)<|nu 3 (yw (e:=5) (n:=128) (0) (128) (128) (128) dA rfl rfl rfl rfl ig dB dB dB dB dB)<|oh 4 dA<|rf rfl rfl<|Rt (e:=5) dA dA rfl rfl y ((0+128*i)) c (bv S) (by rw[a8];exact(bS dB).symm) (λ_=>⟨rfl,_,rfl,λj v a3=>by rw[Addr.add_lit];exact(z.tY (m:=128) (sz:=1) a8 dB).cell j a3⟩) (by rw[a8];omega) (uf _)<|λj4 c a2=>?_
   have g2:=g1.aq a2;refine⟨g2,?_⟩;replace h:=h.only a2 eG;replace r:=r.oq a2;replace l:=l.only a2 (ai d9);refine pq dA<|pO<|nJ<|nO<|mZ (oJ rfl rfl (Coup.nV dB))<|ng<|oI ?_
   rw[aZ,f3]at c;refine oM ⟨i+1,dB,⟨by go_num,rfl,rfl,rfl,rfl⟩,dB,c,l,h.weak (λb hb=>aj _ hb),r⟩
 ·
  have g3:i=4:=by omega
  subst g3;rw[Fh I]at c;refine qL<|qK<|rq<|qO<|nJ<|ny<|ng<|mZ (nH l)<|mZ (pz 512 c)<|nP (BX h hok.cl hok.cll hok.fr2 hok.frm n X I) ?_
  rintro _ j5 ⟨rfl,⟨cv2,h⟩,c9⟩;replace r:=r.lq c9;replace c:=c.kl c9;refine qx<|mZ (pz 512 c)<|nT<|oC 512 (bv X) c<|λj6 c d0=>?_
  replace h:=h.only d0 eG;replace r:=r.oq d0;refine lU ?_;exact⟨rfl,⟨_,h.weak (λb hb=>by simp[hb])⟩,r⟩
theorem zkJ(h:pu g x q mc md cv cv Y lo L P w)(hok:xP P)(n:Nat)(hn:n<P.n):
  CQ 136 [VA q,VB (n:Int)] w (λv w'=>v= .tuple #[.agg (bv (wQ P n)).toArray,VB 0]/\(∃ cv',pu g x q mc md cv' cv' Y lo L (wH P n) w')/\nC lo L w w'):=by
 cases hb:P.di n with
 |some b=>
  have a:wQ P n=b:=by unfold wQ;rw[hb]
  have e:wH P n=P:=by unfold wH;rw[hb]
  rw[a,e];exact zqI h hok n hn hb
 |none=>
  have e:wH P n={P with cl:=frameC P.fr P.cl n (wQ P n)}:=by unfold wH;rw[hb]
  cases hc:P.cl[sN P.cl n]? with
  |some c=>
   have a:wQ P n=c.page:=by unfold wQ;rw[hb,hc]
   rw[e,a];exact zqJ h hok n hn hb hc
  |none=>
   have a:wQ P n=vW P.D (1+P.G.size+n*4):=by unfold wQ;rw[hb,hc]
   rw[e,a];exact zqK h hok n hn hb hc
end
theorem WF(P:Pl)(n:Nat):(wH P n).D=P.D/\(wH P n).G=P.G/\(wH P n).fr=P.fr/\(wH P n).ch=P.ch/\(wH P n).di=P.di/\(wH P n).dead=P.dead/\(wH P n).n=P.n:=by
 unfold wH
 split<;>exact VF
def yJ(P:Pl)(n:Nat):Pg:=match P.ch n with
 |some b=>b
 |none=>wQ P n
def EZ(P:Pl)(n:Nat):Pl:=match P.ch n with
 |some _=>P
 |none=>wH P n
def Hl(P:Pl)(n:Nat)(X:Pg):Pl:={wH P n with ch:=uW P.ch n (if X=wQ P n then none else some X)}
theorem zuJ(c:tK)(i:Nat)(a b:Option Pg):uW (uW c i a) i b=uW c i b:=by
 funext j
 unfold uW
 split<;>rfl
section
variable {Y:VE}[nz Y]{g x q mc md lo:Nat}{rv cv:Value}{L:List Nat}{P:Pl}{w:World}
theorem Qn(h:pu g x q mc md rv cv Y lo L P w)(hsz:P.G.size<=4000)(n:Int)(hne:yg P n≠0):CQ 118 [VA q,VB n] w (λv w'=>v= .tuple #[.agg zP.toArray,VB (yg P n)]/\VD w w'):=by
 have a:=Below.refl w.heap.size w;have f:=λw' (j:pu g x q mc md rv cv Y lo L P w')=>NV j hsz n
 have y:zP.length=512:=bz;have z:∀ v∈zP,Value.oneCell' v=true:=λv l=>by rw[(eB.1 l).2];rfl
 obtain⟨e,m⟩:=aa (yg P n);rw[m]at f hne |-;have o:=λw' (hb:VD w w')=>h.new hb
 refine nZ (rs:=[.cell 4 121, .tmp 5]) (n:=32) Tryz.func118 rfl rfl Tryz.ntmps118 dA rfl<|ny<|nK<|oD (List.replicate 512 (Value.int .u8 0)) dA<|λA p r c s=>?_
 have t:=ag a.size r;replace a:=a.acc s;refine nA<|nk<|nI<|ny<|ng<|ng<|nP (f p (o _ a)) ?_
 rintro _ B ⟨rfl,i⟩;replace c:=c.new i;replace a:=a.acc i;refine oG<|ng<|mZ (pJ rfl rfl)<|nk<|uT rfl (hne)<|ny<|mZ (BF (List.replicate 512 (Value.int .u8 0)) dA)<|ng<|nT<|oC 512 (zP) c<|λC c u=>?_
 replace a:=u.below a t;refine lT ?_;exact⟨rfl,a⟩
theorem LM(h:pu g x q mc md cv cv Y lo L P w)(hok:xP P)(hde:P.dead=false)(n:Nat)(hn:n<P.n):CQ 118 [VA q,VB (n:Int)] w (λv w'=>v= .tuple #[.agg (bv (yJ P n)).toArray,VB 0]/\(∃ cv',pu g x q mc md cv' cv' Y lo L (EZ P n) w')/\nC lo L w w'):=by
 have c:=nC.refl lo L w;have Z:=h.Eh.1;have M:=(zz h.lg.fst).1;have N:yg P n=0:=by unfold yg;rw[hde,if_neg ig,if_pos dB]
 have C:=λL' w' (D:pu g x q mc md cv cv Y lo L' P w')=>NV D hok.lg.szm n
 rw[N]at C;have G:=zpx hok M hn;have H:=λL' w' (D:pu g x q mc md cv cv Y lo L' P w')=>zkJ D hok n hn
 obtain⟨I,hX⟩:=aa (wQ P n);rw[hX]at G;simp only[hX]at H;have a0:(bv I).length=512:=by rw[oL];exact G
 have a1:zP.length=512:=bz;have a2:∀ v∈zP,Value.oneCell' v=true:=λv O=>by rw[(eB.1 O).2];rfl
 obtain⟨o,A⟩:=aa (rM P.ch n);have f:=h.row;unfold uh at f;have i:=h.mch;unfold yJ EZ;cases hch:P.ch n with
 |some b=>
 have a3:(bv b).length=512:=by rw[oL];exact hok.ch n b hch
 have E:o=some (.agg (bv b).toArray):=by rw[<-A];unfold rM;rw[hch];rfl
 subst E;dsimp only;refine nZ (rs:=[.cell 4 121, .tmp 5]) (n:=32) Tryz.func118 rfl rfl Tryz.ntmps118 dA rfl<|ny<|nK<|oD (List.replicate 512 (Value.int .u8 0)) dA<|λu F y a m=>?_
 have Q:q<u:=ae f.lt y;have R:mc<u:=ae i.lt y;replace h:=h.nL m y a.lt;replace c:=c.new m;replace f:=f.new m;replace i:=i.new m;refine nA<|nk<|nI<|ny<|ng<|ng<|nP (C _ F h) ?_
 rintro _ S ⟨rfl,j⟩;replace h:=h.new j;replace c:=c.new j;replace f:=f.new j;replace i:=i.new j;replace a:=a.new j;refine oG<|ng<|mZ (pJ rfl rfl)<|nk<|qg rfl (ig)<|nU<|nJ<|nI<|ny<|ng<|mZ (oo rfl)<|mZ (nG 4)<|mZ (nH f)<|ng<|mZ (Ky (k:=3) (e:=121) (.agg zP.toArray) (some (.agg (bv b).toArray)) dA dA Kn i rfl rfl n rfl hn dB A)<|ng<|mZ (nW rfl rfl)<|mZ (nW rfl rfl)<|nK<|oD (List.replicate 512 (Value.int .u8 0)) dA<|λz T t l p=>?_
 have U:q<z:=ae f.lt t;have V:mc<z:=ae i.lt t;have B:u<z:=ae a.lt t;replace h:=h.nL p t l.lt;replace c:=c.new p;replace f:=f.new p;replace i:=i.new p;replace a:=a.new p;refine nT<|oC 512 (bv b) l<|λJ l r=>?_
 replace h:=h.only r eG;replace c:=c.oq r;replace f:=f.only r (ai U);replace i:=i.only r (ai V);replace a:=a.only r (ai B);refine oG<|ng<|nk<|vD rfl (rfl)<|ny<|mZ (pz 512 l)<|nT<|oC 512 (bv b) a<|λX a s=>?_
 replace h:=h.only s eG;replace c:=c.oq s;replace f:=f.only s (ai Q);replace i:=i.only s (ai R);replace l:=l.only s (bu B);refine nA<|nk<|nY<|qy<|ou [_,_] ⟨⟨_,rfl,Ld.qI (k:=512) a dA dA gp⟩,rfl,trivial⟩ ?_
 exact⟨rfl,⟨_,h.weak (λb hb=>by simp[hb])⟩,c⟩
 |none=>
 have E:o=none:=by rw[<-A];unfold rM;rw[hch];rfl
 subst E;dsimp only;rw[hX];refine nZ (rs:=[.cell 4 121, .tmp 5]) (n:=32) Tryz.func118 rfl rfl Tryz.ntmps118 dA rfl<|ny<|nK<|oD (List.replicate 512 (Value.int .u8 0)) dA<|λu F y a m=>?_
 replace h:=h.nL m y a.lt;replace c:=c.new m;replace f:=f.new m;replace i:=i.new m;refine nA<|nk<|nI<|ny<|ng<|ng<|nP (C _ F h) ?_
 rintro _ S ⟨rfl,j⟩;replace h:=h.new j;replace c:=c.new j;replace f:=f.new j;replace i:=i.new j;replace a:=a.new j;refine oG<|ng<|mZ (pJ rfl rfl)<|nk<|qg rfl (ig)<|nU<|nJ<|nI<|ny<|ng<|mZ (oo rfl)<|mZ (nG 4)<|mZ (nH f)<|ng<|mZ (Ky (k:=3) (e:=121) (.agg zP.toArray) none dA dA Kn i rfl rfl n rfl hn dB A)<|ng<|mZ (nW rfl rfl)<|mZ (nW rfl rfl)<|nK<|oD (List.replicate 512 (Value.int .u8 0)) dA<|λz T t l p=>?_
 have B:u<z:=ae a.lt t;replace h:=h.nL p t l.lt;replace c:=c.new p;replace a:=a.new p;refine nT<|oC 512 (zP) l<|λJ l r=>?_
 replace h:=h.only r eG;replace c:=c.oq r;replace a:=a.only r (ai B);refine oG<|ng<|nk<|ui rfl (rfl)<|nU<|nJ<|ny<|ng<|ng<|nP (H _ J h) ?_
 rintro _ a4 ⟨rfl,⟨cv2,h⟩,K⟩;replace c:=c.lq K;replace a:=a.kl K;refine mZ (nW rfl rfl)<|mZ (nW rfl rfl)<|nT<|oC 512 (bv I) a<|λX a s=>?_
 replace h:=h.only s eG;replace c:=c.oq s;refine nA<|nk<|nY<|ou [_,_] ⟨⟨_,rfl,Ld.qI (k:=512) a dA dA gp⟩,rfl,trivial⟩ ?_
 exact⟨rfl,⟨_,h.weak (λb hb=>by simp[hb])⟩,c⟩
theorem QZ(h:pu g x q mc md rv cv Y lo L P w)(hsz:P.G.size<=4000)(n:Int)(X:Pg)(hne:yg P n≠0):CQ 71 [VA q,VB n, .agg (bv X).toArray] w (λv w'=>v=VB (yg P n)/\VD w w'):=by
 have a:=Below.refl w.heap.size w;have c:=λw' (f:pu g x q mc md rv cv Y lo L P w')=>NV f hsz n
 obtain⟨e,i⟩:=aa (yg P n);rw[i]at c hne |-;have j:=λw' (hb:VD w w')=>h.new hb
 refine nZ (rs:=[.tmp 6]) (n:=39) Tryz.func71 rfl rfl Tryz.ntmps71 dA rfl<|ny<|nK<|qi (bv X) rfl<|λo k p r l=>?_
 replace a:=a.acc l;refine nA<|nk<|nI<|ny<|ng<|ng<|nP (c k (j _ a)) ?_
 rintro _ s ⟨rfl,m⟩;replace a:=a.acc m;refine oG<|ng<|mZ (pJ rfl rfl)<|nk<|uT rfl (hne)<|ny<|ng<|nA<|nk<|nY<|qy<|ou [_] ⟨rfl,trivial⟩ ?_;exact⟨rfl,a⟩
theorem MX(h:pu g x q mc md cv cv Y lo L P w)(hok:xP P)(hde:P.dead=false)(n:Nat)(hn:n<P.n)(X:Pg)(hX:X.length=512):CQ 71 [VA q,VB (n:Int), .agg (bv X).toArray] w (λv w'=>v=VB 0/\(∃ cv',pu g x q mc md cv' cv' Y lo L (Hl P n X) w')/\nC lo L w w'):=by
 have c:=nC.refl lo L w;have S:=h.Eh.1;have T:=(zz h.lg.fst).1;have U:yg P n=0:=by unfold yg;rw[hde,if_neg ig,if_pos dB]
 have H:=λL' w' (t:pu g x q mc md cv cv Y lo L' P w')=>NV t hok.lg.szm n
 rw[U]at H;have u:=zpx hok T hn;have y:=λL' w' (t:pu g x q mc md cv cv Y lo L' P w')=>zkJ t hok n hn
 obtain⟨s,z⟩:=aa (wQ P n);rw[z]at u;simp only[z]at y;obtain⟨V,Z,a0,I,a1,a2,J⟩:=WF P n;unfold Hl;rw[z];obtain⟨P2,K⟩:=aa (wH P n);rw[K]at V Z a0 I a1 a2 J |-;simp only[K]at y;rw[<-I];rw[<-J]at hn S;have b3:(bv s).length=512:=by rw[oL];exact u
 have b4:(bv X).length=512:=by rw[oL];exact hX
 obtain⟨b5,b6⟩:=h.mcl;have b7:=h.qm;refine nZ (rs:=[.tmp 6]) (n:=39) Tryz.func71 rfl rfl Tryz.ntmps71 dA rfl<|ny<|nK<|qi (bv X) rfl<|λM a3 a4 f N=>?_
 replace h:=h.nL N a4 f.lt;replace c:=c.new N;refine nA<|nk<|nI<|ny<|ng<|ng<|nP (H _ a3 h) ?_
 rintro _ a5 ⟨rfl,A⟩;replace h:=h.new A;replace c:=c.new A;replace f:=f.new A;refine oG<|ng<|mZ (pJ rfl rfl)<|nk<|qg rfl (ig)<|nU<|nJ<|ny<|ng<|ng<|nP (y _ a5 h) ?_;rintro _ b8 ⟨rfl,⟨cv2,h⟩,O⟩;replace c:=c.lq O;replace f:=f.kl O;refine ng<|mZ (nW rfl rfl)<|mZ (nW rfl rfl)<|nK<|oD (List.replicate 512 (Value.int .u8 0)) dA<|λQ b9 R m B=>?_
 have a6:M<Q:=ae f.lt R;replace h:=h.nL B R m.lt;replace c:=c.new B;replace f:=f.new B;refine nT<|oC 512 (bv s) m<|λc4 m C=>?_
 replace h:=h.only C eG;replace c:=c.oq C;replace f:=f.only C (ai a6);refine nA<|nk<|nI<|ny<|ng<|mZ (pJ rfl rfl)<|nk<|qg rfl (ig)<|nU<|nJ<|nI ?_
 have l:=h.row;unfold uh at l;refine nO<|ng<|mZ (oo rfl)<|mZ (nG 4)<|mZ (nH l)<|ng ?_
 have a:=h.mch;have c5:M≠mc:=λe=>h.mcl.2 kz
 have c6:Q≠mc:=λe=>h.mcl.2 kz
 refine nK<|S_ (k:=3) (e:=121) dA dA a rfl rfl n ky dB dB<|λa7 a p=>?_
 replace c:=c.oq p;replace f:=f.only p dB;replace m:=m.only p dB;replace l:=l.only p dB;rw[zsf]at a;replace h:=h.Qt a p;refine nk<|nI<|ny<|mZ (pz 512 f)<|mZ (pz 512 m)<|mZ (WQ (n:=512) dA rfl rfl hX u)<|nk<|SC rfl (λD=>?_)<|λD=>?_
 ·
  have a:MapAt Tryz.prog 3 a7 mc P2.n (rM (uW P2.ch n none)):=h.mch;have E:=h;refine qH [mc] dA ?_;intro c7 r a8;replace c:=c.new r;replace f:=f.new r;replace l:=l.new r;replace a:=a.new r;replace E:=E.new r;have a9:=f;have b0:=l;have j:=a;refine nu 0 (nS)<|nu 1 (oo rfl)<|nu 2 (nG 4)<|nR 3 (λw' i=>oK rfl (Ld.ru (b0.nD i jZ) dA rfl))<|nu 4 (nS)<|nR 5 (λw' i=>oK rfl (Ld.qI (k:=512) (a9.nD i jZ) dA dA gp))<|oh 6 dA<|rA rfl rfl<|Kt (k:=3) (e:=121) (.agg (bv X).toArray) dA dA a rfl rfl rfl (n) ky dB dB<|λc8 a F=>?_
  have b1:=a8.aq F;refine⟨b1,?_⟩;replace c:=c.oq F;rw[RI,zuJ]at a;have b2:=E.Qt a F;refine mo ?_;have G:¬X=s:=D;rw[if_neg G];exact⟨rfl,⟨_,b2.weak (λb hb=>by simp[hb])⟩,c⟩
 ·
  have G:X=s:=D;rw[if_pos G];refine nU<|nJ<|ny<|nA<|nk<|nY<|ou [_] ⟨rfl,trivial⟩ ?_
  exact⟨rfl,⟨_,h.weak (λb hb=>by simp[hb])⟩,c⟩
end
def uo(c:tK):Nat->Nat->List (Nat × Pg)
 |_,0=>[]
 |a,m+1=>match c a with
  |some b=>(a,b)::uo c (a+1) m
  |none=>uo c (a+1) m
theorem XB(c:tK):∀ (m a:Nat),keysOf (rM c) a m=(uo c a m).map λp=>(p.1:Int)
 |0,a=>rfl
 |m+1,a=>by
  have e:=XB c m (a+1);rw[keysOf,uo,e];unfold rM;cases c a<;>rfl
theorem Hu{c:tK}:∀ {m a:Nat} {p:Nat × Pg},p∈uo c a m->c p.1=some p.2/\a<=p.1/\p.1<a+m
 |0,a,p,c=>nomatch c
 |m+1,a,p,c=>by
  rw[uo]at c
  split at c
  .rcases ak.1 c with rfl|c
   .exact⟨‹_›,ax _,dB⟩
   .have:=Hu c;exact⟨this.1,dB,dB⟩
  .have:=Hu c;exact⟨this.1,dB,dB⟩
theorem Xo(c:tK):∀ (m a:Nat),(uo c a m).length<=m
 |0,a=>ax _
 |m+1,a=>by
  have:=Xo c m (a+1);rw[uo]
  split
  .rw[aD];omega
  .omega
def tH(s:Nat):Dk->List (Nat × Pg)->Dk × Bool
 |D,[]=>(D,true)
 |D,p::l=>if(qQ D (1+s+p.1*4) (ry p.2 4)).2 then tH s (qQ D (1+s+p.1*4) (ry p.2 4)).1 l else((qQ D (1+s+p.1*4) (ry p.2 4)).1,false)
theorem Xm(s:Nat):∀ (l m:List (Nat × Pg)) (D:Dk),tH s D (l++m)=if(tH s D l).2 then tH s (tH s D l).1 m else tH s D l
 |[],m,D=>rfl
 |p::l,m,D=>by
  rw[bL,tH,tH]
  by_cases a:(qQ D (1+s+p.1*4) (ry p.2 4)).2=true
  .rw[if_pos a,if_pos a];exact Xm s l m _
  .rw[if_neg a,if_neg a];rfl
theorem Uq(s:Nat):∀ (l:List (Nat × Pg)) (D:Dk),(tH s D l).1.V.length=D.V.length
 |[],D=>rfl
 |p::l,D=>by
  rw[tH]
  split
  .rw[Uq s l,Bp]
  .exact Bp _ _ _
theorem Yf(s:Nat):∀ (l:List (Nat × Pg)) (D:Dk) (k:Nat),tJ D k->tJ (tH s D l).1 (k+4*l.length)
 |[],D,k,h=>h
 |p::l,D,k,h=>by
  have a:=TD (ry p.2 4) D (1+s+p.1*4) k h;rw[Hm]at a;rw[tH,aD]
  split
  .exact yD (Yf s l _ _ a) dB
  .exact yD a dB
def yc(D:Dk)(G:Lg):Int × Dk × Lg:=
 if G.dead then(10,D,G)else if G.count=4611686018427387904 then(8,D,G)
 else if xI D (G.count+1) (G.count+1)then(0,uz D (G.count+1) (G.count+1),Ql G)else(10,uz D (G.count+1) (G.count+1),{G with dead:=true})
theorem Ud(D:Dk)(c s:Nat):(uz D c s).V.length=D.V.length:=by
 unfold uz
 split
 .rw[Gh,Xu]
 .exact Xu _ _ _
theorem Xg(D:Dk)(G:Lg):(yc D G).2.1.V.length=D.V.length/\(yc D G).2.2.size=G.size:=by
 unfold yc
 split
 .exact⟨rfl,rfl⟩
 .split
  .exact⟨rfl,rfl⟩
  .split<;>exact⟨Ud _ _ _,rfl⟩
def vP(P:Pl):Dk × Bool:=tH P.G.size P.D (uo P.di 0 P.n)
def sM(P:Pl):Int × Pl:=
 if(vP P).2 then
  if qM (vP P).1 then
   ((yc (sP (vP P).1) P.G).1,{P with D:=(yc (sP (vP P).1) P.G).2.1,G:=(yc (sP (vP P).1) P.G).2.2,di:=if(yc (sP (vP P).1) P.G).1=0 then xJ else P.di})
  else(10,{P with D:=sP (vP P).1})
 else(10,{P with D:=(vP P).1})
section
variable {Y:VE}[nz Y]{g x q mc md lo:Nat}{rv cv:Value}{L:List Nat}{P:Pl}{w w':World}
omit [nz Y] in
theorem pu.JS{D:Dk}(h:pu g x q mc md rv cv Y lo L P w)(h2:Two (DZ g D) Y lo (x::(cv.ownBlock.toList++q::mc::md::L)) w')(k:nC lo (x::(cv.ownBlock.toList++q::mc::md::L)) w w')(hD:D.V.length=P.D.V.length):
  pu g x q mc md rv cv Y lo L {P with D:=D} w'/\nC lo (q::md::L) w w':=by
 have k2:nC lo (cv.ownBlock.toList++q::mc::md::L) w w':=k.weak (ax _) λb hb=>aj _ hb
 exact⟨h.DU ⟨h2,h.lg.rowx.nD k.kp (pG (.inr (aK ..))),h.lg.ge,h.lg.ni⟩ k2 rfl hD,k.weak (ax _) λb hb=>by
  simp only[ak]at hb;rcases hb with hb|hb|hb<;>simp[hb]⟩
theorem FB(h:pu g x q mc md rv cv Y lo L P w)(n:Nat)(X:Pg)(hX:X.length=512)(hs:P.G.size<=4000)(hn:1+P.G.size+n*4+4<=P.D.V.length)(hsh:tJ P.D 80000):
  CQ 125 [VA g,VB (P.G.size:Int),VB (n:Int), .agg (bv X).toArray] w (λv w'=>v=VB (if(qQ P.D (1+P.G.size+n*4) (ry X 4)).2 then 0 else 10)/\pu g x q mc md rv cv Y lo L {P with D:=(qQ P.D (1+P.G.size+n*4) (ry X 4)).1} w'/\nC lo (q::md::L) w w'):=
 (CJ h.lg.two P.G.size n X hX hs hn hsh).to λv w' ⟨e,a,k⟩=>⟨e,h.JS a k (Bp _ _ _)⟩
theorem Ga(h:pu g x q mc md rv cv Y lo L P w):
  CQ 152 [VA g] w (λv w'=>v=VB (if qM P.D then 0 else 10)/\pu g x q mc md rv cv Y lo L {P with D:=sP P.D} w'/\nC lo (q::md::L) w w'):=
 (Ui h.lg.two).to λv w' ⟨e,a,k⟩=>⟨e,h.JS a k Gh⟩
theorem HV(h:pu g x q mc md rv cv Y lo L P w)(hc:P.G.count<=4611686018427387904)(hsh:tJ P.D 90000):
  CQ 153 [VA x] w (λv w'=>v=VB (yc P.D P.G).1/\pu g x q mc md rv cv Y lo L {P with D:=(yc P.D P.G).2.1,G:=(yc P.D P.G).2.2} w'/\nC lo L w w'):=by
 refine(FX h.lg hc hsh).to λv w' ⟨e,m,k,o⟩=>?_
 have hr:e=(yc P.D P.G).1/\rX g x Y lo (cv.ownBlock.toList++q::mc::md::L) (yc P.D P.G).2.1 (yc P.D P.G).2.2 w':=by
  unfold yc;rcases o with⟨a,f,c⟩|⟨a,f,c,i⟩|⟨a,f,c,i,j⟩|⟨a,f,c,i,j⟩
  .rw[if_pos a];exact⟨f,c⟩
  .rw[if_neg (by rw[a];simp),if_pos f];exact⟨c,i⟩
  .rw[if_neg (by rw[a];simp),if_neg dB,if_neg (by rw[c];simp)];exact⟨i,j⟩
  .rw[if_neg (by rw[a];simp),if_neg dB,if_pos c];exact⟨i,j⟩
 have l:=Xg P.D P.G;exact⟨by rw[m,hr.1],h.DU hr.2 k l.2 l.1,h.Jv k⟩
theorem pu.sl{p:Option Addr}{m sz:Nat}{cs:List Value}(h:pu g x q mc md rv cv Y lo L P w)(hb:VD w w')(hs:nM w' p m sz cs)(hsz:0<sz)(hf:∀ b o,p=some ⟨b,o,none⟩->w.heap.size<=b):
  ∃ L2,(∀ b∈L,b∈L2)/\(0<m->∀ b o,p=some ⟨b,o,none⟩->b∈L2)/\pu g x q mc md rv cv Y lo L2 P w':=by
 by_cases a:0<m
 .obtain⟨c,op,rfl,f⟩:=hs.some (eT a hsz)
  exact⟨c::L,λb hb=>aj _ hb,λ_ b o e=>by cases e;exact aK ..,h.nL hb (hf c op rfl) f⟩
 .exact⟨L,λb hb=>hb,λg=>absurd g a,h.new hb⟩
theorem Zt(h:pu g x q mc md cv cv Y lo L P w)(hok:xP P)(hsh:tJ P.D 70000):
   CQ 97 [VA q] w (λv w'=>v=VB (sM P).1/\pu g x q mc md cv cv Y lo L (sM P).2 w'/\nC lo L w w'):=by
 have f0:=h.Eh.1;have f1:maxLen=9223372036854775807:=by decide
 have a9:=hok.lg.szm;have b0:=λn (b1:n<P.n)=>(Rj hok b1).1
 have K:Ec P.di P.n=(uo P.di 0 P.n).map λp=>(p.1:Int):=XB P.di P.n 0
 have b2:=hok.lg.cm;have V:=Nc h;have Z:=fun(p:Nat × Pg) (hp:p∈uo P.di 0 P.n)=>Hu hp
 have b3:=Xo P.di P.n 0;obtain⟨R,r⟩:=aa (sM P);rw[r];unfold sM vP at r;obtain⟨l,a0⟩:=aa (uo P.di 0 P.n);rw[a0]at K Z b3;simp only[a0]at r;have b4:(Ec P.di P.n).length=l.length:=by rw[K,aP]
 obtain⟨G,b5⟩:=aa (Ec P.di P.n);rw[b5]at K V b4;have b6:=Yf P.G.size l P.D 70000 hsh;have B:=Below.refl w.heap.size w;refine nZ (rs:=[.tmp 2]) (n:=55) Tryz.func97 rfl rfl Tryz.ntmps97 dA rfl<|ny<|nA<|nk<|nI<|ny<|ng<|nP (V) ?_;rintro _ a1 ⟨⟨p,c,rfl,s,b7⟩,b8⟩;replace B:=B.acc b8;refine mh ?_;have b9:=h.sl B s dB b7;obtain⟨L2,A,c4,a⟩:=b9;have m:=nC.refl lo L2 a1;have f2:=a.UD;refine qY (α:=Nat) 0 (λi=>[(11,VB (i:Nat)),(10,VB (G.length:Int)),(9, .slice p G.length c),(0,VA q)])
   (λi w'=>i<=l.length/\(tH P.G.size P.D (l.take i)).2=true/\pu g x q mc md cv cv Y lo L2 {P with D:=(tH P.G.size P.D (l.take i)).1} w'/\nM w' p G.length 1 (iv G)/\nC lo L2 a1 w') (λi=>l.length - i)
   VF ⟨aC _,rfl,a,s,m⟩ ?_
 clear a s m;rintro i f c5 ⟨f3,M,a,s,m⟩;have N:=Uq P.G.size (l.take i) P.D;have a2:=Yf P.G.size (l.take i) P.D 70000 hsh;rw[aI]at a2;refine ny<|mZ (pI rfl rfl)<|nk<|nI<|oZ rfl (λc6=>?_)<|λc6=>?_
 ·
  refine lN ?_;have c7:∃ c8,l[i]?=some c8:=⟨_,aG dB⟩;obtain⟨⟨n,X⟩,O⟩:=c7;have c9:G[i]?=some (n:Int):=by rw[K,aV,O];rfl
  have Q:=Z _ (aO O);dsimp only at Q;have d0:=hok.di n X Q.1;have d1:n<P.n:=by omega
  have f4:=b0 n d1;have d2:=s.some dB;obtain⟨a3,op,d3,f5⟩:=d2;subst d3;have f6:a3∈L2:=c4 dB a3 op rfl;have d4:l.take (i+1)=l.take i++[(n,X)]:=by rw[bf,O];rfl
  have H:=Xm P.G.size (l.take i) [(n,X)] P.D;rw[<-d4,if_pos M]at H;have d5:(rM P.di n).getD (.agg zP.toArray)= .agg (bv X).toArray:=by unfold rM;rw[Q.1];rfl
  have j:=a.row;unfold uh at j;have C:MapAt Tryz.prog 3 c5 md P.n (rM P.di):=by
    have E:=a.mdi;unfold Pl.n at E |-;dsimp only at E;rw[N]at E;exact E
  refine nO<|mZ (uX (e:=3) dA rfl rfl i dB dB)<|mZ (oK rfl (Ld.sl1 s dA (YX c9)))<|nA<|nk<|nI<|vX lo ((q::md::L2)) dA ?_
  intro f7 I d6 d7;replace a:=a.new I;replace m:=m.new I;replace s:=s.new I;replace j:=j.new I;replace C:=C.new I;have S:=j;have d8:=C;refine nu 0 (nS)<|nu 1 (oo rfl)<|nu 2 (nG 0)<|nR 3 (λw' F=>nH (S.kL F))<|nu 4 (nS)<|nu 5 (oo rfl)<|nu 6 (nG 2)<|nR 7 (λw' F=>nH (S.kL F))<|nu 8 (nS)<|nu 9 (nS)<|nu 10 (oo rfl)<|nu 11 (nG 5)<|nR 12 (λw' F=>nH (S.kL F))<|nu 13 (nS)<|nR 14 (λw' F=>NJ (k:=3) (e:=121) ((.agg zP.toArray)) dA dA kG (d8.nD F (by first |(simp;done)|(simp;omega)|(simp[*];done)|exact pG (Or.inl dB)|exact pG (Or.inr ig)|exact λg J=>ag dB (wh J).1|(intro b o e;cases e;exact pG (Or.inl dB))|(intro b J;have:=(hu.lt b (ah.1 J)).1;omega)|(intro b o e;cases e;intro J;have:=(hu.lt _ (ah.1 J)).1;omega)|assumption)) rfl rfl (n) ky dB dB d5)<|oh 15 dA ?_
  have a4:=FB a n X d0 a9 (by dsimp only;omega) (yD a2 dB);dsimp only at a4;refine qw rfl rfl (oz dA rfl) (a4) ?_;rintro _ f8 ⟨rfl,a,T⟩;have d9:=d7.vv d6 T.wk;refine⟨d9,?_⟩;replace m:=m.lq T;replace s:=s.nD T.kp eu;refine nu 16 (rO)<|pq dA<|nJ<|ny<|ng<|mZ (pJ rfl rfl)<|nk<|oZ rfl (λy=>?_)<|λy=>?_
  ·
   refine lS ?_;have z:(qQ (tH P.G.size P.D (l.take i)).1 (1+P.G.size+n*4) (ry X 4)).2=false:=by cases j:(qQ (tH P.G.size P.D (l.take i)).1 (1+P.G.size+n*4) (ry X 4)).2 with|false=>rfl|true=>simp[j]at y
   have e0:tH P.G.size P.D l=((qQ (tH P.G.size P.D (l.take i)).1 (1+P.G.size+n*4) (ry X 4)).1,false):=by
     have E:=Xm P.G.size (l.take (i+1)) (l.drop (i+1)) P.D;have e1:tH P.G.size P.D (l.take (i+1))=((qQ (tH P.G.size P.D (l.take i)).1 (1+P.G.size+n*4) (ry X 4)).1,false):=by
      rw[H,tH,if_neg (by rw[z];simp)]
     rw[bM,e1,if_neg ig]at E;exact E
   rw[e0,if_neg ig]at r;subst r;refine⟨by rw[z];rfl,a.weak A,?_⟩;exact(nC.of_below B).ll m A
  ·
   have z:(qQ (tH P.G.size P.D (l.take i)).1 (1+P.G.size+n*4) (ry X 4)).2=true:=by cases j:(qQ (tH P.G.size P.D (l.take i)).1 (1+P.G.size+n*4) (ry X 4)).2 with|true=>rfl|false=>simp[j]at y
   rw[tH,if_pos z,tH]at H;refine nU<|pO<|nJ<|nO<|mZ (oJ rfl rfl (Coup.nV dB))<|ng<|oI<|oM ⟨i+1,dB,⟨by go_num,rfl,rfl,rfl,rfl⟩,dB,by rw[H],by rw[H];exact a,s,m⟩
 ·
  have e2:i=l.length:=by omega
  subst e2;rw[dF]at a M;rw[dF]at N;rw[if_pos M]at r;obtain⟨D1,e3⟩:=aa ((tH P.G.size P.D l).1);rw[e3]at a N b6 r;have a5:=Ga a;dsimp only at a5;have j:=a.row;unfold uh at j;obtain⟨f9,Bw⟩:=a.mdl;refine qL<|qK<|rq<|qO<|nJ<|nI<|ny<|ng<|mZ (oo rfl)<|mZ (nG 0)<|mZ (nH j)<|nP (a5) ?_
  rintro _ g0 ⟨rfl,a,e4⟩;replace m:=m.lq e4;refine oG<|ng<|mZ (pJ rfl rfl)<|nk<|oZ rfl (λy=>?_)<|λy=>?_
  ·
   refine mg ?_;have z:qM D1=false:=by cases j:qM D1 with|false=>rfl|true=>simp[j]at y
   rw[if_neg (by rw[z];simp)]at r;subst r;exact⟨by rw[z];rfl,a.weak A,(nC.of_below B).ll m A⟩
  ·
   have z:qM D1=true:=by cases j:qM D1 with|true=>rfl|false=>simp[j]at y
   rw[if_pos z]at r;have U:=HV a b2 (λv a6=>by
     rw[sP,if_pos z]at a6;obtain⟨u,_,rfl⟩:=bg.1 a6;show 1<=90000;omega)
   dsimp only at U;have e5:=Xg (sP D1) P.G;have e6:∃ t,yc (sP D1) P.G=t:=⟨_,rfl⟩;obtain⟨⟨a7,g1,g2⟩,e7⟩:=e6;simp only[e7]at U e5 r;have j:=a.row;unfold uh at j;refine nU<|nJ<|nI<|ny<|ng<|mZ (oo rfl)<|mZ (nG 1)<|mZ (nH j)<|nP (U) ?_
   rintro _ g3 ⟨rfl,a,e8⟩;replace m:=m.lq e8;refine oG<|ng<|mZ (pJ rfl rfl)<|nk<|oZ rfl (λy=>?_)<|λy=>?_
   ·
    refine mg ?_;have L:¬a7=0:=y;rw[if_neg L]at r;subst r;exact⟨rfl,a.weak A,(nC.of_below B).ll m A⟩
   ·
    have L:a7=0:=by simpa using y
    rw[if_pos L]at r;subst r;have j:=a.row;unfold uh at j;refine nU<|nJ<|ny<|ng<|mZ (oo rfl)<|mZ (nG 5)<|mZ (nH j) ?_
    have C:=a.mdi;refine nK<|YF (k:=3) (e:=121) dA C rfl<|λg4 C a8=>?_
    replace m:=m.oq a8;have e9:=a.CK (c:=xJ) C a8;refine mI ?_;exact⟨by rw[L];rfl,e9.weak A,(nC.of_below B).ll m A⟩
end
theorem zsp(c:tK):∀ (m a:Nat),(qW (rM c) a m).length=(uo c a m).length
 |0,a=>rfl
 |m+1,a=>by
  have f:=zsp c m (a+1);rw[qW,uo];have e:rM c a=(c a).map WM:=rfl;rw[e];cases c a with
  |some b=>simp only[dP,aD,f]
  |none=>simpa using f
def keepR(e:Int)(P:Pl):Pl:={P with dead:=P.dead || decide (e=10)}
def NM(P:Pl):Int × Pl:=if(uo P.ch 0 P.n).length=0 then((sM P).1,keepR (sM P).1 (sM P).2)else(17,P)
section
variable {Y:VE}[nz Y]{g x q mc md lo:Nat}{rv cv:Value}{L:List Nat}{P:Pl}{w w':World}
theorem MG(h:pu g x q mc md cv cv Y lo L P w)(hok:xP P)(hde:P.dead=false)(hsh:tJ P.D 70000):CQ 128 [VA q] w (λv w'=>v=VB (NM P).1/\pu g x q mc md cv cv Y lo L (NM P).2 w'/\nC lo L w w'):=by
 have a:=nC.refl lo L w;have E:=hok.n4;have j:=NV h hok.lg.szm 0;unfold yg at j;have t:(0:Int)<=0/\(0:Int)<(P.n:Int):=by omega
 rw[hde,if_neg ig,if_pos t]at j;have r:=λw' (l:pu g x q mc md cv cv Y lo L P w')=>Zt l hok hsh
 obtain⟨R,c⟩:=aa (NM P);rw[c];unfold NM at c;obtain⟨⟨e,P2⟩,u⟩:∃ p,sM P=p:=⟨_,rfl⟩;simp only[u]at r c;have y:=λw' (l:pu g x q mc md cv cv Y lo L P2 w')=>En l e
 have s:=zsp P.ch P.n 0;have f:=h.row;unfold uh at f;have m:=h.mch;refine nZ (rs:=[.tmp 2]) (n:=19) Tryz.func128 rfl rfl Tryz.ntmps128 dA rfl<|ny<|nA<|nk<|nI<|ny<|ng<|nP (j) ?_
 rintro _ z ⟨rfl,i⟩;replace h:=h.new i;replace f:=f.new i;replace m:=m.new i;replace a:=a.new i;refine oG<|ng<|mZ (pJ rfl rfl)<|nk<|qg rfl (ig)<|nU<|nJ<|nI<|ny<|ng<|mZ (oo rfl)<|mZ (nG 4)<|mZ (nH f)<|mZ (zsi (k:=3) (e:=121) dA m rfl)<|mZ (rz rfl rfl)<|nk<|oZ rfl (λA=>?_)<|λA=>?_
 ·
  refine lY ?_;have o:¬(uo P.ch 0 P.n).length=0:=by rw[<-s];omega
  rw[if_neg o]at c;subst c;exact⟨rfl,h,a⟩
 ·
  have o:(uo P.ch 0 P.n).length=0:=by rw[<-s];omega
  rw[if_pos o]at c;subst c;refine nU<|nJ<|ny<|ng<|ng<|nP (r z h) ?_
  rintro _ B ⟨rfl,h,C⟩;replace a:=a.lq C;refine nP (y B h) ?_;rintro _ F ⟨rfl,h,D⟩;replace a:=a.lq D;refine lZ ?_;exact⟨rfl,h,a⟩
end
def qf(P:Pl):Rec:=(uo P.ch 0 P.n).map λp=>⟨p.1,p.2⟩
def uA(P:Pl):Int × Pl:=if((P.G.size - P.G.at_:Nat):Int)<vO ((qf P).length:Int)then sM P else(0,P)
def su(P:Pl)(R:Rec):Pl:=R.foldl (λP c=>{P with di:=uW P.di c.num.toNat (some c.page),cl:=without P.cl c.num}) P
def uI(P:Pl)(R:Rec):Pl:={P with D:=(uZ P.D P.G R).2.1,G:=(uZ P.D P.G R).2.2}
def uO(P:Pl):Int × Pl:=
 if(qf P).length=0 then(0,P)else if 60<(qf P).length then(3,P)else if(P.G.size:Int)<vO ((qf P).length:Int)then(8,P)
 else if(uA P).1=0 then
  if(uZ (uA P).2.D (uA P).2.G (qf P)).1=0 then(0,{su (uI (uA P).2 (qf P)) (qf P)with ch:=xJ})
  else((uZ (uA P).2.D (uA P).2.G (qf P)).1,keepR (uZ (uA P).2.D (uA P).2.G (qf P)).1 (uI (uA P).2 (qf P)))
 else((uA P).1,keepR (uA P).1 (uA P).2)
theorem zqL{R:Rec}{i:Nat}{c:Ch}(h:R[i]?=some c)(P:Pl):su P (R.take (i+1))={su P (R.take i)with di:=uW (su P (R.take i)).di c.num.toNat (some c.page),cl:=without (su P (R.take i)).cl c.num}:=by
 rw[bf,h,su,fG]
 rfl
theorem OI:∀ (R:Rec) (P:Pl),(su P R).D=P.D/\(su P R).G=P.G/\(su P R).fr=P.fr/\(su P R).ch=P.ch/\(su P R).dead=P.dead/\(su P R).n=P.n/\(sI P.cl->sI (su P R).cl)/\(su P R).cl.length<=P.cl.length
 |[],P=>⟨rfl,rfl,rfl,rfl,rfl,rfl,id,ax _⟩
 |c::R,P=>by
  obtain⟨a,e,f,g,h,i,j,k⟩:=OI R {P with di:=uW P.di c.num.toNat (some c.page),cl:=without P.cl c.num};exact⟨a,e,f,g,h,i,λl=>j (XO l c.num),ag k (XF P.cl c.num)⟩
theorem zuK(D:Dk)(a:Nat)(R:List qz):(xU D a R).1.V.length=D.V.length:=by
 unfold xU
 split
 .rw[Gh,Bp]
 .exact Bp _ _ _
theorem WT(D:Dk)(G:Lg)(R:Rec):(uZ D G R).2.1.V.length=D.V.length/\(uZ D G R).2.2.size=G.size:=by
 unfold uZ
 split
 .exact⟨rfl,rfl⟩
 .split
  .exact⟨rfl,rfl⟩
  .split
   .exact⟨rfl,rfl⟩
   .split<;>exact⟨zuK _ _ _,rfl⟩
theorem RV(P:Pl):(sM P).2.D.V.length=P.D.V.length/\(sM P).2.G.size=P.G.size/\(sM P).2.ch=P.ch/\(sM P).2.cl=P.cl/\(sM P).2.fr=P.fr/\(sM P).2.dead=P.dead/\(sM P).2.n=P.n:=by
 have a:=Uq P.G.size (uo P.di 0 P.n) P.D;have f:∀ D,(sP D).V.length=D.V.length:=λD=>Gh
 have c:=Xg (sP (vP P).1) P.G;unfold sM
 split
 .split
  .have e:(yc (sP (vP P).1) P.G).2.1.V.length=P.D.V.length:=by rw[c.1,f];exact a
   refine⟨e,c.2,rfl,rfl,rfl,rfl,?_⟩;unfold Pl.n;dsimp only;rw[e,c.2]
  .have e:(sP (vP P).1).V.length=P.D.V.length:=by rw[f];exact a
   refine⟨e,rfl,rfl,rfl,rfl,rfl,?_⟩;unfold Pl.n;dsimp only;rw[e]
 .refine⟨a,rfl,rfl,rfl,rfl,rfl,?_⟩
  unfold Pl.n vP;dsimp only;rw[a]
theorem Zr{D:Dk}(h:qM D=true):tJ (sP D) 1:=λv a=>by
 rw[sP,if_pos h]at a;obtain⟨u,_,rfl⟩:=bg.1 a;exact ax 1
theorem ZQ{P:Pl}(hok:xP P)(he:(sM P).1=0):xP (sM P).2/\tJ (sM P).2.D 1/\(sM P).2.di=xJ/\(sM P).2.G=Ql P.G/\P.G.dead=false/\P.G.count<4611686018427387904/\
  (vP P).2=true/\qM (vP P).1=true/\xI (sP (vP P).1) (P.G.count+1) (P.G.count+1)=true/\(sM P).2.D=uz (sP (vP P).1) (P.G.count+1) (P.G.count+1):=by
 obtain⟨e,r,s,t,u,y,f⟩:=RV P;have c:=hok.lg;have m:(vP P).2=true/\qM (vP P).1=true/\P.G.dead=false/\P.G.count<4611686018427387904/\xI (sP (vP P).1) (P.G.count+1) (P.G.count+1)=true/\
   sM P=(0,{P with D:=uz (sP (vP P).1) (P.G.count+1) (P.G.count+1),G:=Ql P.G,di:=xJ}):=by
  unfold sM at he |-
  by_cases g:(vP P).2=true
  .rw[if_pos g]at he |-
   by_cases h:qM (vP P).1=true
   .rw[if_pos h]at he |-
    refine⟨g,h,?_⟩;generalize sP (vP P).1=D1 at*;dsimp only at he;unfold yc at he |-
    by_cases j:P.G.dead=true
    .rw[if_pos j]at he;exact absurd he ig
    .rw[if_neg j]at he |-
     by_cases l:P.G.count=4611686018427387904
     .rw[if_pos l]at he;exact absurd he ig
     .rw[if_neg l]at he |-
      by_cases k:xI D1 (P.G.count+1) (P.G.count+1)=true
      .rw[if_pos k]
       exact⟨by simpa using j,by have:=c.cm;omega,k,rfl⟩
      .rw[if_neg k]at he;exact absurd he ig
   .rw[if_neg h]at he;exact absurd he ig
  .rw[if_neg g]at he;exact absurd he ig
 obtain⟨c1,c2,c3,o,a,p⟩:=m;rw[p]at e f |-;dsimp only at e f;refine⟨⟨⟨?_,?_,?_,c.sz4,c.szm,aC _,ax _,?_⟩,?_,hok.fr2,hok.frm,hok.ch,(λi b q=>nomatch q),hok.cl,hok.cll⟩,?_,rfl,rfl,c3,o,c1,c2,a,rfl⟩
 .show 1<=P.G.count+1;omega
 .show P.G.count+1<=P.G.count+1;omega
 .show P.G.count+1<=_;omega
 .show 1+P.G.size<=(uz _ _ _).V.length
  rw[e];exact c.fit
 .rw[f];exact hok.n4
 .unfold xI at a
  rw[aN]at a;show tJ (uz _ _ _) 1;unfold uz;rw[if_pos a.1];exact Zr a.2
theorem GM{P:Pl}(hok:xP P):sI (qf P)/\(qf P).length<=P.n/\∀ c∈qf P,∃ n:Nat,c.num=n/\n<P.n/\P.ch n=some c.page:=by
 refine⟨λc a=>?_,?_,λc a=>?_⟩
 .obtain⟨p,hp,rfl⟩:=bg.1 a
  exact hok.ch _ _ (Hu hp).1
 .unfold qf;rw[aP];exact Xo _ _ _
 .obtain⟨p,hp,rfl⟩:=bg.1 a
  have:=Hu hp;exact⟨p.1,rfl,dB,this.1⟩
theorem CZ{w:World}{g t:Nat}{c:Ch}(h:row w g (rV c) t)(hc:c.page.length=512):Ld Tryz.prog w 121 ⟨g,1,none⟩ (.agg (bv c.page).toArray):=by
 have a:=Ld.za (P:=Tryz.prog) (t:=121) (k:=512) (off:=1) h dA dA (by rw[BG hc];omega);have e:((rV c).drop 1).take 512=bv c.page:=by
  rw[rV,List.drop_succ_cons,bV,aQ (by rw[oL,hc];exact ax _)]
 rw[e]at a;exact a
section
variable {Y:VE}[nz Y]{g x q mc md lo:Nat}{rv cv:Value}{L:List Nat}{P:Pl}{w w':World}
theorem zuL(h:pu g x q mc md rv cv Y lo L P w)(hok:AQ P.D P.G)(hsh:tJ P.D 80000)(R:Rec)(hR:sI R)(p:Option Addr)(n cp:Nat)(hs:nM w p n 513 (qp R))(hn:R.length=n)(hn2:n<=1000000):
  CQ 99 [VA x, .slice p n cp] w (λv w'=>v=VB (uZ P.D P.G R).1/\pu g x q mc md rv cv Y lo L (uI P R) w'/\nC lo L w w'):=by
 refine(zuz h.lg hok hsh R hR p n cp hs hn hn2).to λv w' ⟨a,c,k⟩=>?_
 have hs:=WT P.D P.G R;exact⟨a,h.DU c k hs.2 hs.1,h.Jv k⟩
theorem zsq(h:pu g x q mc md cv cv Y lo L P w)(hok:xP P)(hde:P.dead=false)(hsh:tJ P.D 70000):CQ 32 [VA q] w (λv w'=>v=VB (uO P).1/\(∃ cv',pu g x q mc md cv' cv' Y lo L (uO P).2 w')/\nC lo L w w'):=by
 have m3:=hok.n4;have m4:=h.Eh.1;have m5:maxLen=9223372036854775807:=by decide
 have b7:=NV h hok.lg.szm 0;unfold yg at b7;have g6:(0:Int)<=0/\(0:Int)<(P.n:Int):=by omega
 rw[hde,if_neg ig,if_pos g6]at b7;obtain⟨X,g7,b8⟩:=GM hok;have a9:Ec P.ch P.n=(qf P).map (·.num):=by unfold Ec qf;rw[XB,dJ];rfl
 have e2:=λw' (a0:pu g x q mc md cv cv Y lo L P w')=>zuF a0
 have e3:=λL' w' (a0:pu g x q mc md cv cv Y lo L' P w')=>Zt a0 hok hsh
 have g8:=λT=>ZQ hok T
 have g9:=RV P;obtain⟨Z,y⟩:=aa (uO P);rw[y];unfold uO uA at y;obtain⟨R,e4⟩:=aa (qf P);rw[e4]at a9 X g7 b8;simp only[e4]at y;obtain⟨M,e5⟩:=aa (Ec P.ch P.n);rw[e5]at a9;simp only[e5]at e2;have m6:M.length=R.length:=by rw[a9,aP]
 have A:=Below.refl w.heap.size w;have e6:=λw' (hb:VD w w')=>h.new hb
 refine nZ (rs:=[.tmp 2]) (n:=102) Tryz.func32 rfl rfl Tryz.ntmps32 dA rfl<|ny<|nA<|nk<|nI<|ny<|ng<|nP b7 ?_
 rintro _ h0 ⟨rfl,h1⟩;replace A:=A.acc h1;refine oG<|ng<|mZ (pJ rfl rfl)<|nk<|qg rfl (ig)<|nU<|nJ<|ny<|nA<|nk<|nI<|ny<|ng<|nP (e2 h0 (e6 _ A)) ?_;rintro _ b9 ⟨⟨p,c,rfl,D,h2⟩,h3⟩;replace A:=A.acc h3;refine mh ?_;have m7:=A.size;have e7:∀ b o,p=some ⟨b,o,none⟩->0<M.length->b<b9.heap.size:=λb o e b0=>by
   have a1:=D.some dB;obtain⟨m8,m9,e8,h4⟩:=a1;rw[e]at e8;cases e8;exact h4
 refine qY (α:=Nat × Value) (0,VC) (λa=>[(19,VB (a.1:Nat)),(18,VB (M.length:Int)),(17, .slice p M.length c),(4,a.2),(0,VA q)])
   (λa w'=>a.1<=R.length/\og w' b9.heap.size 164 513 a.2 a.1 (qp (R.take a.1))/\nM w' p M.length 1 (iv M)/\VD w w'/\b9.heap.size<=w'.heap.size) (λa=>R.length - a.1)
   VF ⟨aC _,xV _ _ _ _,D,A,ax _⟩ ?_
 clear A D;rintro⟨i,u⟩ f a2 ⟨c4,C,D,A,h5⟩;dsimp only at c4 C D A h5 |-;refine ny<|mZ (pI rfl rfl)<|nk<|nI<|oZ rfl (λc5=>?_)<|λc5=>?_
 ·
  refine lN ?_;have a3:∃ s,R[i]?=some s:=⟨_,aG dB⟩;obtain⟨s,H⟩:=a3;have h6:M[i]?=some s.num:=by rw[a9,aV,H];rfl
  have c6:=b8 s (aO H);obtain⟨n,e9,f0,f1⟩:=c6;have a4:=X s (aO H);have c7:=D.some dB;obtain⟨F,op,c8,h7⟩:=c7;subst c8;have n0:=e7 F op rfl dB;have h8:(rM P.ch n).getD (.agg zP.toArray)= .agg (bv s.page).toArray:=by unfold rM;rw[f1];rfl
  have c9:=e6 _ A;have t:=c9.row;have N:=c9.mch;have n1:=c9.Qv;have n2:q<w.heap.size:=h.Qv.1;have n3:mc<w.heap.size:=h.Qv.2.1;unfold uh at t;have f2:(rV s).length=1*513:=BG a4;have f3:=EC s;have h9:R.take (i+1)=R.take i++[s]:=by rw[bf,H];rfl
  refine nO<|mZ (uX (e:=3) dA rfl rfl i dB dB)<|mZ (oK rfl (Ld.sl1 D dA (YX h6)))<|nA<|nk<|nO<|ng<|ng<|ng<|mZ (oo rfl)<|mZ (nG 4)<|mZ (nH t)<|ng<|mZ (NJ (k:=3) (e:=121) ((.agg zP.toArray)) dA dA kG N rfl rfl n ky dB dB h8)<|mZ (Vk a4 rfl rfl rfl)<|nK<|tT (e:=164) (.agg (rV s).toArray) (rV s) (([VB 0])++(List.replicate 512 (Value.int .u8 0))) 513 dA dA rfl rfl iw ⟨iT,iT⟩<|λn4 n5 n6 i0 a5=>?_
  replace C:=C.new a5;replace D:=D.new a5;replace A:=A.acc a5;have n7:=a5.size;have i1:=i0.tY (m:=1) (sz:=513) f2 dB;refine nK<|tu (e:=164) (sz:=513) (bytes:=520) (z:=.agg (([VB 0])++(List.replicate 512 (Value.int .u8 0))).toArray) dA rfl dA rfl iT rfl C rfl i1 f3 jB dB (λn8=>dB)<|λi2 n9 f4 d0 o0=>?_
  replace D:=D.own C d0 dB;replace A:=A.own C d0 dB;refine nA<|oI<|pO<|nJ<|nO<|mZ (oJ rfl rfl (Coup.nV dB))<|ng<|oI ?_
  rw[<-Uk,<-h9]at f4;refine oM ⟨(i+1,i2),dB,⟨by go_num,rfl,rfl,rfl,rfl,rfl⟩,dB,f4,D,A,by have b1:=a5.size;have o1:=d0.size;omega⟩
 ·
  have i3:i=R.length:=by omega
  subst i3;rw[dF]at C;have a3:∃ b2 a6,u= .slice b2 R.length a6/\nM a2 b2 R.length 513 (qp R)/\∀ b o,b2=some ⟨b,o,none⟩->w.heap.size<=b:=by
    rcases C.2 with⟨a7,b0⟩|⟨o2,ob,i4,o3,a7,hb,_⟩
    · rw[b0]at C |-
      rw[a7]at C;exact⟨none,0,a7,C.sl,λb o e=>nomatch e⟩
    · rw[a7]at C
      exact⟨_,i4,a7,C.sl,λb o e=>by cases e;omega⟩
  obtain⟨b2,a6,i5,r,i6⟩:=a3;subst i5;have i7:=h.sl A r dB i6;obtain⟨L2,E,i8,j⟩:=i7;have U:nC lo L w a2:=nC.of_below A;clear C D h2 e7;have o4:=A;have l:=nC.refl lo L2 a2;have o5:=j.UD;have t:=j.row;unfold uh at t;refine qL<|qK<|rq<|qO<|nJ<|nI<|pE<|ny<|ng<|mZ (oV (e:=164) (sz:=513) dA rfl rfl)<|mZ (qB rfl rfl)<|nA<|nk<|oZ rfl (λb0=>?_)<|λb0=>?_
  ·
   refine lW ?_;have d1:R.length=0:=by omega
   rw[if_pos d1]at y;subst y;exact⟨rfl,⟨_,j.weak E⟩,U.ll l E⟩
  ·
   have d1:¬R.length=0:=by omega
   rw[if_neg d1]at y;have c7:=r.some dB;obtain⟨F,op,c8,h7⟩:=c7;subst c8;have i9:F∈L2:=i8 dB F op rfl;refine ny<|ng<|mZ (oV (e:=164) (sz:=513) dA rfl rfl)<|mZ (rz rfl rfl)<|nA<|nk<|oZ rfl (λj0=>?_)<|λj0=>?_
   ·
    refine lW ?_;have d2:60<R.length:=by omega
    rw[if_pos d2]at y;subst y;exact⟨rfl,⟨_,j.weak E⟩,U.ll l E⟩
   ·
    have d2:¬60<R.length:=by omega
    rw[if_neg d2]at y;refine nI<|qH [] dA ?_
    intro j1 b3 o6;replace j:=j.new b3;replace l:=l.new b3;replace t:=t.new b3;replace r:=r.new b3;have j2:=t;refine nu 0 (nS)<|nu 1 (oV (e:=164) (sz:=513) dA rfl rfl)<|zh 2 dA rfl (λ_=>oz dA rfl) (λw' G=>NQ (R.length:Int) w')<|nu 3 (nS)<|nu 4 (oo rfl)<|nu 5 (nG 2)<|nR 6 (λw' G=>nH (j2.kq G))<|nu 7 (rz rfl rfl)<|nu 8 (rO)<|pq dA<|nJ<|oZ rfl (λd3=>?_)<|λd3=>?_
    ·
     refine lW ?_;have d4:(P.G.size:Int)<vO (R.length:Int):=d3;rw[if_pos d4]at y;subst y;exact⟨rfl,⟨_,j.weak E⟩,U.ll l E⟩
    ·
     have d4:¬(P.G.size:Int)<vO (R.length:Int):=d3;rw[if_neg d4]at y;obtain⟨S,B⟩:=aa ((if((P.G.size - P.G.at_:Nat):Int)<vO (R.length:Int)then sM P else(0,P)));rw[B]at y;have o7:World:=j1;refine nU<|pO<|nJ<|wO (λ_:Unit=>[(4, .slice (some ⟨F,op,none⟩) R.length a6),(0,VA q)]) (λ_ w'=>S.1=0/\pu g x q mc md cv cv Y lo L2 S.2 w'/\nM w' (some ⟨F,op,none⟩) R.length 513 (qp R)/\nC lo L2 a2 w') ?_ ?_
     ·
      refine nI<|qH [] dA ?_
      intro o8 b4 j3;replace j:=j.new b4;replace l:=l.new b4;replace t:=t.new b4;replace r:=r.new b4;have j4:=t;refine nu 0 (nS)<|nu 1 (oV (e:=164) (sz:=513) dA rfl rfl)<|zh 2 dA rfl (λ_=>oz dA rfl) (λw' G=>NQ (R.length:Int) w')<|nu 3 (nS)<|nu 4 (oo rfl)<|nu 5 (nG 1)<|nR 6 (λw' G=>nH (j4.kq G))<|oh 7 dA<|qw rfl rfl (oz dA rfl) (DJ j.lg hok.lg.at_ hok.lg.szm) ?_
      rintro _ j5 ⟨rfl,b5⟩;have j6:=j3.add0 b5;refine⟨j6,?_⟩;replace j:=j.new b5;replace l:=l.new b5;replace r:=r.new b5;refine nu 8 (rz rfl rfl)<|pq dA<|nJ<|oZ rfl (λI=>?_)<|λI=>?_
      ·
       refine nI ?_;have d5:((P.G.size - P.G.at_:Nat):Int)<vO (R.length:Int):=I;rw[if_pos d5]at B;refine nO<|ng<|nP (e3 _ j5 j) ?_
       rintro _ o9 ⟨rfl,j,f5⟩;replace l:=l.lq f5;replace r:=r.nD f5.kp eu;rw[B]at j;refine oG<|ng<|mZ (pJ rfl rfl)<|nk<|oZ rfl (λO=>?_)<|λO=>?_
       ·
        refine nI ?_;have Q:¬S.1=0:=by rw[<-B];exact O
        rw[if_neg Q]at y;refine nO<|ng<|ng<|nP (En j (sM P).1) ?_
        rintro _ p0 ⟨rfl,j,j7⟩;replace l:=l.lq j7;refine nA<|nk<|nY<|zH<|ou [_] ⟨rfl,trivial⟩ ?_;subst y;rw[B]at j;exact⟨by rw[<-B];rfl,⟨_,j.weak E⟩,U.ll l E⟩
       ·
        have Q:S.1=0:=by rw[<-B];simpa using O
        refine nU<|oM ⟨(),VF,Q,j,r,l⟩
      ·
       have d5:¬((P.G.size - P.G.at_:Nat):Int)<vO (R.length:Int):=I;rw[if_neg d5]at B;subst B;refine nU<|oM ⟨(),VF,rfl,j,r,l⟩
     ·
      have j8:∀ n:Nat,n<P.n->n<S.2.n:=λn f6=>by
        by_cases I:((P.G.size - P.G.at_:Nat):Int)<vO (R.length:Int)
        · rw[if_pos I]at B
          rw[<-B,g9.2.2.2.2.2.2];exact f6
        · rw[if_neg I]at B
          rw[<-B];exact f6
      have j9:S.1=0->xP S.2/\tJ S.2.D 80000:=λT=>by
        by_cases I:((P.G.size - P.G.at_:Nat):Int)<vO (R.length:Int)
        · rw[if_pos I]at B
          have b1:=g8 (by rw[B];exact T);rw[B]at b1;exact⟨b1.1,yD b1.2.1 dB⟩
        · rw[if_neg I]at B
          rw[<-B];exact⟨hok,yD hsh dB⟩
      clear j l r t B e3;rintro _ p1 w2 ⟨T,j,r,l⟩;have a1:=j9 T;obtain⟨f7,k0⟩:=a1;rw[if_pos T]at y;have f8:=λL' w' (a0:pu g x q mc md cv cv Y lo L' S.2 w') (k7:nM w' (some ⟨F,op,none⟩) R.length 513 (qp R))=>zuL a0 f7.lg k0 R X (some ⟨F,op,none⟩) R.length a6 k7 rfl dB
      obtain⟨P3,b6⟩:=aa (uI S.2 R);obtain⟨d6,f9⟩:=aa ((uZ S.2.D S.2.G R).1);have k8:P3.cl=S.2.cl:=by rw[<-b6];rfl
      have d7:P3.n=S.2.n:=by
        have:=WT S.2.D S.2.G R;rw[<-b6];unfold uI Pl.n;dsimp only;rw[this.1,this.2]
      rw[b6,f9]at y;simp only[b6,f9]at f8;have t:=j.row;unfold uh at t;refine nI<|ny<|ng<|mZ (oo rfl)<|mZ (nG 1)<|mZ (nH t)<|ng<|nP (f8 _ w2 j r) ?_
      rintro _ p2 ⟨rfl,j,g0⟩;replace l:=l.lq g0;replace r:=r.nD g0.kp eu;refine oG<|ng<|mZ (pJ rfl rfl)<|nk<|oZ rfl (λO=>?_)<|λO=>?_
      ·
       refine nI ?_;have Q:¬d6=0:=O;rw[if_neg Q]at y;refine nO<|ng<|ng<|nP (En j d6) ?_
       rintro _ p3 ⟨rfl,j,k9⟩;replace l:=l.lq k9;refine mO ?_;subst y;exact⟨rfl,⟨_,j.weak E⟩,U.ll l E⟩
      ·
       have Q:d6=0:=by simpa using O
       rw[if_pos Q]at y;subst y;refine nU<|nJ<|nI<|ny<|ng<|mZ (oV (e:=164) (sz:=513) dA rfl rfl)<|ng<|nk<|pE ?_
       refine qY (α:=Nat × Value) (0,cv) (λa=>[(81,VB (a.1:Nat)),(80,VB (R.length:Int)),(79, .slice (some ⟨F,op,none⟩) R.length a6),(0,VA q)])
         (λa w'=>a.1<=R.length/\pu g x q mc md a.2 a.2 Y lo L2 (su P3 (R.take a.1)) w'/\nM w' (some ⟨F,op,none⟩) R.length 513 (qp R)/\nC lo L2 a2 w') (λa=>R.length - a.1)
         VF ⟨aC _,j,r,l⟩ ?_
       clear j r l;rintro⟨i,cv2⟩ p4 p5 ⟨c4,j,r,l⟩;dsimp only at c4 j r l |-;have a1:=OI (R.take i) P3;obtain⟨p6,p7,p8,p9,q0,d8,l0,q1⟩:=a1;have l1:=l0 (by rw[k8];exact f7.cl);refine ny<|mZ (pI rfl rfl)<|nk<|nI<|oZ rfl (λc5=>?_)<|λc5=>?_
       ·
        refine lN ?_;have q2:=l.size;have a3:∃ s,R[i]?=some s:=⟨_,aG dB⟩;obtain⟨s,H⟩:=a3;have c6:=b8 s (aO H);obtain⟨n,e9,f0,f1⟩:=c6;have a4:=X s (aO H);have f2:(rV s).length=513:=BG a4;have f3:=EC s;have g1:=zqL H P3;refine nO<|mZ (qZ (e:=164) (sz:=513) dA rfl rfl i dB dB)<|mZ (oK rfl (NP r X H))<|nK<|oD (([VB 0])++(List.replicate 512 (Value.int .u8 0))) dA<|λl2 q3 g2 J d9=>?_
        replace j:=j.nL d9 g2 J.lt;replace l:=l.new d9;replace r:=r.new d9;refine nT<|oC 513 (rV s) J<|λq4 J e0=>?_
        replace j:=j.only e0 eG;replace l:=l.oq e0;replace r:=r.only e0 dB;refine nk<|nI ?_
        have t:=j.row;unfold uh at t;have K:=j.mdi;rw[d8,d7]at K;have l3:=j.Eh.1;rw[d8,d7]at l3;have q5:n<S.2.n:=j8 n f0;have g2:l2≠md:=λe=>j.mdl.2 kz
        have q6:=j.qd;have q7:F≠md:=λe=>j.mdl.2 (by rw[<-e];simp[i9])
        have l4:=j.mdl;obtain⟨q8,l5⟩:=l4;have q9:md∉L2:=λN=>l5 (aj _ N)
        refine qH [md] dA ?_;intro r0 V l6;replace j:=j.new V;replace l:=l.new V;replace r:=r.new V;replace J:=J.new V;replace t:=t.new V;replace K:=K.new V;have g3:=J;have l7:=t;refine nu 0 (nS)<|nu 1 (oo rfl)<|nu 2 (nG 5)<|nR 3 (λw' G=>nH (l7.kq G))<|nu 4 (nG 0)<|nR 5 (λw' G=>nH (g3.kq G))<|nu 6 (nG 1)<|nR 7 (λw' G=>oK rfl (CZ (g3.kq G) a4))<|oh 8 dA<|rA rfl rfl<|Kt (k:=3) (e:=121) (.agg (bv s.page).toArray) dA dA K rfl rfl rfl n ky dB dB<|λr1 K a8=>?_
        have l8:=l6.aq a8;refine⟨l8,?_⟩;replace l:=l.oq a8;replace r:=r.only a8 dB;replace J:=J.only a8 dB;rw[RI]at K;rw[<-d7,<-d8]at K;have e1:=j.CK K a8;refine pq dA<|nJ<|nO<|ng<|mZ (nG 0)<|mZ (nH J) ?_
        have l9:s.num.toNat=n:=by rw[e9];rfl
        refine nP (Yu e1 l1 s.num) ?_;rintro _ r2 ⟨rfl,⟨m0,e1⟩,g4⟩;replace l:=l.lq g4;replace r:=r.nD g4.kp eu;refine oI<|pO<|nJ<|nO<|mZ (oJ rfl rfl (Coup.nV dB))<|ng<|oI ?_
        rw[l9]at g1;refine oM ⟨(i+1,m0),dB,⟨by go_num,rfl,rfl,rfl,rfl⟩,dB,?_,r,l⟩;rw[g1];exact e1.weak<|λb hb=>aj _ hb
       ·
        have m1:i=R.length:=by omega
        subst m1;rw[dF]at j;have t:=j.row;unfold uh at t;obtain⟨r3,r4⟩:=j.mcl;refine qL<|qK<|rq<|qO<|nJ<|ny<|ng<|mZ (oo rfl)<|mZ (nG 4)<|mZ (nH t) ?_
        have N:=j.mch;refine nK<|YF (k:=3) (e:=121) dA N rfl<|λr5 N g5=>?_
        replace l:=l.oq g5;have m2:=j.Qt (c:=xJ) N g5;refine mI ?_;exact⟨rfl,⟨_,m2.weak E⟩,U.ll l E⟩
end
structure Co(r:Rec):Prop where
 ok:sI r
 l1:1<=r.length
 l60:r.length<=60
 num:∀ c∈r,0<=c.num
theorem IG{b:List UInt8}{r:Rec}(h:zO b=some r):b.length=516*r.length/\Co r:=by
 rw[zO]at h
 split at h
 .rename_i e
  rw[zN,aN,aN]at e;have j:=of_decide_eq_true e.1.1;have k:=of_decide_eq_true e.1.2;have f:=dC.1 e.2;have hr:=bQ h;have l:r.length=b.length / 516:=by rw[<-hr,Xl]
  refine⟨dB,⟨λc a=>?_,dB,dB,λc a=>?_⟩⟩
  .rw[<-hr]at a
   obtain⟨i,g,rfl⟩:=bg.1 a;have:=bZ.1 g;exact ZJ dB
  .rw[<-hr]at a
   exact(of_decide_eq_true (f c a)).1
 .cases h
theorem zpy{s c:Nat}:∀ (f k m:Nat) {X:List UInt8},X.length=m*128->m<=f->xu (yC s c k (uE f X m))<=m/\(yC s c k (uE f X m)).length<=xu (yC s c k (uE f X m))/\∀ r∈yC s c k (uE f X m),Co r
 |0,k,m,X,_,_=>by
  have:yC s c k (uE 0 X m)=[]:=rfl;rw[this];exact⟨aC _,aC _,λr hr=>nomatch hr⟩
 |f+1,k,m,X,hl,hf=>by
  cases hj:wC X m with
  |false=>
   have:uE (f+1) X m=[]:=by rw[uE,if_neg (by rw[hj];simp)]
   rw[this];exact⟨aC _,aC _,λr hr=>nomatch hr⟩
  |true=>
   obtain⟨i,_,e⟩:=SY hj;obtain⟨j,l⟩:=e hl;rw[uE,if_pos hj];cases ho:DD s c k ⟨uk (pF X 0),ut (pF X 0),sD X⟩with
   |none=>rw[Qj ho];exact⟨aC _,aC _,λr hr=>nomatch hr⟩
   |some r=>
    rw[x_ ho];obtain⟨o,p,g⟩:=zpy f (k+1) (m - qN (sD X).length) (s:=s) (c:=c) (X:=X.drop (128*qN (sD X).length)) (by rw[aM,hl];omega) dB;have hr:zO (sD X)=some r:=by
     unfold DD at ho
     split at ho
     .exact ho
     .cases ho
    obtain⟨hb,h⟩:=IG hr;have:xu (r::yC s c (k+1) (uE f (X.drop (128*qN (sD X).length)) (m - qN (sD X).length)))=qN (516*r.length)+xu (yC s c (k+1) (uE f (X.drop (128*qN (sD X).length)) (m - qN (sD X).length))):=by simp[xu]
    rw[this,<-hb,aD];refine⟨dB,dB,λx a=>?_⟩;rcases ak.1 a with rfl|a
    .exact h
    .exact g x a
theorem zsr{D:Dk}(h:yX D){n:Nat}(hn:1+n<=D.V.length):(Bn D n).length=n*128:=by
 unfold Bn;rw[Sw]
 .simp
 .intro s a
  obtain⟨i,c,rfl⟩:=bg.1 a;exact Sa h (by have:=bZ.1 c;omega)
theorem zkL{D:Dk}{G:Lg}(h:yX D)(hn:1+G.size<=D.V.length):xu (xD D G)<=G.size/\(xD D G).length<=xu (xD D G)/\∀ r∈xD D G,Co r:=
 zpy G.size 0 G.size (zsr h hn) (ax _)
def Bo(n:Nat)(c:tK)(R:Rec):tK:=R.foldl (λc a=>if a.num<(n:Int)then uW c a.num.toNat (some a.page)else c) c
def zF(n:Nat)(S:List Rec):tK:=S.foldl (Bo n) xJ
theorem zqM{R:Rec}{i:Nat}{h:Ch}(hh:R[i]?=some h)(n:Nat)(c:tK):Bo n c (R.take (i+1))=if h.num<(n:Int)then uW (Bo n c (R.take i)) h.num.toNat (some h.page)else Bo n c (R.take i):=by
 rw[bf,hh,Bo,fG]
 rfl
theorem zoj{S:List Rec}{i:Nat}{r:Rec}(hh:S[i]?=some r)(n:Nat):zF n (S.take (i+1))=Bo n (zF n (S.take i)) r:=by
 rw[bf,hh,zF,fG]
 rfl
theorem A_{n:Nat}:∀ (R:Rec) {c:tK},sI R->(∀ i b,c i=some b->b.length=512)->∀ i b,Bo n c R i=some b->b.length=512
 |[],c,_,h=>h
 |r::R,c,hR,h=>by
  refine A_ R (λx a=>hR x (aj _ a)) ?_;intro i b hb;dsimp only at hb
  split at hb
  .unfold uW at hb
   split at hb
   .rw[<-bQ hb];exact hR r (aK ..)
   .exact h i b hb
  .exact h i b hb
theorem zmT{n:Nat}:∀ (S:List Rec) {c:tK},(∀ r∈S,sI r)->(∀ i b,c i=some b->b.length=512)->∀ i b,S.foldl (Bo n) c i=some b->b.length=512
 |[],c,_,h=>h
 |r::S,c,hS,h=>zmT S (λx a=>hS x (aj _ a)) (A_ r (hS r (aK ..)) h)
def wG(D:Dk)(n:Nat)(fr:Nat):Pl:=
 ⟨uz D (sK (qa D 0)+1) (ug (qa D 0)),⟨sK (qa D 0)+1,ug (qa D 0),n,(xD D (yf D n)).length,xu (xD D (yf D n)),false⟩,fr,xJ,zF (vN D.V.length n) (xD D (yf D n)),[],false⟩
def Ez(D:Dk)(n:Nat)(fr:Nat):Int × Pl:=if(xD D (yf D n)).length=0 then(0,wG D n fr)else NM (wG D n fr)
theorem YH(D:Dk)(n fr:Nat):(wG D n fr).n=vN D.V.length n:=by
 unfold Pl.n wG;dsimp only;rw[Ud]
theorem zqN{D:Dk}{n:Int}(he:AL D n=0):Aw D.V.length n=true/\Ae (qa D 0)=true/\sK (qa D 0)<4611686018427387904/\1<=ug (qa D 0)/\ug (qa D 0)<=sK (qa D 0):=by
 have e:Aw D.V.length n=true:=iY λa=>by
  unfold AL at he;rw[if_neg a]at he;cases he
 have f:Ae (qa D 0)=true:=iY λa=>by
  unfold AL at he;rw[if_pos e,if_neg a]at he;cases he
 have g:sK (qa D 0)≠4611686018427387904:=λa=>by
  unfold AL at he;rw[if_pos e,if_pos f]at he;rw[if_pos a]at he;cases he
 have c:=f;rw[Ae,aN,aN,aN]at c;have h:=of_decide_eq_true c.2;exact⟨e,f,dB,of_decide_eq_true c.1.1.2,of_decide_eq_true c.1.2⟩
theorem zss{D:Dk}(h:yX D){n fr:Nat}(he:AL D n=0)(hc:4<=vN D.V.length n)(h2:2<=fr)(hm:fr<=100):xP (wG D n fr):=by
 obtain⟨f,l,m,g,o⟩:=zqN he;have p:=of_decide_eq_true f;have a:(yf D n).size=n:=by rw[yf,aW]
 obtain⟨e,j,k⟩:=zkL (G:=yf D n) h (by rw[a];omega);rw[a]at e;refine⟨⟨g,?_,?_,?_,?_,e,j,?_⟩,by rw[YH];exact hc,h2,hm,(λi b h=>nomatch h),?_,(λc hc=>nomatch hc),aC _⟩
 .show ug (qa D 0)<=sK (qa D 0)+1;omega
 .show sK (qa D 0)+1<=_;omega
 .show 4<=n;omega
 .show n<=4000;omega
 .show 1+n<=(uz _ _ _).V.length;rw[Ud];omega
 .exact zmT _ (λr hr=>(k r hr).ok)<|λi b h=>nomatch h
end Go.Proofs.YtpaniebomegnbaaGreat
