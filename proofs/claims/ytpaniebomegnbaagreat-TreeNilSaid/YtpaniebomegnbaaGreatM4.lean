import Derived.Test.YtpaniebomegnbaaGreatM3
set_option maxHeartbeats 8000000
set_option maxRecDepth 20000
namespace Go.Proofs.YtpaniebomegnbaaGreat
open Go Go.RowKit Coup
theorem Ik{P:Program}{ρ:Env}{w:World}{d:Option Nat}{ty:TypeId}{pos:String}{af:Array Edge}{gd:Option (Nat × Bool)}{t i j k:Nat}{x y z:Operand}(v u s:Value)(cs:List Value)(hx:ev ρ x=v)(hy:ev ρ y=u)(hz:ev ρ z=s)(hb:P.built t [(i,v),(j,u),(k,s)]=some cs.toArray):
  (execOp (ev ρ) ⟨d, .build t #[(i,x),(j,y),(k,z)],ty,pos,af,gd⟩).run P w= .ok (.value (.agg cs.toArray)) w:=by
 have:=run_build (P:=P) w t #[(i,v),(j,u),(k,s)] cs.toArray kG;simp only[execOp,fU,aZ,dS,hx,hy,hz,Sem.run_bind,this,Result.andThen_ok]
 rfl
theorem VT{X Y Z:World->List Nat->Prop}{lo:Nat}{L:List Nat}{w:World}(h:Two X (zm Y Z) lo L w):Two X Y lo L w:=by
 obtain⟨⟨B,_,c,⟨C1,C2,rfl,e,_⟩,a,f⟩,g,i⟩:=h;exact⟨⟨B,C1,c,e,λb hb=>⟨(a b hb).1,λj=>(a b hb).2.1 (aF _ j),(a b hb).2.2⟩,λb hb=>f b (aF _ hb)⟩,g,i⟩
def AC(D:Dk)(n:Int):Int:=if Aa D.V.length n then(if zS (pF D 0)then(if rY (pF D 0)=4611686018427387904 then 8 else 0)else 6)else 2
def yf(D:Dk)(n:Int):Lg:=⟨rY (pF D 0),sZ (pF D 0),n.toNat,0,0,false⟩
section
variable {Y:World->List Nat->Prop}[mW Y]{g lo:Nat}{L:List Nat}{D:Dk}{w:World}
def HV(e:Int):Value:=.tuple #[.pointer none, .slice none 0 0, .int .i64 e]
theorem Gh(h:Two (DZ g D) Y lo L w)(n:Nat)(he:AC D n=0)(hsh:sK D 90000):
    CQ 127 [.pointer (some ⟨g,0,none⟩), .int .i64 (n:Int)] w (λv w'=>∃ ok D2 C s S,xg D (C+1) s=ok/\tV D (C+1) s=D2/\rY (pF D 0)=C/\sZ (pF D 0)=s/\xu D (yf D n)=S/\mX lo L w w'/\
      ((ok=false/\v=HV 10/\Two (DZ g D2) Y lo L w')\/(ok=true/\∃ x p c,v= .tuple #[.pointer (some ⟨x,0,none⟩), .slice p S.length c, .int .i64 0]/\S.length<=c/\
        rF g x (zm Y (Ar p S)) lo L D2 ⟨C+1,s,n,S.length,wU S,false⟩ w'))):=by
  have m:Aa D.V.length n=true:=iV λj=>by
    unfold AC at he;rw[if_neg j]at he;cases he
  have r:zS (pF D 0)=true:=iV λj=>by
    unfold AC at he;rw[if_pos m,if_neg j]at he;cases he
  have a9:rY (pF D 0)≠4611686018427387904:=λj=>by
    unfold AC at he;rw[if_pos m,if_pos r]at he;rw[if_pos j]at he;cases he
  have c9:=of_decide_eq_true m;have o:=r;rw[zS,aJ,aJ,aJ]at o;have O:=of_decide_eq_true o.1.1.2;have t:=of_decide_eq_true o.1.2;have P:=of_decide_eq_true o.2;have e:=Below.refl w.heap.size w;have Q:=Hy h n ⟨eu,eu⟩;rw[m]at Q;have b0:=(yV h).2;have b1:xy D 0=true:=decide_eq_true ⟨eu,eu⟩;have u:=λw' (hb:Below w.heap.size w w')=>Dh (h.new hb) 0
  rw[b1,if_pos rfl,if_pos rfl]at u;have T:=TF (yV h).1 b0;have b2:(0:Int).toNat=0:=rfl;rw[b2]at u;have y:=λw'=>ztB (pF D 0) w' T
  rw[r]at y;have z:yf D n=⟨rY (pF D 0),sZ (pF D 0),n,0,0,false⟩:=by rw[yf,aR]
  obtain⟨C,A⟩:=aa (rY (pF D 0));obtain⟨s,B⟩:=aa (sZ (pF D 0));rw[A,B]at z y;rw[A]at a9 t P;rw[B]at t O;obtain⟨S,U⟩:=aa (xu D (yf D n));have E:=fun(x:Nat) (w':World) (h:rF g x Y lo L D ⟨C,s,n,0,0,false⟩ w')=>ME h ⟨O,t,P,by show 4<=n;omega,by show n<=4000;omega,aC _,ax _,by show 1+n<=_;omega⟩ rfl rfl
  rw[<-z,U,z]at E;dsimp only at E;obtain⟨ok,V⟩:=aa (xg D (C+1) s);obtain⟨D2,X⟩:=aa (tV D (C+1) s);have F:=fun(x:Nat) (p:Option Addr) (w':World) (h:rF g x (zm Y (Ar p S)) lo L D ⟨C,s,n,S.length,wU S,false⟩ w')=>Cj h s (by show C+1<_;omega) eu hsh
  dsimp only at F;rw[V,X]at F;generalize pF D 0=b3 at*;have d0:=h.lo;have d1:=h.lt;have a:=mX.refl lo L w;have d2:=h;refine Calls.to (R:=λv w'=>mX lo L w w'/\((ok=false/\v=HV 10/\Two (DZ g D2) Y lo L w')\/(ok=true/\∃ x p c,v= .tuple #[.pointer (some ⟨x,0,none⟩), .slice p S.length c, .int .i64 0]/\S.length<=c/\
        rF g x (zm Y (Ar p S)) lo L D2 ⟨C+1,s,n,S.length,wU S,false⟩ w'))) ?_ (λv w' Z=>⟨ok,D2,C,s,S,V,X,A,B,U,Z.1,Z.2⟩)
  clear he;refine nP (fn:=Tryz.f127) (rs:=[.tmp 4, .tmp 5, .tmp 6]) (n:=64) Tryz.func127 rfl rfl Tryz.ntmps127 dA rfl<|mR<|mV<|mV<|mV<|mQ<|ng<|mR<|mP<|mP<|nD (Q) ?_
  rintro _ _ ⟨rfl,rfl⟩;refine nV<|mP<|mO (oD rfl rfl)<|mQ<|pJ rfl (ig)<|nL<|ny<|mR<|mP<|nD (u _ e) ?_;rintro _ d3 ⟨rfl,a0⟩;replace a:=a.new a0;replace e:=e.acc a0;refine mP<|mO (nJ rfl rfl)<|mO (nJ rfl rfl)<|nz<|nU (List.replicate 128 (Value.int .u8 0)) dA<|λa1 d4 b4 f a2=>?_
  have b5:=ag e.size b4;have d5:=a.size;replace a:=a.new a2;replace e:=e.acc a2;refine nH<|nT 128 (bv b3) f<|λb6 f a3=>?_
  replace a:=a.oq a3;replace e:=a3.below e b5;refine mV<|mQ<|ng<|mR<|mP<|mO (oD rfl rfl)<|mQ<|pJ rfl (ig)<|nL<|ny<|mR<|mO (ou rfl (Ld.qp (k:=128) f dA dA (by rw[oh,T])))<|nD (y b6) ?_
  rintro _ d6 ⟨rfl,G⟩;replace a:=a.new G;replace f:=f.new G;replace e:=e.acc G;refine mP<|mO (nJ rfl rfl)<|mO (nJ rfl rfl)<|nz<|nU ([Value.int .u64 0,Value.int .u64 0]) dA<|λa4 d7 a5 l H=>?_
  have b7:=ag e.size a5;have b8:a1<a4:=ae f.lt a5;replace a:=a.new H;replace f:=f.new H;replace e:=e.acc H;refine nH<|nT 2 ([.int .u64 (C:Int), .int .u64 (s:Int)]) l<|λd8 l I=>?_
  replace a:=a.oq I;replace f:=f.only I (ai b8);replace e:=I.below e b7;refine mV<|mQ<|ng<|oU<|mR<|mP<|mO (sD rfl)<|mV<|mQ<|Gb rfl (rfl)<|mR<|mO (nk 0)<|mO (mZ l)<|mO (qy rfl rfl)<|mV<|mQ<|pJ rfl (eu)<|nL<|pW<|ny<|mR<|mO (oI 2 l)<|mP<|mP<|mO (Ik (.agg #[.int .u64 (C:Int), .int .u64 (s:Int)]) (.pointer (some ⟨g,0,none⟩)) (.int .i64 (n:Int)) [.int .u64 (C:Int), .int .u64 (s:Int), .pointer (some ⟨g,0,none⟩), .int .i64 (n:Int), .int .i64 0, .int .i64 0, .bool false] rfl rfl rfl dA) ?_
  have a6:=h.new e;refine nz<|oV ([.int .u64 (C:Int), .int .u64 (s:Int), .pointer (some ⟨g,0,none⟩), .int .i64 (n:Int), .int .i64 0, .int .i64 0, .bool false]) rfl<|λJ a7 q a8 K=>?_
  have d9:=ag e.size q;have e0:a1<J:=ae f.lt q;have e1:a4<J:=ae l.lt q;replace a:=a.new K;replace e:=e.acc K;have e2:=e.size;have i:rF g J Y lo L D ⟨C,s,n,0,0,false⟩ a7:=⟨a6.nA K q a8.lt,a8,eu,λb9=>by have:=a6.lt _ b9;omega⟩;refine nV<|mP<|nD (E _ a7 i) ?_
  rintro _ c4 ⟨p,c5,rfl,c6,i,c7⟩;replace a:=a.lq c7;refine mP<|mO (nJ rfl rfl)<|mO (nJ rfl rfl)<|mV<|mV<|mQ<|ng<|mR<|mP<|mO (qy rfl rfl)<|mQ<|sU rfl (rfl)<|nM<|mP<|mP<|mO (nW rfl)<|mO (nk 0)<|mO (nk 1)<|mO (ou rfl (Ld.qN i.rowx dA rfl))<|nD (F _ _ c4 i) ?_;rintro _ e3 ⟨rfl,i,c8⟩;replace a:=a.lq c8;refine mV<|mQ<|ng<|mR<|mP<|mO (oD rfl rfl)<|mQ<|oP rfl (λM=>?_)<|λM=>?_
  ·
   refine mR<|mP<|mV<|mV<|mV<|mQ<|nQ<|qb<|nR [_,_,_] ⟨rfl,rfl,rfl,trivial⟩ ?_
   have N:ok=false:=by cases ok with|false=>rfl|true=>simp at M
   subst N;exact⟨a, .inl ⟨rfl,rfl,VT i.fst⟩⟩
  ·
   have N:ok=true:=by cases ok with|true=>rfl|false=>simp at M
   subst N;refine nL<|ny<|mR<|mP<|mP<|mV<|mV<|mV<|mQ<|nQ<|nR [_,_,_] ⟨rfl,rfl,rfl,trivial⟩ ?_
   exact⟨a, .inr ⟨rfl,_,p,c5,rfl,c6,i⟩⟩
end
def vk(n:Nat)(s:Int):Nat:=if s<4\/4000<s then 0 else(n - 1 - s.toNat) / 4
section
variable {Y:World->List Nat->Prop}{g lo:Nat}{L:List Nat}{D:Dk}{w:World}
theorem countP(h:Two (DZ g D) Y lo L w)(s:Int)(hs:Bz s):CQ 124 [.pointer (some ⟨g,0,none⟩), .int .i64 s] w (λv w'=>v= .int .i64 ((vk D.V.length s:Nat):Int)/\w=w'):=by
 have e:=WK h;have g:=(yV h).1.n;have i:=hs.1;have j:=hs.2;refine nP (fn:=Tryz.f124) (rs:=[.tmp 4]) (n:=18) Tryz.func124 rfl rfl Tryz.ntmps124 dA rfl<|mR<|mV<|mQ<|ng<|mR<|mP<|mO (pE rfl rfl)<|mP<|ui 7 rfl (λa=>?_)<|λa=>?_
 ·
  refine mi ?_;exact⟨by rw[vk,if_pos (.inl a)];rfl,rfl⟩
 ·
  refine mY<|mP<|mY<|mO (rq rfl rfl)<|mO (oo rfl)<|mQ<|oP rfl (λc=>?_)<|λc=>?_
  ·
   refine lN ?_;exact⟨by rw[vk,if_pos (.inr c)];rfl,rfl⟩
  ·
   have f:∃ m:Nat,s=m:=⟨s.toNat,eu⟩;obtain⟨m,rfl⟩:=f;refine nL<|ny<|mR<|mP<|nD (e) ?_
   rintro _ _ ⟨rfl,rfl⟩;refine mO (vE rfl rfl (Coup.nN eu))<|mP<|mO (vE rfl rfl (Coup.nN eu))<|mO (Xg rfl rfl)<|mO (Ns rfl rfl eu eu)<|mV<|mQ<|nQ<|nR [_] ⟨rfl,trivial⟩<|⟨?_,rfl⟩;show Value.int .i64 (max ((D.V.length:Int) - 1 - m) 0 / 4)=_;rw[vk,if_neg eu,aR]
   congr 1
   omega
theorem Pp(h:Two (DZ g D) Y lo L w)(s:Int)(hs:Bz s):CQ 123 [.pointer (some ⟨g,0,none⟩), .int .i64 s] w (λv w'=>v= .int .i64 (if vk D.V.length s<4 then 2 else 0)/\w=w'):=by
 have a:=WK h;have hp:=(yV h).2;have c:=countP h s hs;refine nP (fn:=Tryz.f123) (rs:=[.tmp 4]) (n:=14) Tryz.func123 rfl rfl Tryz.ntmps123 dA rfl<|mR<|mV<|mQ<|ng<|oU<|mR<|mP<|nD (a) ?_
 rintro _ _ ⟨rfl,rfl⟩;refine mO (qy rfl rfl)<|mV<|mQ<|pJ rfl (eu)<|mR<|mP<|mP<|nD (c) ?_;rintro _ _ ⟨rfl,rfl⟩;refine mO (pE rfl rfl)<|mV<|mQ<|oP rfl (λe=>?_)<|λe=>?_
 ·
  refine lL ?_;exact⟨by rw[if_pos eu];rfl,rfl⟩
 ·
  refine lM ?_;exact⟨by rw[if_neg eu];rfl,rfl⟩
end
theorem CR(s n:Nat)(w:World)(hs:s<=4000)(hn:n<=8192):CQ 182 [.int .i64 (s:Int), .int .i64 (n:Int)] w (λv w'=>v= .int .i64 ((1+s+n*4:Nat):Int)/\w=w'):=by
 refine nP (fn:=Tryz.f182) (rs:=[.tmp 4]) (n:=10) Tryz.func182 rfl rfl Tryz.ntmps182 dA rfl<|mR<|nV<|mP<|mO (om rfl rfl (Coup.nN eu))<|mP<|mO (yD rfl rfl (Coup.nN eu))<|mO (om rfl rfl (Coup.nN eu))<|mV<|mQ<|nQ<|nR [_] ⟨rfl,trivial⟩ ?_
 exact⟨by show Value.int .i64 (1+(s:Int)+n*4)=_;congr 1,rfl⟩
theorem znI(b:List UInt8){m n:Nat}(h:m<=n):(qM b n).take m=qM b m:=by
 rw[qM,qM,<-eX,List.take_range,bP h]
section
variable {Y:World->List Nat->Prop}[mW Y]{g lo:Nat}{L:List Nat}{D:Dk}{w:World}
theorem BG(h:Two (DZ g D) Y lo L w)(s n:Nat)(X:List UInt8)(hX:X.length=512)(hs:s<=4000)(hn:1+s+n*4+4<=D.V.length)(hsh:sK D 80000):
   CQ 125 [.pointer (some ⟨g,0,none⟩), .int .i64 (s:Int), .int .i64 (n:Int), .agg (bv X).toArray] w (λv w'=>v= .int .i64 (if(qH D (1+s+n*4) (qM X 4)).2 then 0 else 10)/\Two (DZ g (qH D (1+s+n*4) (qM X 4)).1) Y lo L w'/\mX lo L w w'):=by
 have c:=h;have j:=mX.refl lo L w;have T:=(yV c).1.n;have v:=λw'=>CR s n w' hs eu
 obtain⟨a,G⟩:=aa (1+s+n*4);rw[G]at v hn |-;have U:(bv X).length=512:=by rw[oh];exact hX
 refine nP (fn:=Tryz.f125) (rs:=[.tmp 8]) (n:=33) Tryz.func125 rfl rfl Tryz.ntmps125 dA rfl<|mR<|nz<|oV (bv X) rfl<|λo V H l y=>?_
 replace c:=c.nA y H l.lt;replace j:=j.new y;refine mV<|mQ<|ng<|mR<|mP<|mQ<|oU ?_
 refine qZ (α:=Nat) 0 (λi=>[(11, .int .i64 (i:Nat)),(7, .pointer (some ⟨o,0,none⟩)),(0, .pointer (some ⟨g,0,none⟩)),(1, .int .i64 (s:Int)),(2, .int .i64 (n:Int))])
   (λi w'=>i<=4/\(qH D a (qM X i)).2=true/\row w' o (bv X) 121/\Two (DZ g (qH D a (qM X i)).1) Y lo (o::L) w'/\mX lo L w w') (λi=>4 - i)
   ⟨rfl,rfl,rfl,rfl,rfl,rfl⟩ ⟨aC _,rfl,l,c,j⟩ ?_
 clear c j l;rintro i f Z ⟨a0,z,l,c,j⟩;have A:=Sa (qM X i) D a 80000 hsh;have a1:=Bi (qM X i) D a;rw[GL]at A;refine mR<|mO (pE rfl rfl)<|mQ<|ng<|oP rfl (λI=>?_)<|λI=>?_
 ·
  refine lG ?_;obtain⟨S,q⟩:=aa ((X.drop (128*i)).take 128);have J:bv S=((bv X).drop (0+128*i)).take 128:=by rw[<-q,Ee,Al,bg]
  have K:S.length=128:=by rw[<-q,aH,aL];omega
  have B:=zjh X i;rw[q]at B;have m:=Wz (qM X i) D a S z;rw[<-B,GL]at m;refine vK (lo) ((o::L)) dA ?_;intro a2 r M N;replace c:=c.new r;replace j:=j.new r;replace l:=l.new r;have O:=l;refine mU 0 (nK)<|mU 1 (nK)<|mU 2 (nK)<|yM 3 dA rfl (λ_=>nX dA rfl) (λw' C=>v w')<|mU 4 (nK)<|mU 5 (om rfl rfl (Coup.nN eu))<|mU 6 (nK)<|mU 7 (yD rfl rfl (Coup.nN eu))<|mU 8 (nK)<|mU 9 (om rfl rfl (Coup.nN eu))<|mU 10 (yD rfl rfl (Coup.nN eu))<|mU 11 (xQ (e:=5) (n:=512) (128*i) (128*i+128) (512) (128) dA rfl ⟨_,_,rfl,eu⟩ ⟨_,_,rfl,eu⟩ rfl ig eu eu eu eu eu)<|mU 12 (D_ (n:=128) (e:=5) (sz:=1) dA rfl eu)<|nI 13 (λw' C=>ou rfl (Ld.AR (k:=128) (off:=0+128*i) (O.kL C) dA dA eu))<|nS 14 dA ?_
  have E:=RY c ((a:Int)+(i:Int)) S K (xZ A eu);rw[J]at E;refine qf rfl rfl (nX dA rfl) (E) ?_;rintro _ a3 ⟨rfl,c,t⟩;have P:=N.uK M t.wk;refine⟨P,?_⟩;replace j:=j.lq t;replace l:=l.kl t;refine mU 15 (rA)<|oL dA<|ny<|mR ?_
  have Q:xy (qH D a (qM X i)).1 ((a:Int)+(i:Int))=true:=decide_eq_true eu;rw[KI,Q,if_pos rfl];rw[show(a:Int)+(i:Int)=((a+i:Nat):Int) by omega]at c;refine mP<|mO (oD rfl rfl)<|mQ<|oP rfl (λu=>?_)<|λu=>?_
  ·
   refine lH ?_;have p:qB (qH D a (qM X i)).1=false:=by cases hq:qB (qH D a (qM X i)).1 with|false=>rfl|true=>simp[hq]at u
   rw[p]at m;have F:=Vm (qM X (i+1)) ((qM X 4).drop (i+1)) D a (by rw[m]);rw[show qM X (i+1)++(qM X 4).drop (i+1)=qM X 4 by rw[<-znI X (show i+1<=4 by omega),bM],m]at F;rw[F];exact⟨by rw[p];rfl,c.weak (λb hb=>aj _ hb),j⟩
  ·
   have p:qB (qH D a (qM X i)).1=true:=by cases hq:qB (qH D a (qM X i)).1 with|true=>rfl|false=>simp[hq]at u
   refine nL<|pW<|ny<|nM<|mO (om rfl rfl (Coup.nN eu))<|mP<|oH<|oO ⟨i+1,eu,⟨by go_num,rfl,rfl,rfl,rfl,rfl⟩,eu,by rw[m];exact p,l,by rw[m];exact c,j⟩
 ·
  have R:i=4:=by omega
  subst R;refine lV ?_;exact⟨by rw[z];rfl,c.weak (λb hb=>aj _ hb),j⟩
theorem TY:∀ (l:List qg) {D:Dk} {k:Nat} (a:Nat),sJ D k->(qH D a l).2=true/\sJ (qH D a l).1 (k+l.length)
 |[],D,k,a,h=>⟨rfl,h⟩
 |t::l,D,k,a,h=>by
  rw[qH,(FY h.left h.dead).1,if_pos rfl];obtain⟨c,e⟩:=TY l (a+1) (h.ug (a:Int) t).1;exact⟨c,e.weak (by rw[aD];omega)⟩
def uB:List UInt8:=List.replicate 512 0
def DF(D:Dk)(s:Nat):Nat->Dk
 |0=>D
 |m+1=>(qH (DF D s m) (1+s+m*4) (qM uB 4)).1
theorem PV{D:Dk}{k s:Nat}(h:sJ D k):∀ m,sJ (DF D s m) (k+m*4)/\(DF D s m).V.length=D.V.length
 |0=>⟨by rw[bZ,dD];exact h,rfl⟩
 |m+1=>by
  obtain⟨a,c⟩:=PV (s:=s) h m;refine⟨?_,(Bi _ _ _).trans c⟩;exact(TY (qM uB 4) (1+s+m*4) a).2.weak (by rw[GL];omega)
theorem Hf(h:Two (DZ g D) Y lo L w)(s:Int)(hs:Bz s)(ha:sJ D 60000):
   CQ 64 [.pointer (some ⟨g,0,none⟩), .int .i64 s] w (λv w'=>v= .int .i64 (if vk D.V.length s<4 then 2 else 0)/\Two (DZ g (if vk D.V.length s<4 then D else yJ (DF D s.toNat (vk D.V.length s)) s.toNat)) Y lo L w'/\mX lo L w w'):=by
 have a:=h;have e:=mX.refl lo L w;have p:=Pp h s hs;have q:=countP h s hs;have I:=(yV a).1.n;obtain⟨c,j⟩:=aa (vk D.V.length s);rw[j]at p q |-;refine nP (fn:=Tryz.f64) (rs:=[.tmp 4]) (n:=32) Tryz.func64 rfl rfl Tryz.ntmps64 dA rfl<|mR<|mV<|mQ<|ng<|mR<|mP<|mP<|nD (p) ?_
 rintro _ _ ⟨rfl,rfl⟩;refine nV<|mP<|mO (oD rfl rfl)<|mQ<|oP rfl (λk=>?_)<|λk=>?_
 ·
  refine lT ?_;have l:c<4:=by
    by_cases h:c<4
    .exact h
    .rw[if_neg h]at k;simp at k
  rw[if_pos l,if_pos l];exact⟨rfl,a,e⟩
 ·
  have l:¬c<4:=λh=>by rw[if_pos h]at k;simp at k
  rw[if_neg l,if_neg l];have A:¬(s<4\/4000<s)/\(D.V.length - 1 - s.toNat) / 4=c:=by
    rw[vk]at j
    by_cases h:s<4\/4000<s
    .rw[if_pos h]at j;omega
    .rw[if_neg h]at j;exact⟨h,j⟩
  have B:∃ m:Nat,s=m:=⟨s.toNat,eu⟩;obtain⟨m,rfl⟩:=B;rw[aR]at A |-;have r:uB.length=512:=bi ..;obtain⟨Z,t⟩:=aa (uB);have u:=λi=>show DF D m (i+1)=(qH (DF D m i) (1+m+i*4) (qM uB 4)).1 from rfl
  have C:bv Z=List.replicate 512 (.int .u8 0):=by rw[<-t];kernel_rfl
  have v:=λi=>(TY (qM uB 4) (1+m+i*4) (PV (s:=m) ha i).1).1
  rw[t]at u r v;refine nL<|ny<|ng<|mR<|mP<|mP<|nD (q) ?_
  rintro _ _ ⟨rfl,rfl⟩;refine mP<|mQ<|oU ?_;refine qZ (α:=Nat) 0 (λi=>[(17, .int .i64 (i:Nat)),(16, .int .i64 (c:Int)),(0, .pointer (some ⟨g,0,none⟩)),(1, .int .i64 (m:Int))])
    (λi w'=>i<=c/\Two (DZ g (DF D m i)) Y lo L w'/\mX lo L w w') (λi=>c - i)
    ⟨rfl,rfl,rfl,rfl,rfl⟩ ⟨aC _,a,e⟩ ?_
  clear a e;rintro i f J ⟨K,a,e⟩;have o:=PV (s:=m) ha i;refine mR<|mO (pE rfl rfl)<|mQ<|ng<|oP rfl (λE=>?_)<|λE=>?_
  ·
   refine nL<|ny<|ng<|oU<|mR<|mP<|nV<|mP<|mP<|mP<|mO (Ae (bv Z) (by rw[C];kernel_rfl)) ?_
   have y:=BG a m i Z r eu eu (xZ o.1.short eu);rw[v i,if_pos rfl,<-u]at y;refine nD (y) ?_;rintro _ M ⟨rfl,a,F⟩;replace e:=e.lq F;refine nV<|mP<|mO (oD rfl rfl)<|mQ<|pJ rfl (eu)<|nL<|pW<|ny<|nM<|mO (om rfl rfl (Coup.nN eu))<|mP<|oH<|oO ⟨i+1,eu,⟨by go_num,rfl,rfl,rfl,rfl⟩,eu,a,e⟩
  ·
   have G:i=c:=by omega
   subst G;refine qP<|qL<|rf<|qX<|ny<|mR<|mP<|mP ?_
   have z:=ztC a (m:Int) ⟨eu,eu⟩ (o.1.weak eu);rw[o.2,show Aa D.V.length (m:Int)=true from decide_eq_true eu,if_pos rfl,if_pos rfl,aR]at z;refine nD (z) ?_;rintro _ N ⟨rfl,a,H⟩;replace e:=e.lq H;refine lQ ?_;exact⟨rfl,a,e⟩
end
theorem isA(c:Ch)(b:Nat)(n:Int)(w:World)(hb:row w b [.int .i64 n] 3):CQ 198 [.agg (rG c).toArray, .pointer (some ⟨b,0,none⟩)] w (λv w'=>v= .bool (decide (c.num=n))/\Below w.heap.size w w'):=by
 have a:=Below.refl w.heap.size w;refine nP (fn:=Tryz.f198) (rs:=[.tmp 3]) (n:=8) Tryz.func198 rfl rfl Tryz.ntmps198 dA rfl<|mR<|nz<|oV (rG c) rfl<|λg w2 h f e=>?_
 replace hb:=hb.new e;replace a:=a.acc e;refine mq ?_;exact⟨rfl,a⟩
theorem XG(c:Ch)(b:Nat)(n:Int)(w:World)(hb:row w b [.int .i64 n] 3):CQ 159 [.agg (rG c).toArray, .pointer (some ⟨b,0,none⟩)] w (λv w'=>v= .bool (decide (c.num=n))/\Below w.heap.size w w'):=by
 have a:=Below.refl w.heap.size w;refine nP (fn:=Tryz.f159) (rs:=[.tmp 3]) (n:=8) Tryz.func159 rfl rfl Tryz.ntmps159 dA rfl<|mR<|nz<|oV (rG c) rfl<|λg w2 h f e=>?_
 replace hb:=hb.new e;replace a:=a.acc e;refine mq ?_;exact⟨rfl,a⟩
def sj(R:Rec)(n:Int):Nat:=R.findIdx λc=>decide (c.num=n)
theorem f_{R:Rec}{n:Int}{i:Nat}{c:Ch}(h:R[i]?=some c)(hi:i<=sj R n)(hc:c.num=n):sj R n=i:=by
 obtain⟨g,a⟩:=aO.1 h
 by_cases e:i=sj R n
 .exact e.symm
 .have f:i<List.findIdx (λc:Ch=>decide (c.num=n)) R:=by
   have:i<sj R n:=by omega
   exact this
  have:=jr f;rw[a]at this;simp[hc]at this
theorem zrx{R:Rec}{n:Int}{i:Nat}{c:Ch}(h:R[i]?=some c)(hi:i<=sj R n)(hc:¬c.num=n):i+1<=sj R n:=by
 obtain⟨g,j⟩:=aO.1 h
 by_cases a:i=sj R n
 .exfalso
  have:=iE (p:=λc:Ch=>decide (c.num=n)) (xs:=R) (w:=by rw[<-show i=List.findIdx _ R from a];exact g);have e:R[sj R n]?=some c:=by rw[<-a];exact h
  have f:=(aO.1 e).2;unfold sj at f;rw[f]at this;simp[hc]at this
 .omega
theorem Dx(R:Rec)(hR:rT R)(p:Option Addr)(c m:Nat)(hm:m=R.length)(b:Nat)(n:Int)(w:World)(h:nC w p m 513 (pY R))(hb:row w b [.int .i64 n] 3):
   CQ 197 [.slice p m c, .func (.func 198) #[] #[.pointer (some ⟨b,0,none⟩)]] w (λv w'=>v= .int .i64 (if sj R n<m then(sj R n:Int)else -1)/\Below w.heap.size w w'):=by
 have a:=Below.refl w.heap.size w;have z:maxLen=9223372036854775807:=by decide
 have A:=h.max;refine mr ?_;refine qZ (α:=Nat) 0 (λk=>[(8, .int .i64 (k:Nat)),(7, .int .i64 (m:Nat)),(0, .slice p m c),(1, .func (.func 198) #[] #[.pointer (some ⟨b,0,none⟩)])]) (λk w'=>k<=m/\k<=sj R n/\Below w.heap.size w w') (λk=>m - k)
   ⟨rfl,rfl,rfl,rfl,rfl⟩ ⟨aC _,aC _,a⟩ ?_
 rintro i f q ⟨B,o,a⟩;refine mR<|mO (pE rfl rfl)<|mQ<|ng<|oP rfl (λr=>?_)<|λr=>?_
 ·
  refine lG ?_;have g:∃ j,R[i]?=some j:=⟨_,aI eu⟩;obtain⟨j,g⟩:=g;have s:=h.some eu;obtain⟨C,D,rfl,E⟩:=s;have t:=hb.new a;refine nM<|mP<|mP<|mP<|mO (rE (e:=164) (sz:=513) dA rfl rfl i eu eu)<|mO (ou rfl (Np (h.below a (ax _)) hR g))<|qi rfl (uA dA rfl rfl) (isA j b n q t) ?_
  rintro _ F ⟨rfl,u⟩;replace a:=a.acc u;refine mQ<|xm rfl (λl=>?_)<|λl=>?_
  ·
   refine lH ?_;have v:=f_ g o (of_decide_eq_true l);refine⟨?_,a⟩;rw[if_pos eu,v];rfl
  ·
   have y:=zrx g o (of_decide_eq_false l);refine nL<|pW<|ny<|nM<|mO (om rfl rfl (Coup.nN eu))<|mP<|oH<|oO ⟨i+1,eu,⟨rfl,rfl,rfl,rfl,rfl⟩,eu,y,a⟩
 ·
  obtain rfl:i=m:=by omega
  refine qP<|qL<|rf<|qX<|ny<|mR<|mV<|mQ<|nQ<|nR [_] ⟨rfl,trivial⟩<|⟨?_,a⟩
  rw[if_neg eu];rfl
theorem indexB(R:Rec)(hR:rT R)(p:Option Addr)(c m:Nat)(hm:m=R.length)(b:Nat)(n:Int)(w:World)(h:nC w p m 513 (pY R))(hb:row w b [.int .i64 n] 3):
   CQ 197 [.slice p m c, .func (.func 159) #[] #[.pointer (some ⟨b,0,none⟩)]] w (λv w'=>v= .int .i64 (if sj R n<m then(sj R n:Int)else -1)/\Below w.heap.size w w'):=by
 have a:=Below.refl w.heap.size w;have z:maxLen=9223372036854775807:=by decide
 have A:=h.max;refine mr ?_;refine qZ (α:=Nat) 0 (λk=>[(8, .int .i64 (k:Nat)),(7, .int .i64 (m:Nat)),(0, .slice p m c),(1, .func (.func 159) #[] #[.pointer (some ⟨b,0,none⟩)])]) (λk w'=>k<=m/\k<=sj R n/\Below w.heap.size w w') (λk=>m - k)
   ⟨rfl,rfl,rfl,rfl,rfl⟩ ⟨aC _,aC _,a⟩ ?_
 rintro i f q ⟨B,o,a⟩;refine mR<|mO (pE rfl rfl)<|mQ<|ng<|oP rfl (λr=>?_)<|λr=>?_
 ·
  refine lG ?_;have g:∃ j,R[i]?=some j:=⟨_,aI eu⟩;obtain⟨j,g⟩:=g;have s:=h.some eu;obtain⟨C,D,rfl,E⟩:=s;have t:=hb.new a;refine nM<|mP<|mP<|mP<|mO (rE (e:=164) (sz:=513) dA rfl rfl i eu eu)<|mO (ou rfl (Np (h.below a (ax _)) hR g))<|qi rfl (uA dA rfl rfl) (XG j b n q t) ?_
  rintro _ F ⟨rfl,u⟩;replace a:=a.acc u;refine mQ<|xm rfl (λl=>?_)<|λl=>?_
  ·
   refine lH ?_;have v:=f_ g o (of_decide_eq_true l);refine⟨?_,a⟩;rw[if_pos eu,v];rfl
  ·
   have y:=zrx g o (of_decide_eq_false l);refine nL<|pW<|ny<|nM<|mO (om rfl rfl (Coup.nN eu))<|mP<|oH<|oO ⟨i+1,eu,⟨rfl,rfl,rfl,rfl,rfl⟩,eu,y,a⟩
 ·
  obtain rfl:i=m:=by omega
  refine qP<|qL<|rf<|qX<|ny<|mR<|mV<|mQ<|nQ<|nR [_] ⟨rfl,trivial⟩<|⟨?_,a⟩
  rw[if_neg eu];rfl
end Go.Proofs.YtpaniebomegnbaaGreat
namespace Coup
open Go Go.RowKit Go.Maps
section
variable {P:Program}{ρ:Env}{w:World}{d:Option Nat}{ty:TypeId}{pos:String}{af:Array Edge}{gd:Option (Nat × Bool)}{K:Value->World->Prop}
theorem ZA {t k e:TypeId} {x:Operand} {m N:Nat} {f:Nat->Option Value} (ht:P.underlying t=some (.map k e)) (hm:MapAt P k w m N f) (hx:ev ρ x= .map (some m))
  (h:∀ w',MapAt P k w' m N (λ_=>none)->Only m w w'->K (.tuple #[]) w'):Mk P ρ w ⟨d, .call ⟨.builtin .clear,#[x],#[t]⟩,ty,pos,af,gd⟩ K:=by
 obtain⟨c,a,hb,F,i,j⟩:=hm;have e:=(aY.1 hb).1;refine⟨.tuple #[],Go.ChangeMaps.setBlock w m (.map #[] a),?_,h _ ⟨#[],a,?_,⟨ig,Go.MapKept.stamped_empty a,ig⟩,aC _,by rw[Uv];rfl⟩ (Va ⟨c,a,#[],a,hb,rfl⟩)⟩
 .have f:=Go.MapKept.run_getObj_map (P:=P) hb
  have g:=Go.MapKept.run_setObj_map (P:=P) (.map #[] a) hb;simp[execOp,resolve,invoke,builtin,Builtin.clear_,hx,run_underlying ht,f,g,Result.andThen,Go.ChangeMaps.setBlock]
 .simp[Go.ChangeMaps.setBlock,e]
theorem Tv{g o:Nat}{base e sz m c:Nat}{xs:List Value}(vs:List Value)(j:Nat)(hown:qI w base e sz g o m c xs)(hfit:j+vs.length<=xs.length):
  ∃ cur,row w g cur e/\o+j+vs.length<=cur.length/\∀ w',row w' g (splice cur (o+j) vs) e->qI w' base e sz g o m c (splice xs j vs):=by
 have v:=hown.1;rcases hown.2 with⟨l,_⟩|⟨y,z,A,cur,p,hb,q,f,r,B,s⟩
 .cases l
 .cases p
  have t:row w g cur.toList e:=by unfold row;simpa using q
  have C:m*sz<=c*sz:=cO _ f;have D:cur.toList.length=cur.size:=by simp
  refine⟨cur.toList,t,eu,λw' hr=>⟨?_,Or.inr ⟨g,o,c,(splice cur.toList (o+j) vs).toArray,rfl,hb,hr,f,r,?_,?_⟩⟩⟩
  .simp only[splice,aA,aH,aL];omega
  .simp only[splice,eT,aA,aH,aL];omega
  .rw[<-s]
   have u:((cur.toList.drop o).take (m*sz)).length=m*sz:=by rw[aH,aL];omega
   refine dV λi=>?_
   rw[bF,bD,OM eu,OM (by rw[u];omega),bF,bD]
   by_cases a:i<m*sz
   .rw[if_pos a]
    by_cases h:i<j
    .rw[if_pos eu,if_pos h,if_pos a]
    .rw[if_neg eu,if_neg h]
     by_cases k:i<j+vs.length
     .rw[if_pos eu,if_pos k];congr 1;omega
     .rw[if_neg eu,if_neg k,if_pos a]
   .rw[if_neg a,if_neg eu,if_neg eu,if_neg a]
theorem zln{z:Array Value}(hz:∀ v∈z.toList,v.oneCell'=true)(n:Nat):∀ v∈(Builtin.zeroCells z n).toList,v.oneCell'=true:=λv a=>by
 unfold Builtin.zeroCells at a;rw[Array.toList_map,bB]at a;obtain⟨i,c,rfl⟩:=a;have e:i<n*z.size:=by simpa using c
 have hp:0<z.size:=iA λf=>by rw[f,Nat.mul_zero]at e;omega
 have g:=Nat.mod_lt i hp;rw[getElem!_pos z (i % z.size) g];exact hz _ ig
theorem Uw {t e0:TypeId} {x:Operand} {z:Value} {g o base e sz m c k cc:Nat} {xs:List Value} (j:Nat) (ht:P.underlying t=some (.slice e0)) (hz:∀ w,(zeroValue e0).run P w= .ok z w) (hzs:z.cells.size=sz)
  (hz1:∀ v∈z.cells.toList,v.oneCell'=true) (hown:qI w base e sz g o m c xs) (hx:ev ρ x= .slice (some ⟨g,o+j*sz,none⟩) k cc) (hfit:j+k<=m)
  (h:∀ w' zs,zs.length=k*sz->qI w' base e sz g o m c (splice xs (j*sz) zs)->Only g w w'->K (.tuple #[]) w'):Mk P ρ w ⟨d, .call ⟨.builtin .clear,#[x],#[t]⟩,ty,pos,af,gd⟩ K:=by
 have s:=hown.1;have i:(j+k)*sz<=m*sz:=cO _ hfit;rw[cB]at i;cases k with
 |zero=>
  refine⟨.tuple #[],w,?_,h w [] ig ?_ ⟨rfl,rfl,rfl,rfl,λ_ _=>rfl⟩⟩
  .simp[execOp,resolve,invoke,builtin,Builtin.clear_,hx,run_underlying ht,Result.andThen]
  .have:splice xs (j*sz) []=xs:=by simp[splice]
   rw[this];exact hown
 |succ k=>
  have c:(Builtin.zeroCells z.cells (k+1)).toList.length=(k+1)*sz:=by rw[fH,size_zeroCells,hzs]
  have l:j*sz+(Builtin.zeroCells z.cells (k+1)).toList.length<=xs.length:=by rw[c];omega
  obtain⟨a,hr,p,q⟩:=Tv (Builtin.zeroCells z.cells (k+1)).toList (j*sz) hown l;have f:=run_storeCells_at P g (o+j*sz) e (Builtin.zeroCells z.cells (k+1)).toList 0 a.toArray w hr (by simpa using p) (zln hz1 _);refine⟨.tuple #[],_,?_,h (w.setRow g (splice a (o+j*sz) (Builtin.zeroCells z.cells (k+1)).toList).toArray) _ c (q _ (setRow_heap w g _ _ e _ hr)) (Only.setRow _)⟩;simp only[dD]at f;have r:(storeCells ⟨g,o+j*sz,none⟩ (Builtin.zeroCells z.cells (k+1)).toList).run P w= .ok () (w.setRow g (splice a (o+j*sz) (Builtin.zeroCells z.cells (k+1)).toList).toArray):=by simpa [splice]using f
  simp[execOp,resolve,invoke,builtin,Builtin.clear_,hx,run_underlying ht,hz,r,Result.andThen]
theorem zkt {t t' e base sz g o m n cap k c g1 o1:Nat} {s x:Operand} {ys news:List Value} (ht:P.underlying t=some (.slice e)) (ht':t'=t) (hsz:vM P e sz=true) (hs:ev ρ s= .slice (some ⟨g,o,none⟩) n cap)
  (hown:qI w base e sz g o m cap ys) (hx:ev ρ x= .slice (some ⟨g1,o1,none⟩) k c) (hsrc:nC w (some ⟨g1,o1,none⟩) k sz news) (h1:∀ u∈news,u.oneCell'=true) (hroom:n+k<=m)
  (h:∀ w',qI w' base e sz g o m cap (splice ys (n*sz) news)->Only g w w'->K (.slice (some ⟨g,o,none⟩) (n+k) cap) w'):Mk P ρ w ⟨d, .call ⟨.builtin .append,#[s,x],#[t,t']⟩,ty,pos,af,gd⟩ K:=by
 subst ht';obtain⟨i,l,p⟩:=Fy hsz;subst p;have q:=hsrc.len;have C:=hown.1;have r:(n+k)*i.size<=m*i.size:=cO _ hroom;rw[cB]at r;have f:m<=cap:=by
  rcases hown.2 with⟨s,_⟩|⟨D,E,F,a,t,hb,G,f,_⟩
  .cases s
  .cases t;exact f
 obtain⟨a,hr,v,y⟩:=Tv news (n*i.size) hown eu;have z:=Yi (P:=P) w t' ty e i ht l g o n cap a.toArray hr ⟨g1,o1,none⟩ k c news q (λj u A=>by rw[Addr.add_lit];exact hsrc.cell j A) h1 eu (by simpa using v);have B:(Builtin.append_ #[t',t'] ty #[.slice (some ⟨g,o,none⟩) n cap, .slice (some ⟨g1,o1,none⟩) k c]).run P w= .ok (.slice (some ⟨g,o,none⟩) (n+k) cap) (w.setRow g (splice a (o+n*i.size) news).toArray):=by simpa [splice]using z
 refine⟨_,w.setRow g (splice a (o+n*i.size) news).toArray,?_,h _ (y _ (setRow_heap w g _ _ e _ hr)) (Only.setRow _)⟩;simp[execOp,resolve,invoke,builtin,hs,hx,B,Result.andThen]
end
end Coup
namespace Go.Proofs.YtpaniebomegnbaaGreat
open Go Go.RowKit Coup
theorem Sq{w:World}{base e sz g o m n c:Nat}{xs:List Value}(h:qI w base e sz g o m c xs)(hn:n<=m):qI w base e sz g o n c (xs.take (n*sz)):=by
 have q:=h.1;have a:n*sz<=m*sz:=cO _ hn;refine⟨by rw[aH];omega,?_⟩;rcases h.2 with⟨hn,_⟩|⟨r,s,t,e,f,hb,i,j,k,l,p⟩
 .cases hn
 .cases f
  exact .inr ⟨g,o,c,e,rfl,hb,i,ag hn j,k,l,by rw[<-p,dL,bP a]⟩
theorem Ze{R:Rec}(h:rT R)(k:Nat):(pY R).take (k*513)=pY (R.take k):=by
 by_cases f:k<=R.length
 .have g:rT (R.take k):=λc i=>h c (fA i)
  have e:pY R=pY (R.take k)++pY (R.drop k):=by
   rw[pY,pY,pY,<-bO,bM]
  have a:=zV g;rw[aH,bP f]at a;rw[e,bJ a]
 .rw[aP (l:=R) eu,aP]
  rw[zV h];exact cO _ eu
theorem ztH{R:Rec}(h:rT R){i:Nat}{c:Ch}(hi:i<R.length)(hc:c.page.length=512):splice (pY R) (i*513) (rG c)=pY (R.set i c):=by
 have f:rT (R.take i):=λc hc=>h c (fA hc)
 have a:=zV f;rw[aH,bP eu]at a;have g:=Ba hc;have j:∀ k,(pY R).drop (k*513)=pY (R.drop k):=λk=>by
  by_cases m:k<=R.length
  .have o:rT (R.take k):=λc hc=>h c (fA hc)
   have e:pY R=pY (R.take k)++pY (R.drop k):=by
    rw[pY,pY,pY,<-bO,bM]
   have a:=zV o;rw[aH,bP m]at a;rw[e,fw a]
  .rw[dC (l:=R) eu,dC]
   .rfl
   .rw[zV h]
    exact cO _ eu
 have p:R.set i c=R.take i++(c::R.drop (i+1)):=jK.trans (by rw[if_pos hi]);unfold splice;rw[Ze h,g,show i*513+513=(i+1)*513 by omega,j,p];simp[pY]
def without(R:Rec)(n:Int):Rec:=R.filter λc=>!decide (c.num=n)
theorem zmr{R:Rec}{n:Int}(h:¬sj R n<R.length):without R n=R:=by
 refine iW.2 λc a=>?_
 have e:¬∃ x∈R,decide (x.num=n)=true:=λf=>h (List.findIdx_lt_length.2 f)
 cases hd:decide (c.num=n)with
 |false=>rfl
 |true=>exact absurd ⟨c,a,hd⟩ e
theorem zlo{R:Rec}{n:Int}(h:sj R n<R.length):R.take (sj R n)=without (R.take (sj R n+1)) n:=by
 have hp:decide ((R[sj R n]).num=n)=true:=iE (p:=λc:Ch=>decide (c.num=n)) (xs:=R) (w:=h);rw[bf,aI h,without,fD];have a:(R.take (sj R n)).filter (λc=>!decide (c.num=n))=R.take (sj R n):=by
  refine iW.2 λc e=>?_
  obtain⟨i,j,rfl⟩:=List.mem_take_iff_getElem.1 e;have f:i<List.findIdx (λc:Ch=>decide (c.num=n)) R:=by
   have:i<sj R n:=by omega
   exact this
  have g:=jr f;rw[g];rfl
 rw[a,gI,iG,hp];simp
theorem zms{R:Rec}{n:Int}{j:Nat}{c:Ch}(h:R[j]?=some c):without (R.take (j+1)) n=if c.num=n then without (R.take j) n else without (R.take j) n++[c]:=by
 rw[bf,h,without,fD,gI]
 by_cases a:c.num=n
 .rw[if_pos a];simp[without,a]
 .rw[if_neg a];simp[without,a]
theorem CB(w:World):(zeroValue 164).run Tryz.prog w= .ok (.agg (rG ⟨0,List.replicate 512 0⟩).toArray) w:=by kernel_rfl
theorem UL{xs zs:List Value}(a:Nat)(h:a<=xs.length):(splice xs a zs).take a=xs.take a:=by
 unfold splice
 first
  |rw[bJ kE]
  |rw[aG,bJ kE]
theorem LX{w:World}{base e sz g o m c:Nat}{xs:List Value}(h:qI w base e sz g o m c xs):m<=c:=by
 rcases h.2 with⟨a,_⟩|⟨f,g,i,j,c,hb,k,e,_⟩
 .cases a
 .cases c;exact e
theorem Gd(R:Rec)(hR:rT R)(g o m c base:Nat)(hm:m=R.length)(b:Nat)(n:Int)(w:World)(h:qI w base 164 513 g o m c (pY R))(hb:row w b [.int .i64 n] 3)(hbg:b≠g):
   CQ 158 [.slice (some ⟨g,o,none⟩) m c, .func (.func 159) #[] #[.pointer (some ⟨b,0,none⟩)]] w (λv w'=>v= .slice (some ⟨g,o,none⟩) (without R n).length c/\qI w' base 164 513 g o (without R n).length c (pY (without R n))/\sI [g] w w'):=by
 have p:=sI.refl [g] w;have a9:maxLen=9223372036854775807:=by decide
 have b0:=h.sl.max;obtain⟨q,t⟩:∃ q:Int,(if sj R n<m then(sj R n:Int)else -1)=q:=⟨_,rfl⟩;have J:=λw' (h:nC w' (some ⟨g,o,none⟩) m 513 (pY R)) (hb:row w' b [.int .i64 n] 3)=>indexB R hR (some ⟨g,o,none⟩) c m hm b n w' h hb
 simp only[t]at J;have b1:=h.lt;have b2:=LX h;have b3:=hb.lt;refine nP (fn:=Tryz.f158) (rs:=[.tmp 4]) (n:=42) Tryz.func158 rfl rfl Tryz.ntmps158 dA rfl<|mR<|nV<|mP<|mP<|nD (J w h.sl hb) ?_
 rintro _ b4 ⟨rfl,B⟩;replace p:=p.new B;replace h:=h.new B;replace hb:=hb.new B;refine mV<|mQ<|ng<|mR<|mP<|mO (qy rfl rfl)<|mQ<|oP rfl (λK=>?_)<|λK=>?_
 ·
  refine lT ?_;have S:¬sj R n<R.length:=λL=>by rw[if_pos eu]at t;omega
  rw[zmr S,<-hm];exact⟨rfl,h,p⟩
 ·
  have U:sj R n<R.length:=by
    by_cases L:sj R n<R.length
    .exact L
    .rw[if_neg eu]at t;exact absurd t.symm K
  rw[if_pos eu]at t;subst t;refine nL<|ny<|ng<|mR<|mP<|mO (om rfl rfl (Coup.nN eu))<|mV<|mQ<|oU ?_
  refine qZ (α:=Nat × Nat × Rec) (sj R n,sj R n+1,R) (λa=>[(5, .int .i64 (a.1:Nat)),(6, .int .i64 (a.2.1:Nat)),(0, .slice (some ⟨g,o,none⟩) m c),(1, .func (.func 159) #[] #[.pointer (some ⟨b,0,none⟩)])])
    (λa w'=>a.1<a.2.1/\a.2.1<=m/\a.2.2.length=m/\rT a.2.2/\(∀ k,a.2.1<=k->a.2.2[k]?=R[k]?)/\a.2.2.take a.1=without (R.take a.2.1) n/\qI w' base 164 513 g o m c (pY a.2.2)/\row w' b [.int .i64 n] 3/\sI [g] w w') (λa=>m - a.2.1)
    ⟨rfl,rfl,rfl,rfl,rfl⟩ ⟨gY _,by show sj R n+1<=m;omega,hm.symm,hR,λ_ _=>rfl,zlo U,h,hb,p⟩ ?_
  clear h hb p;rintro⟨i,j,T⟩ f b5 ⟨b6,b7,M,s,C,v,h,hb,p⟩;dsimp only at*;refine ng<|mR<|mP<|mP<|mO (oQ (e:=164) (sz:=513) dA rfl rfl)<|mO (pE rfl rfl)<|mQ<|oP rfl (λV=>?_)<|λV=>?_
  ·
   refine lF ?_;have X:∃ r,R[j]?=some r:=⟨_,aI eu⟩;obtain⟨r,D⟩:=X;have Y:=(C j (ax _)).trans D;have E:=hR r (aN D);have y:=zms (n:=n) D;have Z:=Ba E;have a0:=DK r;have b8:=p.k.size;refine nM<|mP<|mP<|mO (rE (e:=164) (sz:=513) dA rfl rfl j eu eu)<|mO (ou rfl (Np h.sl s Y))<|nz<|nU (([Value.int .i64 0])++(List.replicate 512 (Value.int .u8 0))) dA<|λN b9 O u F=>?_
   have a1:g<N:=ae h.lt O;have a2:b<N:=ae hb.lt O;replace p:=p.new F;replace h:=h.new F;replace hb:=hb.new F;refine nH<|nT 513 (rG r) u<|λa3 u G=>?_
   replace p:=p.only G iB;replace h:=h.only G (ai a1);replace hb:=hb.only G (ai a2);refine pV<|mP<|mO (oI 513 u)<|qi rfl (uA dA rfl rfl) (XG r b n a3 hb) ?_
   rintro _ c4 ⟨rfl,z⟩;replace p:=p.new z;replace h:=h.new z;replace hb:=hb.new z;replace u:=u.new z;refine mO (sD rfl)<|mQ<|MU rfl (λH=>?_)<|λH=>?_
   ·
    refine ng ?_;have I:¬r.num=n:=by simpa using H
    rw[if_neg I]at y;have c5:=zV s;have a4:=ztH s (i:=i) (c:=r) eu E;refine nM<|mP<|mP<|mO (oI 513 u)<|mO (rE (e:=164) (sz:=513) dA rfl rfl (i) eu eu)<|nH<|Jg (rG r) (i*513) h rfl rfl (by rw[Z];kernel_rfl) kH a0<|λc6 h P=>?_
    replace p:=p.only P iB;replace hb:=hb.only P eu;rw[a4]at h;refine mQ<|nM<|mP<|mO (om rfl rfl (Coup.nN eu))<|mV<|oH<|pW<|ny<|nM<|mP<|mO (om rfl rfl (Coup.nN eu))<|mV<|oH<|oO ⟨(i+1,j+1,T.set i r),by show m - (j+1)<m - j;omega,⟨by go_num,by go_num,rfl,rfl,rfl⟩,by show i+1<j+1;omega,by show j+1<=m;omega,by show(T.set i r).length=m;rw[bq];exact M,?_,?_,?_,h,hb,p⟩
    .intro c a5
     rcases iJ a5 with e|e
     .exact s c e
     .rw[e];exact E
    .intro k A
     show(T.set i r)[k]?=_;rw[eO,if_neg (by have:j+1<=k:=A;omega)];exact C k<|ag (Nat.le_succ _) A
    .show(T.set i r).take (i+1)=without (R.take (j+1)) n
     rw[y,<-v,bf,eO,if_pos rfl,if_pos eu,List.take_set_of_le (ax _)];rfl
   ·
    have I:r.num=n:=by simpa using H
    rw[if_pos I]at y;refine nL<|pW<|ny<|nM<|mP<|mO (om rfl rfl (Coup.nN eu))<|mV<|oH<|oO ⟨(i,j+1,T),by show m - (j+1)<m - j;omega,⟨rfl,by go_num,rfl,rfl,rfl⟩,by show i<j+1;omega,by show j+1<=m;omega,M,s,λk A=>C k (ag (Nat.le_succ _) A),v.trans y.symm,h,hb,p⟩
  ·
   obtain rfl:j=m:=by omega
   rw[aP (l:=R) eu]at v;have a6:(without R n).length=i:=by rw[<-v,aH];omega
   have a7:=DK ⟨0,List.replicate 512 0⟩;refine qP<|qL<|rf<|qX<|ny<|mR<|mP<|mP<|mO (wL (e:=164) (sz:=513) (i) (j) (c) (j - i) dA rfl ⟨_,_,rfl,eu⟩ rfl rfl ig eu eu eu eu eu)<|nz<|Uw (e0:=164) (i) dA CB dA a7 h rfl eu<|λc7 c8 c9 h a8=>?_
   replace p:=p.only a8 iB;refine pV<|mP<|mP<|mO (wL (e:=164) (sz:=513) (0) (i) (c) (i) dA rfl rfl ⟨_,_,rfl,eu⟩ rfl ig eu eu eu eu eu)<|mV<|mQ<|nQ<|nR [_] ⟨rfl,trivial⟩ ?_
   have Q:=Sq h (n:=i) eu;rw[UL _ (by rw[zV s];exact cO _ eu),Ze s,v]at Q;rw[a6];exact⟨rfl,Q,p⟩
theorem zry{R:Rec}(h:rT R)(k:Nat):(pY R).drop (k*513)=pY (R.drop k):=by
 by_cases f:k<=R.length
 .have g:rT (R.take k):=λc i=>h c (fA i)
  have e:pY R=pY (R.take k)++pY (R.drop k):=by
   rw[pY,pY,pY,<-bO,bM]
  have a:=zV g;rw[aH,bP f]at a;rw[e,fw a]
 .rw[dC (l:=R) eu,dC]
  .rfl
  .rw[zV h]
   exact cO _ eu
theorem zmt{l n:List Value}:(splice l 0 n).take n.length=n:=by simp[splice]
theorem znJ{l n:List Value}(h:n.length<=l.length):(splice l (0*513) n).length=l.length:=by
 simp[splice];omega
theorem FR(R:Rec)(hR:rT R)(g o m c base:Nat)(hm:m=R.length)(h2:2<=m)(w:World)(h:qI w base 164 513 g o m c (pY R)):
  CQ 240 [.slice (some ⟨g,o,none⟩) m c, .int .i64 0, .int .i64 1] w (λv w'=>v= .slice (some ⟨g,o,none⟩) (R.drop 1).length c/\qI w' base 164 513 g o (R.drop 1).length c (pY (R.drop 1))/\sI [g] w w'):=by
 have a:=sI.refl [g] w;have z:maxLen=9223372036854775807:=by decide
 have A:=h.sl.max;have B:=h.lt;have C:=LX h;have r:=λw' (h:qI w' base 164 513 g o m c (pY R))=>(show nC w' (some ⟨g,o+1*513,none⟩) (m - 1) 513 (pY (R.drop 1))from by
  have i:=h.sl.sub 1 (m - 1) eu;rw[zry hR 1,aP]at i
  .exact i
  .rw[zV (λc f=>hR c (ek f)),aL,<-hm];exact ax _)
 have j:(R.drop 1).length=m - 1:=by rw[aL,hm]
 have s:=ztx (R.drop 1);have t:=DK ⟨0,List.replicate 512 0⟩;refine nP (fn:=Tryz.f240) (rs:=[.tmp 6]) (n:=33) Tryz.func240 rfl rfl Tryz.ntmps240 dA rfl<|mR<|nV<|mP<|mP<|mP<|mP<|mO (oQ (e:=164) (sz:=513) dA rfl rfl)<|mO (wL (e:=164) (sz:=513) (0) (1) (m) (1) dA rfl ⟨_,_,rfl,eu⟩ ⟨_,_,rfl,eu⟩ ⟨_,_,rfl,eu⟩ ig eu eu eu eu eu)<|mQ<|ng<|mR<|mP<|mP<|mO (qy rfl rfl)<|mQ<|pJ rfl (eu)<|nL<|ny<|mR<|mP<|mO (oQ (e:=164) (sz:=513) dA rfl rfl)<|mV<|mQ<|ng<|qz [g] dA ?_
 intro D k u;replace a:=a.new k;replace h:=h.new k;refine mU 0 (nK)<|mU 1 (nK)<|mU 2 (wL (e:=164) (sz:=513) (0) (0) (c) (0) dA rfl rfl ⟨_,_,rfl,eu⟩ rfl ig eu eu eu eu eu)<|mU 3 (nK)<|mU 4 (nK)<|mU 5 (wL (e:=164) (sz:=513) (1) (m) (c) (m - 1) dA rfl ⟨_,_,rfl,eu⟩ rfl rfl ig eu eu eu eu eu)<|nS 6 dA<|qJ rfl rfl<|zkt (e:=164) (sz:=513) dA rfl dA rfl h rfl (r _ h) s eu<|λE h l=>?_
 have v:=u.aq l;refine⟨v,?_⟩;replace a:=a.only l iB;refine mU 7 (rA)<|oL dA<|ny<|mR<|mP<|mP<|mO (oQ (e:=164) (sz:=513) dA rfl rfl)<|mP<|mO (wL (e:=164) (sz:=513) (m - 1) (m) (c) (1) dA rfl ⟨_,_,rfl,eu⟩ ⟨_,_,rfl,eu⟩ rfl ig eu eu eu eu eu)<|nz<|Uw (e0:=164) ((m - 1)) dA CB dA t h rfl eu<|λF G H h y=>?_
 replace a:=a.only y iB;refine mD ?_;have p:=Sq h (n:=m - 1) eu;have q:=zV (λc f=>hR c (ek f):rT (R.drop 1));rw[j]at q;have I:=zV hR;rw[UL _ (by rw[znJ eu];omega),bZ,dD,fV,<-q,zmt]at p;rw[j];exact⟨by show Value.slice (some ⟨g,o+0*513,none⟩) (0+(m - 1)) (c - 0)=_;rw[bZ,dD,bg,fV],p,a⟩
end Go.Proofs.YtpaniebomegnbaaGreat
namespace Go.Proofs
open Go.Shelf
def Tryz.XJ:Go.Shelf.Ren:=⟨fun|7=>208|10=>244|n=>n,fun|23=>129|26=>3|3=>121|28=>287|0=>0|27=>286|33=>261|4=>4|n=>n,fun|n=>n⟩
theorem Tryz.Bq:Go.Proofs.SlLaysZI.n7 Tryz.prog Tryz.XJ:={
 mixed:=by kernel_rfl
 f7:=⟨Tryz.f208.name,iT,Tryz.func208.trans (congrArg some dA)⟩
 f10:=⟨Tryz.f244.name,iT,Tryz.func244.trans (congrArg some dA)⟩
 t0:=Tryz.underlying0
 a0:=Tryz.isAgg0
 z0:=Tryz.sizeOf0
 v0:=Tryz.zeroValue0
 t4:=Tryz.underlying4
 a4:=Tryz.isAgg4
 z4:=Tryz.sizeOf4
 v4:=Tryz.zeroValue4
 t23:=Tryz.underlying129
 a23:=Tryz.isAgg129
 z23:=Tryz.sizeOf129
 v23:=Tryz.zeroValue129
 t26:=Tryz.underlying3
 a26:=Tryz.isAgg3
 z26:=Tryz.sizeOf3
 v26:=Tryz.zeroValue3
 t27:=Tryz.underlying286
 a27:=Tryz.isAgg286
 z27:=Tryz.sizeOf286
 v27:=Tryz.zeroValue286
 t28:=Tryz.underlying287
 a28:=Tryz.isAgg287
 z28:=Tryz.sizeOf287
 v28:=Tryz.zeroValue287
 t33:=Tryz.underlying261
 a33:=Tryz.isAgg261
 z33:=Tryz.sizeOf261
 v33:=Tryz.zeroValue261}
end Go.Proofs
namespace Go.Proofs.YtpaniebomegnbaaGreat
open Go Go.RowKit Go.Maps Go.Sort Go.Shelf Coup
theorem MG(mb:Option Nat)(w:World):CQ 208 [.map mb] w (λv w'=>v= .func (.func 244) #[] #[.pointer (some ⟨w.heap.size,0,none⟩)]/\w'=w.alloc (.cells #[.map mb] 129)/\Below w.heap.size w w'):=by
 have a:CallsIn Fence.wide 5 Tryz.prog 208 #[.map mb] w λe w'=>e= .returned (.func (.func 244) #[] #[.pointer (some ⟨w.heap.size,0,none⟩)])/\w'=w.alloc (.cells #[.map mb] 129):=AnyZI.keys_in Tryz.Bq Fence.wide 5 trivial rfl mb w
 refine(callsIn_wide.1 a).mono ?_;rintro e w' ⟨rfl,rfl⟩;exact⟨_,rfl,rfl,rfl,(Below.refl _ w).alloc (ax _) _⟩
theorem ztI{b N:Nat}{f:Nat->Option Value}(w W:World)(hW:W=w.alloc (.cells #[.map (some b)] 129))(h:MapAt Tryz.prog 3 w b N f)(hN:N<=1000000):
  CQ 207 [.func (.func 244) #[] #[.pointer (some ⟨w.heap.size,0,none⟩)]] W (λv w'=>∃ p c,v= .slice p (keysOf f 0 N).length c/\nC w' p (keysOf f 0 N).length 1 (iv (keysOf f 0 N))/\(∀ b o,p=some ⟨b,o,none⟩->W.heap.size<=b)/\Below W.heap.size W w'):=by
 subst hW;have l:=h.lt;have m:=SA f N 0;have A:maxLen=9223372036854775807:=by decide
 have B:Maps.size (DataW.map (qF f 0 N))<=N:=m;have q:(w.alloc (.cells #[.map (some b)] 129)).ownsMap Tryz.prog 3 RH b N (.map (qF f 0 N)):=by
  obtain⟨r,s,hb,Ft,t,u⟩:=h;exact⟨r,s,(Below.heap_alloc _ _ b l).trans hb,Ft,t,u⟩
 have y:SeqGives Fence.wide 2 Tryz.prog 244 #[.pointer (some ⟨w.heap.size,0,none⟩)] encZ (λa=>a.Perm (intKeys (DataW.map (qF f 0 N)))) (Maps.size (DataW.map (qF f 0 N))) (w.alloc (.cells #[.map (some b)] 129)):=
  AnyZI.keys_gives (ρ:=Tryz.XJ) {Tryz.Bq with} Fence.wide _ trivial rfl eu w.heap.size b N _ _ ig ig q
 have i:=AnyZI.sorted_in Tryz.XP Fence.wide 5 trivial trivial trivial trivial rfl eu (Dj _) (enters_of Tryz.func55 dA rfl) 244 #[.pointer (some ⟨w.heap.size,0,none⟩)] trivial (enters_of Tryz.func244 dA rfl) _ _ eu eu _ y
 change CallsIn _ _ Tryz.prog 207 _ _ _ at i
 refine(callsIn_wide.1 i).mono ?_;rintro e w' ⟨v,a,rfl,j,k,C,hb⟩;have z:a.length=(keysOf f 0 N).length:=by rw[<-Sz,j.length_eq]
 rw[Zr f N 0 j,z]at k;have g:=RS k;obtain⟨p,c,rfl⟩:=g.form;exact⟨_,rfl,p,c,rfl,g.sl,λb o e=>(g.lt b kQ).1,hb⟩
end Go.Proofs.YtpaniebomegnbaaGreat
namespace Go.Proofs.YtpaniebomegnbaaGreat
open Go Go.RowKit Coup
theorem Il{m N:Nat}{f:Nat->Option Value}(w:World)(h:MapAt Tryz.prog 3 w m N f)(hN:N<=1000000):
  CQ 149 [.map (some m)] w (λv w'=>(∃ p c,v= .slice p (keysOf f 0 N).length c/\nC w' p (keysOf f 0 N).length 1 (iv (keysOf f 0 N))/\∀ b o,p=some ⟨b,o,none⟩->w.heap.size<=b)/\Below w.heap.size w w'):=by
 have a:=Below.refl w.heap.size w;have g:=λw' W i (j:MapAt Tryz.prog 3 w' m N f)=>ztI w' W i j hN
 refine nP (fn:=Tryz.f149) (rs:=[.tmp 2]) (n:=6) Tryz.func149 rfl rfl Tryz.ntmps149 dA rfl<|mR<|nV<|mP<|nD (MG (some m) w) ?_
 rintro _ k ⟨rfl,l,q⟩;replace a:=a.acc q;have r:=a.size;refine nD (g w k l h) ?_;rintro _ v ⟨p,c,rfl,s,t,u⟩;replace a:=a.acc u;refine lQ ?_;exact⟨⟨p,c,rfl,s,λb o e=>ag r (t b o e)⟩,a⟩
abbrev Pg:=List UInt8
abbrev sH:=Nat->Option Pg
def VR(b:Pg):Value:=.agg (bv b).toArray
def ru(c:sH):Nat->Option Value:=λi=>(c i).map VR
def uJ(c:sH)(i:Nat)(v:Option Pg):sH:=λj=>if j=i then v else c j
def xx:sH:=λ_=>none
theorem a_(c:sH)(i:Nat)(v:Option Pg):vF (ru c) i (v.map VR)=ru (uJ c i v):=by
 funext j
 unfold vF ru uJ
 split<;>rfl
theorem Rn(c:sH)(i:Nat)(b:Pg):vF (ru c) i (some (.agg (bv b).toArray))=ru (uJ c i (some b)):=a_ c i (some b)
theorem zrz(c:sH)(i:Nat):vF (ru c) i none=ru (uJ c i none):=a_ c i none
structure Pl where
 D:Dk
 G:Lg
 fr:Nat
 ch:sH
 di:sH
 cl:Rec
 dead:Bool
def Pl.n(P:Pl):Nat:=vk P.D.V.length P.G.size
structure xD(P:Pl):Prop where
 lg:AO P.D P.G
 n4:4<=P.n
 fr2:2<=P.fr
 frm:P.fr<=100
 ch:∀ i b,P.ch i=some b->b.length=512
 di:∀ i b,P.di i=some b->b.length=512
 cl:rT P.cl
 cll:P.cl.length<=P.fr
def tF(g x s f mc md:Nat)(rv:Value)(dead:Bool):List Value:=[.pointer (some ⟨g,0,none⟩), .pointer (some ⟨x,0,none⟩), .int .i64 (s:Int), .int .i64 (f:Int), .map (some mc), .map (some md),rv, .bool dead]
structure oJ(g x q mc md:Nat)(rv cv:Value)(Y:World->List Nat->Prop)(lo:Nat)(L:List Nat)(P:Pl)(w:World):Prop where
 lg:rF g x Y lo (cv.ownBlock.toList++q::mc::md::L) P.D P.G w
 row:row w q (tF g x P.G.size P.fr mc md rv P.dead) 162
 mch:MapAt Tryz.prog 3 w mc P.n (ru P.ch)
 mdi:MapAt Tryz.prog 3 w md P.n (ru P.di)
 own:nY w 0 164 513 cv P.cl.length (pY P.cl)
 qm:q≠mc
 qd:q≠md
 md':mc≠md
 cq:∀ b∈cv.ownBlock.toList,b≠q/\b≠mc/\b≠md/\lo<=b/\b∉L
 ql:lo<=q/\q∉L
 mcl:lo<=mc/\mc∉L
 mdl:lo<=md/\md∉L
def PZ(q:Nat)(P:Pl):World->List Nat->Prop:=λw B=>∃ g x mc md cv a,B=a++(x::(cv.ownBlock.toList++[q,mc,md]))/\xA w g a P.D/\Coup.row w x (DR g P.G) 231/\
 Coup.row w q (tF g x P.G.size P.fr mc md cv P.dead) 162/\MapAt Tryz.prog 3 w mc P.n (ru P.ch)/\MapAt Tryz.prog 3 w md P.n (ru P.di)/\nY w 0 164 513 cv P.cl.length (pY P.cl)/\
 (∀ b∈a,b∉(x::(cv.ownBlock.toList++[q,mc,md])))/\x∉cv.ownBlock.toList++[q,mc,md]/\q≠mc/\q≠md/\mc≠md/\∀ b∈cv.ownBlock.toList,b≠q/\b≠mc/\b≠md
instance(q:Nat)(P:Pl):mW (PZ q P):=
 ⟨fun {w w' B M} ⟨g,x,mc,md,cv,m,e,c,f,h,i,j,l,o⟩ k a=>by
   subst e;exact⟨g,x,mc,md,cv,m,rfl,c.nu k λb hb=>a b jP,f.nu k (a x ig),h.nu k (a q ig),i.nu k (a mc ig),j.nu k (a md ig),l.nu k (λb hb e=>a b kw hb),o⟩,
  fun {w B} ⟨g,x,mc,md,cv,m,e,c,f,h,i,j,l,o⟩ b hb=>by
   subst e;simp only[ay,ak,bu,or_false]at hb;rcases hb with hb|rfl|hb|rfl|rfl|rfl
   .exact c.lt b hb
   .exact f.lt
   .exact(l.lt b (ah.1 hb)).2
   .exact h.lt
   .exact i.lt
   .exact j.lt⟩
section
variable {Y:World->List Nat->Prop}{g x q mc md lo gc:Nat}{rv cv cv2:Value}{L L2 M:List Nat}{P:Pl}{w w':World}
theorem Nf(h:Two (PZ q P) Y lo L w):∃ g x mc md cv,oJ g x q mc md cv cv Y lo L P w:=by
 obtain⟨⟨B,C,⟨g,x,mc,md,cv,y,e,z,r,s,t,u,v,A,i,D,E,F,j⟩,G,c,w⟩,H,I⟩:=h;subst e;have k:=c x ig;have l:=c q ig;have m:=c mc ig;have o:=c md ig;have p:=λb (hb:b∈cv.ownBlock.toList)=>c b jP
 refine⟨g,x,mc,md,cv,⟨⟨⟨y,C,z,G,λb hb=>⟨(c b jP).1,(c b jP).2.1,λa=>?_⟩,λb hb=>⟨(w b hb).1,λa=>?_⟩⟩,H,λb a=>?_⟩,r,k.1,λa=>?_⟩,s,t,u,v,D,E,F,λb hb=>⟨(j b hb).1,(j b hb).2.1,(j b hb).2.2,(p b hb).1,(p b hb).2.2⟩,⟨l.1,l.2.2⟩,⟨m.1,m.2.2⟩,⟨o.1,o.2.2⟩⟩
 .have f:=A b hb
  have J:=(c b jP).2.2;simp only[ak,ay,bu,or_false,not_or]at f a;rcases a with rfl|a|rfl|rfl|rfl|a
  .exact f.1 rfl
  .exact f.2.1 a
  .exact f.2.2.1 rfl
  .exact f.2.2.2.1 rfl
  .exact f.2.2.2.2 rfl
  .exact J a
 .simp only[ak,ay]at a
  rcases a with rfl|a|rfl|rfl|rfl|a
  .exact k.2.1 hb
  .exact(p b a).2.1 hb
  .exact l.2.1 hb
  .exact m.2.1 hb
  .exact o.2.1 hb
  .exact(w b hb).2 a
 .simp only[ak,ay]at a
  rcases a with rfl|a|rfl|rfl|rfl|a
  .exact r.lt
  .exact(v.lt b (ah.1 a)).2
  .exact s.lt
  .exact t.lt
  .exact u.lt
  .exact I b a
 .simp only[ak,ay,bu,or_false,not_or]at i a
  rcases a with a|rfl|rfl|rfl|a
  .exact i.1 a
  .exact i.2.1 rfl
  .exact i.2.2.1 rfl
  .exact i.2.2.2 rfl
  .exact k.2.2 a
theorem Yh(h:oJ g x q mc md cv cv Y lo L P w):Two (PZ q P) Y lo L w:=by
 obtain⟨⟨⟨⟨p,C,r,s,i,j⟩,t,u⟩,v,w,e⟩,y,z,A,B,D,E,F,f,k,a,l⟩:=h;have m:∀ b,b∈C->b∉x::(cv.ownBlock.toList++q::mc::md::L):=λb hb=>(j b hb).2
 have o:x∉cv.ownBlock.toList++[q,mc,md]/\x∉L:=by
  simp only[ay,ak,not_or]at e;simp only[ay,ak,not_or,bu,not_false_eq_true,and_true];exact⟨⟨e.1,e.2.1,e.2.2.1,e.2.2.2.1⟩,e.2.2.2.2⟩
 refine⟨⟨_,C,⟨g,x,mc,md,cv,p,rfl,r,v,y,z,A,B,λb hb a=>(i b hb).2.2 ?_,o.1,D,E,F,λb hb=>⟨(f b hb).1,(f b hb).2.1,(f b hb).2.2.1⟩⟩,s,λb hb=>?_,λb hb=>⟨(j b hb).1,λa=>m b hb kr⟩⟩,t,λb hb=>u b jP⟩
 .simp only[ay,ak,bu,or_false]at a |-
  rcases a with a|a|a|a|a
  .exact .inl a
  .exact .inr<|.inl a
  .exact .inr<|.inr<|.inl a
  .exact .inr<|.inr<|.inr<|.inl a
  .exact .inr<|.inr<|.inr<|.inr<|.inl a
 .have c:∀ b,b∈x::(cv.ownBlock.toList++q::mc::md::L)->b∉C:=λb a c=>m b c a
  simp only[ay,ak,bu,or_false]at hb;rcases hb with hb|rfl|hb|rfl|rfl|rfl
  .exact⟨(i b hb).1,(i b hb).2.1,λa=>(i b hb).2.2 kr⟩
  .exact⟨w,c _ ig,o.2⟩
  .exact⟨(f b hb).2.2.2.1,c _ jP,(f b hb).2.2.2.2⟩
  .exact⟨k.1,c _ ig,k.2⟩
  .exact⟨a.1,c _ ig,a.2⟩
  .exact⟨l.1,c _ ig,l.2⟩
namespace oJ
theorem lo'(h:oJ g x q mc md rv cv Y lo L P w):lo<=w.heap.size:=h.lg.two.lo
theorem Qk(h:oJ g x q mc md rv cv Y lo L P w):q<w.heap.size/\mc<w.heap.size/\md<w.heap.size:=⟨h.row.lt,h.mch.lt,h.mdi.lt⟩
theorem UK(h:oJ g x q mc md rv cv Y lo L P w):∀ b∈L,b<w.heap.size:=λb hb=>h.lg.two.lt b jP
theorem nu [hY:mW Y](h:oJ g x q mc md rv cv Y lo L P w)(k:Kp M w w')(hM:∀ b∈M,b<lo\/b∈L):oJ g x q mc md rv cv Y lo L P w':=by
 have a:∀ b,lo<=b/\b∉L->b∉M:=λb hb c=>(hM b c).elim (λf=>absurd hb.1 (dN.2 f)) hb.2
 exact⟨h.lg.nu k λb hb=>(hM b hb).imp id λc=>by simp[c],h.row.nu k (a q h.ql),h.mch.nu k (a mc h.mcl),h.mdi.nu k (a md h.mdl),h.own.nu k λb hb e=>a b (h.cq b kw).2.2.2 hb,h.qm,h.qd,h.md',h.cq,h.ql,h.mcl,h.mdl⟩
theorem new [hY:mW Y](h:oJ g x q mc md rv cv Y lo L P w)(hb:Below w.heap.size w w'):oJ g x q mc md rv cv Y lo L P w':=h.nu (M:=[]) (Kp.of_below hb) ig
theorem only[hY:mW Y](h:oJ g x q mc md rv cv Y lo L P w)(ho:Only gc w w')(hg:gc<lo\/gc∈L):oJ g x q mc md rv cv Y lo L P w':=h.nu (Kp.rC ho) λb hb=>by rw[aM.1 hb];exact hg
theorem weak(h:oJ g x q mc md rv cv Y lo L P w)(h2:∀ b∈L2,b∈L):oJ g x q mc md rv cv Y lo L2 P w:=
 ⟨h.lg.weak λb hb=>by
  simp only[ay,ak]at hb |-;rcases hb with a|a|a|a|a
  .exact .inl a
  .exact .inr<|.inl a
  .exact .inr<|.inr<|.inl a
  .exact .inr<|.inr<|.inr<|.inl a
  .exact .inr (.inr (.inr (.inr (h2 b a)))),h.row,h.mch,h.mdi,h.own,h.qm,h.qd,h.md',λb hb=>⟨(h.cq b hb).1,(h.cq b hb).2.1,(h.cq b hb).2.2.1,(h.cq b hb).2.2.2.1,λa=>(h.cq b hb).2.2.2.2 (h2 b a)⟩,⟨h.ql.1,λa=>h.ql.2 (h2 _ a)⟩,⟨h.mcl.1,λa=>h.mcl.2 (h2 _ a)⟩,⟨h.mdl.1,λa=>h.mdl.2 (h2 _ a)⟩⟩
theorem nA [hY:mW Y](h:oJ g x q mc md rv cv Y lo L P w)(hb:Below w.heap.size w w')(hg:w.heap.size<=gc)(hg':gc<w'.heap.size):oJ g x q mc md rv cv Y lo (gc::L) P w':=by
 have c:=h.new hb;have e:=h.Qk;refine⟨(h.lg.nA hb hg hg').weak λb hb=>?_,c.row,c.mch,c.mdi,c.own,h.qm,h.qd,h.md',λb hb=>⟨(h.cq b hb).1,(h.cq b hb).2.1,(h.cq b hb).2.2.1,(h.cq b hb).2.2.2.1,λa=>?_⟩,⟨h.ql.1,λa=>?_⟩,⟨h.mcl.1,λa=>?_⟩,⟨h.mdl.1,λa=>?_⟩⟩
 .simp only[ay,ak]at hb |-
  rcases hb with a|a|a|a|a|a
  .exact .inr<|.inl a
  .exact .inr<|.inr<|.inl a
  .exact .inr<|.inr<|.inr<|.inl a
  .exact .inr<|.inr<|.inr<|.inr<|.inl a
  .exact .inl a
  .exact .inr<|.inr<|.inr<|.inr<|.inr a
 .rcases ak.1 a with rfl|a
  .have:=(h.own.lt b (ah.1 hb)).2;omega
  .exact(h.cq b hb).2.2.2.2 a
 .rcases ak.1 a with rfl|a
  .omega
  .exact h.ql.2 a
 .rcases ak.1 a with rfl|a
  .omega
  .exact h.mcl.2 a
 .rcases ak.1 a with rfl|a
  .omega
  .exact h.mdl.2 a
theorem xne(h:oJ g x q mc md rv cv Y lo L P w):x≠q/\x≠mc/\x≠md/\x∉cv.ownBlock.toList/\x∉L:=by
 have a:=h.lg.ni;simp only[ay,ak,not_or]at a;exact⟨a.2.1,a.2.2.1,a.2.2.2.1,a.1,a.2.2.2.2⟩
theorem setRow [hY:mW Y]{rv2:Value}{b:Bool}(h:oJ g x q mc md rv cv Y lo L P w)(hr:Coup.row w' q (tF g x P.G.size P.fr mc md rv2 b) 162)(ho:Only q w w'):oJ g x q mc md rv2 cv Y lo L {P with dead:=b} w':=
 ⟨h.lg.only ho (.inr ig),hr,h.mch.only ho (bW h.qm),h.mdi.only ho (bW h.qd),h.own.nu (Kp.rC ho) (λb hb e=>by rw[aM.1 hb]at e;exact(h.cq q kw).1 rfl),h.qm,h.qd,h.md',h.cq,h.ql,h.mcl,h.mdl⟩
theorem QO [hY:mW Y]{c:sH}(h:oJ g x q mc md rv cv Y lo L P w)(hr:MapAt Tryz.prog 3 w' mc P.n (ru c))(ho:Only mc w w'):oJ g x q mc md rv cv Y lo L {P with ch:=c} w':=
 ⟨h.lg.only ho (.inr ig),h.row.only ho h.qm,hr,h.mdi.only ho (bW h.md'),h.own.nu (Kp.rC ho) (λb hb e=>by rw[aM.1 hb]at e;exact(h.cq mc kw).2.1 rfl),h.qm,h.qd,h.md',h.cq,h.ql,h.mcl,h.mdl⟩
theorem Dy [hY:mW Y]{c:sH}(h:oJ g x q mc md rv cv Y lo L P w)(hr:MapAt Tryz.prog 3 w' md P.n (ru c))(ho:Only md w w'):oJ g x q mc md rv cv Y lo L {P with di:=c} w':=
 ⟨h.lg.only ho (.inr ig),h.row.only ho h.qd,h.mch.only ho h.md',hr,h.own.nu (Kp.rC ho) (λb hb e=>by rw[aM.1 hb]at e;exact(h.cq md kw).2.2.1 rfl),h.qm,h.qd,h.md',h.cq,h.ql,h.mcl,h.mdl⟩
theorem Re [hY:mW Y]{R:Rec}(h:oJ g x q mc md rv cv Y lo L P w)(hv:nY w' 0 164 513 cv2 R.length (pY R))(k:Kp cv.ownBlock.toList w w')(hf:∀ b,cv2.ownBlock=some b->cv.ownBlock=some b\/w.heap.size<=b):oJ g x q mc md rv cv2 Y lo L {P with cl:=R} w':=by
 have F:=h.Qk;have i:=h.xne;have G:=h.lo';have t:=h.UK;have u:=h.lg.nu k λb hb=>.inr jP
 have l:∀ b∈cv2.ownBlock.toList,b∈cv.ownBlock.toList\/w.heap.size<=b:=λb hb=>(hf b (ah.1 hb)).imp (λe=>ah.2 e) id
 have v:∀ b∈cv2.ownBlock.toList,b≠q/\b≠mc/\b≠md/\lo<=b/\b∉L:=λb hb=>(l b hb).elim (h.cq b) λo=>⟨eu,eu,eu,eu,λa=>by have:=t b a;omega⟩
 obtain⟨⟨⟨B,C,r,s,m,p⟩,y,j⟩,z,A,H⟩:=h.lg;have D:=λb hb=>(inferInstance:mW (DZ g P.D)).lt r b hb
 have E:=λb hb=>hY.lt s b hb
 refine⟨⟨⟨⟨B,C,?_,?_,λb hb=>⟨(m b hb).1,(m b hb).2.1,λa=>?_⟩,λb hb=>⟨(p b hb).1,λa=>?_⟩⟩,ag y k.size,λb a=>?_⟩,u.rowx,A,λa=>?_⟩,h.row.nu k λa=>(h.cq q a).1 rfl,h.mch.nu k λa=>(h.cq mc a).2.1 rfl,h.mdi.nu k λa=>(h.cq md a).2.2.1 rfl,hv,h.qm,h.qd,h.md',v,h.ql,h.mcl,h.mdl⟩
 .exact(inferInstance:mW (DZ g P.D)).nu r k λb hb a=>(m b hb).2.2 kr
 .exact hY.nu s k λb hb a=>(p b hb).2 kr
 .have c:=(m b hb).2.2
  simp only[ak,ay,not_or]at c a;rcases a with a|a|a|a|a|a
  .exact c.1 a
  .exact(l b a).elim c.2.1 λo=>by have:=D b hb;omega
  .exact c.2.2.1 a
  .exact c.2.2.2.1 a
  .exact c.2.2.2.2.1 a
  .exact c.2.2.2.2.2 a
 .have f:=(p b hb).2
  simp only[ak,ay,not_or]at f a;rcases a with a|a|a|a|a|a
  .exact f.1 a
  .exact(l b a).elim f.2.1 λo=>by have:=E b hb;omega
  .exact f.2.2.1 a
  .exact f.2.2.2.1 a
  .exact f.2.2.2.2.1 a
  .exact f.2.2.2.2.2 a
 .simp only[ak,ay]at a
  rcases a with a|a|a|a|a|a
  .exact ae (j b kr) k.size
  .exact(hv.lt b (ah.1 a)).2
  .exact ae (j b kr) k.size
  .exact ae (j b kr) k.size
  .exact ae (j b kr) k.size
  .exact ae (j b kr) k.size
 .simp only[ay,ak]at a
  rcases a with a|a|a|a|a
  .refine(l x a).elim i.2.2.2.1 λo=>?_
   have:=z.lt;omega
  .exact i.1 a
  .exact i.2.1 a
  .exact i.2.2.1 a
  .exact i.2.2.2.2 a
theorem Dr{D:Dk}{G:Lg}(h:oJ g x q mc md rv cv Y lo L P w)(hG:rF g x Y lo (cv.ownBlock.toList++q::mc::md::L) D G w')(k:mX lo (cv.ownBlock.toList++q::mc::md::L) w w')(hs:G.size=P.G.size)(hD:D.V.length=P.D.V.length):oJ g x q mc md rv cv Y lo L {P with D:=D,G:=G} w':=by
 have a:({P with D:=D,G:=G}:Pl).n=P.n:=by unfold Pl.n;dsimp only;rw[hs,hD]
 refine⟨hG,?_,?_,?_,h.own.nu k.kp λb hb e=>pG (.inr kw) hb,h.qm,h.qd,h.md',h.cq,h.ql,h.mcl,h.mdl⟩
 .dsimp only;rw[hs];exact h.row.nu k.kp (pG (.inr ig))
 .rw[a];exact h.mch.nu k.kp (pG (.inr ig))
 .rw[a];exact h.mdi.nu k.kp (pG (.inr ig))
theorem IP(h:oJ g x q mc md rv cv Y lo L P w)(k:mX lo (cv.ownBlock.toList++q::mc::md::L) w w'):mX lo L w w':=k.weak (ax _) λb hb=>by simp[hb]
theorem PO(h:oJ g x q mc md rv cv Y lo L P w)(k:Kp cv.ownBlock.toList w w'):mX lo L w w':=mX.Lj k λb hb=>.inl (h.cq b hb).2.2.2
end oJ
theorem Xc [hY:mW Y] {Pr:Program} {f:FuncId} {args:Array Value} {R:Value->Prop} {P':Pl} (h:Two (PZ q P) Y lo L w)
  (hc:∀ g x mc md cv,oJ g x q mc md cv cv Y lo L P w->Calls Pr f args w (pX λv w'=>R v/\(∃ cv',oJ g x q mc md cv' cv' Y lo L P' w')/\mX lo L w w')):Calls Pr f args w (pX λv w'=>R v/\Two (PZ q P') Y lo L w'/\mX lo L w w'):=by
 obtain⟨g,x,mc,md,cv,a⟩:=Nf h;exact(hc g x mc md cv a).to λv w' ⟨c,⟨cv',e⟩,f⟩=>⟨c,Yh e,f⟩
end
theorem FD(b:Nat)(n:Int)(w:World)(hb:row w b [.int .i64 n] 3):
  CQ 158 [.slice none 0 0, .func (.func 159) #[] #[.pointer (some ⟨b,0,none⟩)]] w (λv w'=>v= .slice none 0 0/\Below w.heap.size w w'):=by
 have a:=Below.refl w.heap.size w;have f:nC w none 0 513 (pY []):=(ym w 0 164 513).sl;have e:=λw' (c:nC w' none 0 513 (pY [])) (hb:row w' b [.int .i64 n] 3)=>indexB [] (λ_ c=>nomatch c) none 0 0 rfl b n w' c hb
 rw[if_neg ig]at e;refine nP (fn:=Tryz.f158) (rs:=[.tmp 4]) (n:=42) Tryz.func158 rfl rfl Tryz.ntmps158 dA rfl<|mR<|nV<|mP<|mP<|nD (e w f hb) ?_
 rintro _ h ⟨rfl,g⟩;replace a:=a.acc g;refine mV<|mQ<|ng<|mR<|mP<|mO (qy rfl rfl)<|mQ<|sU rfl (rfl)<|mR<|mP<|mV<|mQ<|nQ<|qb<|nR [_] ⟨rfl,trivial⟩ ?_;exact⟨rfl,a⟩
section
variable {Y:World->List Nat->Prop}[mW Y]{g x q mc md lo:Nat}{rv cv:Value}{L:List Nat}{P:Pl}{w:World}
theorem Ck(h:oJ g x q mc md rv cv Y lo L P w)(hsz:P.G.size<=4000):CQ 74 [.pointer (some ⟨q,0,none⟩)] w (λv w'=>v= .int .i64 (P.n:Int)/\Below w.heap.size w w'):=by
 have i:=Below.refl w.heap.size w;have l:=λw' (m:oJ g x q mc md rv cv Y lo L P w')=>countP m.lg.fst (P.G.size:Int) ⟨eu,eu⟩
 have a:=h.row;unfold tF at a;unfold Pl.n;refine nP (fn:=Tryz.f74) (rs:=[.tmp 2]) (n:=21) Tryz.func74 rfl rfl Tryz.ntmps74 dA rfl<|mR<|mV<|mQ<|ng<|mR<|mP<|mO (xJ dA rfl rfl)<|mP<|Ri 5 rfl (rfl)<|mY<|mP<|mY<|mO (nW rfl)<|mY<|mO (nk 0)<|mY<|mO (mZ a)<|mY<|mO (xJ dA rfl rfl)<|mO (oo rfl)<|mQ<|tC rfl (rfl)<|nL<|ny<|ng<|qz [] dA ?_
 intro r j s;replace h:=h.new j;replace a:=a.new j;replace i:=i.acc j;have p:=h;have k:=a;refine mU 0 (nK)<|mU 1 (nW rfl)<|mU 2 (nk 0)<|nI 3 (λw' c=>mZ (k.kq c))<|mU 4 (nK)<|mU 5 (nW rfl)<|mU 6 (nk 2)<|nI 7 (λw' c=>mZ (k.kq c))<|yM 8 dA rfl (λ_=>nX dA rfl) (λw' c=>l w' (p.nu c (by first |(simp;done)|(simp;omega)|(simp[*];done)|exact pG (Or.inl eu)|exact pG (Or.inr ig)|exact λg f=>ag eu (vI f).1|(intro b o e;cases e;exact pG (Or.inl eu))|(intro b f;have:=(hu.lt b (ah.1 f)).1;omega)|(intro b o e;cases e;intro f;have:=(hu.lt _ (ah.1 f)).1;omega)|assumption)))<|mU 9 (rA)<|oL dA<|ny<|nQ<|nR [_] ⟨rfl,trivial⟩ ?_
 exact⟨rfl,i⟩
def xN(P:Pl)(n:Int):Int:=if P.dead then 10 else if 0<=n/\n<(P.n:Int)then 0 else 2
theorem Nu(h:oJ g x q mc md rv cv Y lo L P w)(hsz:P.G.size<=4000)(n:Int):CQ 93 [.pointer (some ⟨q,0,none⟩), .int .i64 n] w (λv w'=>v= .int .i64 (xN P n)/\Below w.heap.size w w'):=by
 have a:=Below.refl w.heap.size w;have f:=λw' (j:oJ g x q mc md rv cv Y lo L P w')=>Ck j hsz
 have c:=h.row;obtain⟨i,k⟩:=aa (P.dead);obtain⟨N,l⟩:=aa (P.n);unfold tF at c;unfold xN;rw[k]at c |-;rw[l]at f |-;refine nP (fn:=Tryz.f93) (rs:=[.tmp 4]) (n:=29) Tryz.func93 rfl rfl Tryz.ntmps93 dA rfl<|mR<|mV<|mQ<|ng<|oU<|mR<|mP<|mO (xJ dA rfl rfl)<|mP<|Ri 8 rfl (rfl)<|mY<|mP<|mY<|mO (nW rfl)<|mY<|mO (nk 0)<|mY<|mO (mZ c)<|mY<|mO (xJ dA rfl rfl)<|mO (oo rfl)<|mV<|mQ<|tC rfl (rfl)<|mR<|mP<|mO (nW rfl)<|mO (nk 7)<|mO (mZ c)<|mV<|mQ<|xm rfl (λe=>?_)<|λe=>?_
 ·
  refine lL ?_;subst e;exact⟨rfl,a⟩
 ·
  have m:i=false:=by cases i with|false=>rfl|true=>cases e
  subst m;refine mR<|mP<|mO (pE rfl rfl)<|mP<|ui 23 rfl (λo=>?_)<|λo=>?_
  ·
   refine nE<|nE<|nE<|nE<|mO (pO rfl)<|mV<|mQ<|uC rfl (rfl)<|mR<|mV<|mQ<|nQ<|tu<|qb<|nR [_] ⟨rfl,trivial⟩ ?_
   exact⟨by rw[if_neg ig,if_neg eu];rfl,a⟩
  ·
   refine mY<|mP<|mY<|mP<|mY<|nD (f w h) ?_
   rintro _ s ⟨rfl,p⟩;replace a:=a.acc p;refine mY<|mO (tN rfl rfl)<|mO (oo rfl)<|mV<|mQ<|oP rfl (λr=>?_)<|λr=>?_
   ·
    refine lL ?_;exact⟨by rw[if_neg ig,if_neg eu];rfl,a⟩
   ·
    refine lM ?_;exact⟨by rw[if_neg ig,if_pos eu];rfl,a⟩
theorem Ce(h:oJ g x q mc md rv cv Y lo L P w)(e:Int):CQ 98 [.pointer (some ⟨q,0,none⟩), .int .i64 e] w (λv w'=>v= .int .i64 e/\oJ g x q mc md rv cv Y lo L {P with dead:=P.dead || decide (e=10)} w'/\mX lo L w w'):=by
 have c:=mX.refl lo L w;have a:=h.row;obtain⟨l,m⟩:=h.ql;obtain⟨D,G,fr,o,p,cl,g⟩:=P;unfold tF at a;dsimp only at a |-;refine nP (fn:=Tryz.f98) (rs:=[.tmp 4]) (n:=17) Tryz.func98 rfl rfl Tryz.ntmps98 dA rfl<|mR<|nV<|mP<|mP<|mO (nW rfl)<|mO (nk 7)<|mO (mZ a)<|mP<|Nr 10 rfl (λe=>?_)<|λe=>?_
 ·
  refine nE<|nE ?_
  subst e;refine mO (pO rfl)<|mO (nW rfl)<|mO (nk 7)<|nH<|oW a<|λq a i=>?_
  replace c:=c.oq i;have f:=h.setRow a i;refine mD ?_;exact⟨rfl,f,c⟩
 ·
  have k:g=false:=by cases g with|false=>rfl|true=>cases e
  subst k;refine mY<|mP<|mY<|mO (qy rfl rfl)<|mO (oo rfl)<|mO (nW rfl)<|mO (nk 7)<|nH<|oW a<|λr a j=>?_
  replace c:=c.oq j;have f:=h.setRow a j;refine mD ?_;exact⟨rfl,f,c⟩
theorem GQ(h:oJ g x q mc md cv cv Y lo L P w)(hcv:cv= .slice none 0 0)(h0:P.cl.length=0)(n:Int):CQ 100 [.pointer (some ⟨q,0,none⟩), .int .i64 n] w (λv w'=>v= .tuple #[]/\(∃ cv',oJ g x q mc md cv' cv' Y lo L {P with cl:=without P.cl n} w')/\mX lo L w w'):=by
 have c:=mX.refl lo L w;have a:=h.row;obtain⟨p,q⟩:=h.ql;unfold tF at a;subst hcv;have j:P.cl=[]:=bH h0;have k:without P.cl n=P.cl:=by rw[j];rfl
 rw[k];refine nP (fn:=Tryz.f100) (rs:=[]) (n:=13) Tryz.func100 rfl rfl Tryz.ntmps100 dA rfl<|mR<|nz<|oV ([_]) rfl<|λr l m g e=>?_
 replace h:=h.nA e m g.lt;replace c:=c.new e;replace a:=a.new e;refine mQ<|nM<|mP<|mP<|mO (nW rfl)<|mO (nk 6)<|mO (mZ a)<|mO (sV)<|nD (FD _ n l g) ?_
 rintro _ s ⟨rfl,f⟩;replace h:=h.new f;replace c:=c.new f;replace a:=a.new f;refine mO (nW rfl)<|mO (nk 6)<|nH<|oW a<|λt a i=>?_
 replace c:=c.oq i;have o:=h.setRow a i;refine lS ?_;exact⟨rfl,⟨_,o.weak (λb hb=>aj _ hb)⟩,c⟩
theorem EW{gc o c:Nat}(h:oJ g x q mc md cv cv Y lo L P w)(hcv:cv= .slice (some ⟨gc,o,none⟩) P.cl.length c)(hR:rT P.cl)(n:Int):CQ 100 [.pointer (some ⟨q,0,none⟩), .int .i64 n] w (λv w'=>v= .tuple #[]/\(∃ cv',oJ g x q mc md cv' cv' Y lo L {P with cl:=without P.cl n} w')/\mX lo L w w'):=by
 have f:=mX.refl lo L w;have a:=h.row;obtain⟨u,v⟩:=h.ql;unfold tF at a;subst hcv;have y:gc<w.heap.size:=qI.lt h.own;have g:=h.cq gc (aK ..);have m:∀ b∈[gc],(lo<=b/\b∉L)\/w.heap.size<=b:=λb hb=>.inl (by rw[aM.1 hb];exact⟨g.2.2.2.1,g.2.2.2.2⟩)
 have z:q≠gc:=bW g.1;refine nP (fn:=Tryz.f100) (rs:=[]) (n:=13) Tryz.func100 rfl rfl Tryz.ntmps100 dA rfl<|mR<|nz<|oV ([_]) rfl<|λA p r k i=>?_
 replace h:=h.nA i r k.lt;replace f:=f.new i;replace a:=a.new i;refine mQ<|nM<|mP<|mP<|mO (nW rfl)<|mO (nk 6)<|mO (mZ a)<|mO (sV)<|qi rfl (nX dA rfl) (Gd P.cl hR gc o P.cl.length c 0 rfl _ n p h.own k eu) ?_
 rintro _ B ⟨rfl,s,j⟩;replace h:=h.Re s j.k (λb e=>Or.inl e);replace f:=f.nu j.k m;replace a:=a.nu j.k kV;refine mO (nW rfl)<|mO (nk 6)<|nH<|oW a<|λC a l=>?_
 replace f:=f.oq l;have t:=h.setRow a l;refine lS ?_;exact⟨rfl,⟨_,t.weak (λb hb=>aj _ hb)⟩,f⟩
theorem zrB(h:oJ g x q mc md cv cv Y lo L P w)(hR:rT P.cl)(n:Int):CQ 100 [.pointer (some ⟨q,0,none⟩), .int .i64 n] w (λv w'=>v= .tuple #[]/\(∃ cv',oJ g x q mc md cv' cv' Y lo L {P with cl:=without P.cl n} w')/\mX lo L w w'):=by
 rcases h.own.2 with⟨a,e⟩|⟨gc,o,c,f,a,_⟩
 .exact GQ h a e n
 .exact EW h a hR n
end
end Go.Proofs.YtpaniebomegnbaaGreat
namespace Coup
open Go Go.RowKit Go.Maps
open Go.WideElems (Fit rd rg pl rd_val elemAt)
section
variable {P:Program}{ρ:Env}{w:World}{d:Option Nat}{ty:TypeId}{pos:String}{af:Array Edge}{gd:Option (Nat × Bool)}{K:Value->World->Prop}
theorem zrC{t k e:TypeId}{x:Operand}{m N:Nat}{f:Nat->Option Value}(ht:P.underlying t=some (.map k e))(hm:MapAt P k w m N f)(hx:ev ρ x= .map (some m)):
  (execOp (ev ρ) ⟨d, .call ⟨.builtin .len,#[x],#[t]⟩,ty,pos,af,gd⟩).run P w= .ok (.value (.int .i64 ((qF f 0 N).length:Int))) w:=by
 obtain⟨a,i,hb,F,j,c⟩:=hm;have e:=Go.MapKept.run_getObj_map (P:=P) hb;have g:(qF f 0 N).length=a.size:=by
  have h:qF f 0 N=(a.toList.map (rg P k RH)).foldr DataW.insert []:=by injection c
  rw[h,length_read]
 rw[g];simp[execOp,resolve,invoke,builtin,Builtin.len_,hx,run_underlying ht,e,goInt,Result.andThen]
theorem KY {t k e:TypeId} {x y:Operand} {m N:Nat} {f:Nat->Option Value} {a:Int} (z:Value) (o:Option Value) (ht:P.underlying t=some (.map k e)) (hk:P.underlying k=some (.int .i64)) (hz:∀ w,(zeroValue e).run P w= .ok z w)
  (hm:MapAt P k w m N f) (hx:ev ρ x= .map (some m)) (hy:ev ρ y= .int .i64 a) (i:Nat) (ha:a=(i:Int)) (hi:i<N) (hN:N<=1000000) (hf:f i=o):
  (execOp (ev ρ) ⟨d, .lookup t x y true,ty,pos,af,gd⟩).run P w= .ok (.value (.tuple #[o.getD z, .bool o.isSome])) w:=by
 subst ha;subst hf;obtain⟨s,t,hb,F,u,o⟩:=hm;have p:=keyOf_int_mk hk (Rb (i:=i) eu);have h:∀ e:DataW Value,DataW.atKey (.map (qF f 0 N)) (.int .i64 (i:Int)) e=((f i).map DataW.held).getD e:=λe=>by
  unfold DataW.atKey;simp only[RJ N 0 (aC _) (by omega:i<0+N)];cases f i<;>rfl
 rw[o]at h;rcases Maps.fit_look true (int_keyed hk) ht (hz w) hb F p with⟨l,_,j⟩|⟨k,y,_,_,l,q,j,_⟩
 .have m:f i=none:=by
   cases hfi:f i with
   |none=>rfl
   |some v=>
    have a:=(h (.held (.bool true))).symm.trans (j (.held (.bool true)));have c:=(h (.held (.bool false))).symm.trans (j (.held (.bool false)));rw[hfi]at a c;have g:DataW.held (H:=Value) (.bool true)= .held (.bool false):=a.symm.trans c
    injection g with g
    injection g with g
    cases g
  rw[m];simp[execOp,hx,hy,l,Result.andThen]
 .have m:f i=some k.val:=by
   have r:y=(.held k.val,[]):=by
    have a:some (DataW.held k.val,([]:List MemPlace))=some y:=q
    injection a with a
    exact a.symm
   have a:=λe=>(h e).symm.trans (j e)
   rw[r]at a;cases hfi:f i with
   |none=>
    rw[hfi]at a;have c:DataW.held (H:=Value) (.bool true)= .held (.bool false):=(a (.held (.bool true))).trans (a (.held (.bool false))).symm
    injection c with c
    injection c with c
    cases c
   |some v=>
    rw[hfi]at a;have c:DataW.held (H:=Value) v= .held k.val:=a (.held v)
    injection c with c
    rw[c]
  rw[m];simp[execOp,hx,hy,l,Result.andThen]
theorem zrD {t i0 i1 i2 i3 i4 i5:Nat} {x0 x1 x2 x3 x4 x5:Operand} (v0 v1 v2 v3 v4 v5:Value) (cs:List Value) (h0:ev ρ x0=v0) (h1:ev ρ x1=v1) (h2:ev ρ x2=v2) (h3:ev ρ x3=v3) (h4:ev ρ x4=v4) (h5:ev ρ x5=v5)
  (hb:P.built t [(i0,v0),(i1,v1),(i2,v2),(i3,v3),(i4,v4),(i5,v5)]=some cs.toArray):
  (execOp (ev ρ) ⟨d, .build t #[(i0,x0),(i1,x1),(i2,x2),(i3,x3),(i4,x4),(i5,x5)],ty,pos,af,gd⟩).run P w= .ok (.value (.agg cs.toArray)) w:=by
 have:=run_build (P:=P) w t #[(i0,v0),(i1,v1),(i2,v2),(i3,v3),(i4,v4),(i5,v5)] cs.toArray kG;simp only[execOp,fU,aZ,dS,h0,h1,h2,h3,h4,h5,Sem.run_bind,this,Result.andThen_ok]
 rfl
end
end Coup
namespace Go.Proofs.YtpaniebomegnbaaGreat
open Go Go.RowKit Coup
def Bq(c:sH)(n:Nat):List Int:=keysOf (ru c) 0 n
theorem v_(n:Nat)(s:Int):4*vk n s<=n:=by
 unfold vk
 split<;>omega
def QC(w:World)(l:List Int)(v:Value)(w':World):Prop:=∃ p c,v= .slice p l.length c/\nC w' p l.length 1 (iv l)/\∀ b o,p=some ⟨b,o,none⟩->w.heap.size<=b
section
variable {Y:World->List Nat->Prop}[mW Y]{g x q mc md lo:Nat}{rv cv:Value}{L:List Nat}{P:Pl}{w:World}
omit [mW Y] in
theorem oJ.BV(h:oJ g x q mc md rv cv Y lo L P w):P.n<=2048/\P.D.V.length<=8192:=by
 have a:=(yV h.lg.fst).1.n;have c:=v_ P.D.V.length P.G.size;unfold Pl.n;exact⟨eu,a⟩
theorem ztJ(h:oJ g x q mc md rv cv Y lo L P w):CQ 94 [.pointer (some ⟨q,0,none⟩)] w (λv w'=>QC w (Bq P.ch P.n) v w'/\Below w.heap.size w w'):=by
 have e:=Below.refl w.heap.size w;have j:=h.BV.1;have a:=h.row;unfold tF at a;refine nP (fn:=Tryz.f94) (rs:=[.tmp 2]) (n:=10) Tryz.func94 rfl rfl Tryz.ntmps94 dA rfl<|mR<|mV<|mQ<|ng<|mR<|mP<|mO (xJ dA rfl rfl)<|mQ<|tC rfl (rfl)<|nL<|ny<|mR<|mP<|mO (nW rfl)<|mO (nk 4)<|mO (mZ a)<|qi rfl (nX dA rfl) (Il w h.mch eu) ?_
 rintro _ k ⟨⟨p,c,rfl,g,i⟩,f⟩;replace h:=h.new f;replace a:=a.new f;replace e:=e.acc f;refine lQ ?_;exact⟨⟨p,c,rfl,g,i⟩,e⟩
theorem Lp(h:oJ g x q mc md rv cv Y lo L P w):CQ 151 [.pointer (some ⟨q,0,none⟩)] w (λv w'=>QC w (Bq P.di P.n) v w'/\Below w.heap.size w w'):=by
 have e:=Below.refl w.heap.size w;have j:=h.BV.1;have a:=h.row;unfold tF at a;refine nP (fn:=Tryz.f151) (rs:=[.tmp 2]) (n:=10) Tryz.func151 rfl rfl Tryz.ntmps151 dA rfl<|mR<|mV<|mQ<|ng<|mR<|mP<|mO (xJ dA rfl rfl)<|mQ<|tC rfl (rfl)<|nL<|ny<|mR<|mP<|mO (nW rfl)<|mO (nk 5)<|mO (mZ a)<|qi rfl (nX dA rfl) (Il w h.mdi eu) ?_
 rintro _ k ⟨⟨p,c,rfl,g,i⟩,f⟩;replace h:=h.new f;replace a:=a.new f;replace e:=e.acc f;refine lQ ?_;exact⟨⟨p,c,rfl,g,i⟩,e⟩
omit [mW Y] in
theorem Qe(h:oJ g x q mc md rv cv Y lo L P w):CQ 101 [.pointer (some ⟨q,0,none⟩)] w (λv w'=>v= .bool P.dead/\w=w'):=by
 have a:=h.row;unfold tF at a;refine nP (fn:=Tryz.f101) (rs:=[.tmp 2]) (n:=11) Tryz.func101 rfl rfl Tryz.ntmps101 dA rfl<|mR<|nV<|mP<|mO (ztl dA rfl rfl)<|mP<|OX 5 rfl (rfl)<|mY<|mP<|mY<|mO (nW rfl)<|mY<|mO (nk 7)<|mY<|mO (mZ a)<|mO (pO rfl)<|mV<|mQ<|nQ<|nR [_] ⟨rfl,trivial⟩ ?_
 exact⟨rfl,rfl⟩
omit [mW Y] in
theorem oJ.WV(h:oJ g x q mc md rv cv Y lo L P w):∃ p c,cv= .slice p P.cl.length c/\nC w p P.cl.length 513 (pY P.cl):=by
 have a:=h.own;rcases h.own.2 with⟨rfl,e⟩|⟨gc,o,c,g,f,_⟩
 .rw[e]at a |-;exact⟨none,0,rfl,a.sl⟩
 .subst f;exact⟨_,c,rfl,a.sl⟩
end
def frameC(fr:Nat)(R:Rec)(n:Int)(X:Pg):Rec:=if fr<(without R n++([⟨n,X⟩]:Rec)).length then(without R n++([⟨n,X⟩]:Rec)).drop 1 else without R n++[⟨n,X⟩]
theorem VS{R:Rec}(h:rT R)(n:Int):rT (without R n):=λc a=>h c (dW.1 a).1
theorem VD(R:Rec)(n:Int):(without R n).length<=R.length:=jA _ _
theorem Zm{R:Rec}(h:rT R){n:Int}{X:Pg}(hX:X.length=512):rT (R++[⟨n,X⟩]):=λc a=>by
 rcases ay.1 a with a|a
 .exact h c a
 .rw[aM.1 a];exact hX
theorem zrG{fr:Nat}{R:Rec}(h:rT R)(hl:R.length<=fr)(n:Int){X:Pg}(hX:X.length=512):rT (frameC fr R n X)/\(frameC fr R n X).length<=fr:=by
 have a:=Zm (VS h n) (n:=n) hX;have f:=VD R n;unfold frameC
 split
 .exact⟨λc e=>a c (ek e),by rw[aL,aA,dM];omega⟩
 .exact⟨a,eu⟩
section
variable {Y:World->List Nat->Prop}[mW Y]{g x q mc md lo:Nat}{rv cv:Value}{L:List Nat}{P:Pl}{w:World}
omit [mW Y] in
theorem oJ.Tu(h:oJ g x q mc md rv cv Y lo L P w)(h0:0<P.cl.length):∃ gc o c,cv= .slice (some ⟨gc,o,none⟩) P.cl.length c/\qI w 0 164 513 gc o P.cl.length c (pY P.cl):=by
 have a:=h.own;rcases h.own.2 with⟨_,f⟩|⟨gc,o,c,g,e,_⟩
 .omega
 .subst e;exact⟨gc,o,c,rfl,a⟩
theorem ztL(R:Rec)(hR:rT R)(g o c:Nat)(h2:2<=R.length)(w:World)(h:qI w 0 164 513 g o R.length c (pY R)):
 CQ 240 [.slice (some ⟨g,o,none⟩) R.length c, .int .i64 0, .int .i64 1] w (λv w'=>v= .slice (some ⟨g,o,none⟩) (R.drop 1).length c/\qI w' 0 164 513 g o (R.drop 1).length c (pY (R.drop 1))/\sI [g] w w'):=FR R hR g o R.length c 0 rfl h2 w h
theorem Ca(h:oJ g x q mc md cv cv Y lo L P w)(hR:rT P.cl)(hl:P.cl.length<=P.fr)(hf2:2<=P.fr)(hfm:P.fr<=100)(n:Int)(X:Pg)(hX:X.length=512):
   CQ 199 [.pointer (some ⟨q,0,none⟩), .int .i64 n, .agg (bv X).toArray] w (λv w'=>v= .tuple #[]/\(∃ cv',oJ g x q mc md cv' cv' Y lo L {P with cl:=frameC P.fr P.cl n X} w')/\mX lo L w w'):=by
 have f:=mX.refl lo L w;have e2:maxLen=9223372036854775807:=by decide
 obtain⟨e3,e4⟩:=h.ql;have e5:(bv X).length=512:=by rw[oh];exact hX
 have a6:(rG ⟨n,X⟩).length=1*513:=Ba hX;have a7:=DK ⟨n,X⟩;have a8:=VS hR n;have b9:=VD P.cl n;have a9:=λL' w' (c4:oJ g x q mc md cv cv Y lo L' P w')=>zrB c4 hR n
 unfold frameC;obtain⟨T,c5⟩:=aa (without P.cl n);simp only[c5]at a9 a8 b9 |-;have c6:=Zm a8 (n:=n) hX;have s:(T++[(⟨n,X⟩:Ch)]).length=T.length+1:=by rw[aA,dM]
 have b0:0<(T++[(⟨n,X⟩:Ch)]).length:=by omega
 refine nP (fn:=Tryz.f199) (rs:=[]) (n:=39) Tryz.func199 rfl rfl Tryz.ntmps199 dA rfl<|mR<|nz<|oV (bv X) rfl<|λp c7 c8 r b1=>?_
 replace h:=h.nA b1 c8 r.lt;replace f:=f.new b1;refine pV<|mP<|mP<|nD (a9 _ c7 h) ?_
 rintro _ e6 ⟨rfl,⟨cv2,h⟩,b2⟩;replace f:=f.lq b2;replace r:=r.kl b2;refine mQ<|xO (λ_:Unit=>[(0, .pointer (some ⟨q,0,none⟩))]) (λ_ w'=>(∃ J,oJ g x q mc md J J Y lo (p::L) {P with cl:=T++[⟨n,X⟩]} w')/\mX lo L w w') ?_ ?_
 ·
  have a:=h.row;have i:=h.own;unfold tF at a;dsimp only at a i;have e7:p∉cv2.ownBlock.toList:=λk=>(h.cq p k).2.2.2.2 (aK ..)
  have e8:p≠q:=λe=>h.ql.2 (e▸aK ..)
  refine qz ((q::cv2.ownBlock.toList)) dA ?_;intro e9 t K;replace h:=h.new t;replace f:=f.new t;replace r:=r.new t;replace a:=a.new t;replace i:=i.new t;have c9:=r;refine mU 0 (nK)<|mU 1 (nK)<|mU 2 (nW rfl)<|mU 3 (nk 6)<|mU 5 (nK)<|nI 6 (λw' u=>oI 512 (c9.kq u))<|mU 7 (Vy hX rfl rfl rfl)<|yP 4 8 dA ?_ ?_
  ·
   refine Ap rfl rfl (mZ a) K<|nS 8 dA<|qJ rfl rfl<|uE (e:=164) (.agg (rG ⟨n,X⟩).toArray) (rG ⟨n,X⟩) (([Value.int .i64 0])++(List.replicate 512 (Value.int .u8 0))) 513 dA dA rfl rfl iw ⟨iT,iT⟩<|λM y O A j=>?_
   have b3:=K.add0 j;refine⟨b3,?_⟩;replace h:=h.nA j O A.lt;replace f:=f.new j;replace a:=a.new j;replace i:=i.new j;refine nS 9 dA ?_;have Q:=A.ul (m:=1) (sz:=513) a6 eu;refine qJ rfl rfl<|uf (v:=cv2) (e:=164) (sz:=513) (bytes:=520) (z:=.agg (([Value.int .i64 0])++(List.replicate 512 (Value.int .u8 0))).toArray) dA rfl dA rfl iT rfl i rfl Q a7 eu eu (λd0=>aC _)<|λB C D E F=>?_
   rw[<-Rv,<-s]at D;have l:y.grownBy C cv2.ownBlock:=E;have R:∀ g,B.ownBlock=some g->cv2.ownBlock=some g\/y.heap.size<=g:=F;clear E F;have S:=(Kp.rX l).weak (N:=q::cv2.ownBlock.toList) (λ_ _ k=>aj _ k);have U:=h.PO (Kp.rX l);have G:oJ g x q mc md cv2 B Y lo (M::p::L) {P with cl:=T++[⟨n,X⟩]} C:=h.Re D (Kp.rX l) R;clear h;have h:=G;clear G;have V:=h.Tu b0;obtain⟨d1,on,d2,Z,d3⟩:=V;subst Z;replace f:=f.ll (U.weak (L2:=L) (ax _) (λb hb=>by simp[hb])) (λb hb=>hb);replace a:=h.row;unfold tF at a;have b4:=b3.trans S;refine⟨b4,?_⟩;refine mU 10 (nW rfl)<|mU 11 (nk 6)<|nS 12 dA<|qR rfl rfl<|oW a<|λf0 a a0=>?_
   have d4:=b4.aq a0;refine⟨d4,?_⟩;replace f:=f.oq a0;have H:=h.setRow a a0;refine oL dA<|oO ⟨(),⟨rfl,rfl⟩,⟨_,H.weak (λb hb=>aj _ hb)⟩,f⟩
  ·
   refine qJ rfl rfl<|uE (e:=164) (.agg (rG ⟨n,X⟩).toArray) (rG ⟨n,X⟩) (([Value.int .i64 0])++(List.replicate 512 (Value.int .u8 0))) 513 dA dA rfl rfl iw ⟨iT,iT⟩<|λM y O A j=>?_
   have a1:=K.add0 j;refine⟨a1,?_⟩;replace h:=h.nA j O A.lt;replace f:=f.new j;replace a:=a.new j;replace i:=i.new j;refine nS 4 dA<|Ap rfl rfl (mZ a) a1<|nS 9 dA ?_
   have Q:=A.ul (m:=1) (sz:=513) a6 eu;refine qJ rfl rfl<|uf (v:=cv2) (e:=164) (sz:=513) (bytes:=520) (z:=.agg (([Value.int .i64 0])++(List.replicate 512 (Value.int .u8 0))).toArray) dA rfl dA rfl iT rfl i rfl Q a7 eu eu (λd0=>aC _)<|λB C D E F=>?_
   rw[<-Rv,<-s]at D;have l:y.grownBy C cv2.ownBlock:=E;have R:∀ g,B.ownBlock=some g->cv2.ownBlock=some g\/y.heap.size<=g:=F;clear E F;have S:=(Kp.rX l).weak (N:=q::cv2.ownBlock.toList) (λ_ _ k=>aj _ k);have U:=h.PO (Kp.rX l);have G:oJ g x q mc md cv2 B Y lo (M::p::L) {P with cl:=T++[⟨n,X⟩]} C:=h.Re D (Kp.rX l) R;clear h;have h:=G;clear G;have V:=h.Tu b0;obtain⟨d1,on,d2,Z,d3⟩:=V;subst Z;replace f:=f.ll (U.weak (L2:=L) (ax _) (λb hb=>by simp[hb])) (λb hb=>hb);replace a:=h.row;unfold tF at a;have b5:=a1.trans S;refine⟨b5,?_⟩;refine mU 10 (nW rfl)<|mU 11 (nk 6)<|nS 12 dA<|qR rfl rfl<|oW a<|λf1 a a2=>?_
   have d5:=b5.aq a2;refine⟨d5,?_⟩;replace f:=f.oq a2;have H:=h.setRow a a2;refine oL dA<|oO ⟨(),⟨rfl,rfl⟩,⟨_,H.weak (λb hb=>aj _ hb)⟩,f⟩
 ·
  clear h f;rintro _ f2 w2 ⟨⟨J,h⟩,f⟩;have a:=h.row;unfold tF at a;dsimp only at a;have d6:=h.Tu (by dsimp only;omega);obtain⟨gc,o,c,d7,i⟩:=d6;subst d7;dsimp only at i;have a3:=h.cq gc (aK ..);have d8:∀ b∈[gc],(lo<=b/\b∉L)\/w.heap.size<=b:=λb hb=>.inl (by rw[aM.1 hb];exact⟨a3.2.2.2.1,λk=>a3.2.2.2.2 (aj _ k)⟩)
  have f3:q≠gc:=bW a3.1;refine ng<|qz [] dA ?_
  intro b6 a4 f4;replace h:=h.new a4;replace f:=f.new a4;replace a:=a.new a4;have b7:=a;refine mU 0 (nK)<|mU 1 (nW rfl)<|mU 2 (nk 6)<|nI 3 (λw' u=>mZ (b7.kq u))<|mU 4 (oQ (e:=164) (sz:=513) dA rfl rfl)<|mU 5 (nK)<|mU 6 (nW rfl)<|mU 7 (nk 3)<|nI 8 (λw' u=>mZ (b7.kq u))<|mU 9 (rq rfl rfl)<|oL dA<|ny<|oP rfl (λI=>?_)<|λI=>?_
  ·
   have d9:2<=(T++[(⟨n,X⟩:Ch)]).length:=by rw[s];dsimp only at I;omega
   have e0:P.fr<(T++[(⟨n,X⟩:Ch)]).length:=by rw[s];dsimp only at I;omega
   rw[if_pos e0];refine nM<|mP<|mP<|mO (nW rfl)<|mO (nk 6)<|mO (mZ a) ?_
   have e1:qI b6 0 164 513 gc o (T++[(⟨n,X⟩:Ch)]).length c (pY (T++[⟨n,X⟩])):=h.own;refine nD (ztL _ c6 gc o c d9 b6 e1) ?_;rintro _ f5 ⟨rfl,i,a5⟩;replace h:=h.Re i a5.k (λb e=>Or.inl e);replace f:=f.nu a5.k d8;replace a:=a.nu a5.k kV;refine mO (nW rfl)<|mO (nk 6)<|nH<|oW a<|λf6 a b8=>?_
   replace f:=f.oq b8;have H:=h.setRow a b8;refine lS ?_;exact⟨rfl,⟨_,H.weak (λb hb=>aj _ hb)⟩,f⟩
  ·
   rw[if_neg (by rw[s];dsimp only at I;omega)];refine nL<|zI [] trivial ?_
   exact⟨rfl,⟨_,h.weak (λb hb=>aj _ hb)⟩,f⟩
end
def vH(D:Dk)(a:Nat):Pg:=((List.range 4).map λi=>pF D (a+i)).flatten
theorem zkv{D:Dk}{a:Nat}(h:yL D)(hn:a+4<=D.V.length):(vH D a).length=512/\∀ i,i<4->((vH D a).drop (128*i)).take 128=pF D (a+i):=by
 have c:yX ((List.range 4).map λi=>pF D (a+i)):=λs c=>by
  obtain⟨i,e,rfl⟩:=bB.1 c;exact TF h (by have:=cz.1 e;omega)
 refine⟨by rw[vH,RU c];simp,λi e=>?_⟩;have:=Xk c (i:=i) (s:=pF D (a+i)) (by rw[aW,eQ e];rfl);rw[dY 128 i];exact this
def wI(P:Pl)(n:Nat):Pg:=match P.di n with
 |some b=>b
 |none=>match P.cl[sj P.cl n]? with
  |some c=>c.page
  |none=>vH P.D (1+P.G.size+n*4)
def vV(P:Pl)(n:Nat):Pl:=match P.di n with
 |some _=>P
 |none=>{P with cl:=frameC P.fr P.cl n (wI P n)}
theorem Oy{P:Pl}(hok:xD P){n:Nat}(hn:n<P.n):1+P.G.size+n*4+4<=P.D.V.length/\4<=P.G.size/\P.G.size<=4000:=by
 unfold Pl.n vk at hn
 split at hn
 .omega
 .rw[aR]at hn;omega
theorem Zw{P:Pl}(hok:xD P)(hD:yL P.D){n:Nat}(hn:n<P.n):(wI P n).length=512:=by
 unfold wI
 split
 .exact hok.di _ _ ‹_›
 .split
  .exact hok.cl _<|aN ‹_›
  .exact(zkv hD (Oy hok hn).1).1
theorem QQ{w:World}{g o n:Nat}{R:Rec}(h:nC w (some ⟨g,o,none⟩) n 513 (pY R))(hR:rT R){i:Nat}{c:Ch}(hc:R[i]?=some c):Ld Tryz.prog w 121 ⟨g,o+i*513+1,none⟩ (.agg (bv c.page).toArray):=by
 have l:=(aO.1 hc).1;have m:=zV hR;have a:=Ld.zB (P:=Tryz.prog) (t:=121) (j:=i*513+1) (k:=512) h dA dA eu;have g:=Xp hR hc;have hp:=hR c (aN hc);have e:((pY R).drop (i*513+1)).take 512=bv c.page:=by
  have f:(((pY R).drop (i*513)).take 513).drop 1=bv c.page:=by rw[g];rfl
  rw[eU,dP]at f;exact f
 rw[e]at a;exact a
def zP:List Value:=List.replicate 512 (.int .u8 0)
theorem Mi(w:World):(zeroValue 121).run Tryz.prog w= .ok (.agg zP.toArray) w:=by kernel_rfl
def yB(X:Pg)(i:Nat):Pg:=X.take (128*i)++List.replicate (512 - 128*i) 0
theorem Ho(X:Pg):bv (yB X 0)=zP:=by
 rw[yB,Nat.mul_zero,dw,aV,bv,gu]
 rfl
theorem Gx{X:Pg}(h:X.length=512):yB X 4=X:=by
 rw[yB,aP eu,show 512 - 128*4=0 from rfl,List.replicate_zero,aU]
theorem zrH{X:Pg}(h:X.length=512){i:Nat}(hi:i<=4):(yB X i).length=512:=by
 rw[yB,aA,aH,bi];omega
theorem zp2{X S:Pg}(h:X.length=512){i:Nat}(hi:i<4)(hS:(X.drop (128*i)).take 128=S):splice (bv (yB X i)) (128*i) (bv S)=bv (yB X (i+1)):=by
 have a:(X.take (128*i)).length=128*i:=by rw[aH];omega
 have c:S.length=128:=by rw[<-hS,aH,aL];omega
 have e:splice (bv (yB X i)) (128*i) (bv S)=bv ((yB X i).take (128*i)++S++(yB X i).drop (128*i+128)):=by
  simp only[splice,bv,bK,eX,eY,aQ,c,aG]
 have f:(X.take (128*i)++List.replicate (512 - 128*i) (0:UInt8)).drop (128*i+128)=List.replicate (512 - (128*i+128)) 0:=by
  rw[eZ,a,dC (by rw[a];omega),aV,iR,show 512 - 128*i - (128*i+128 - 128*i)=512 - (128*i+128) by omega]
 rw[e,yB,bJ a,f,yB,show 128*(i+1)=128*i+128 by omega,List.take_add,hS]
section
variable {Y:World->List Nat->Prop}[mW Y]{g x q mc md lo:Nat}{rv cv:Value}{L:List Nat}{P:Pl}{w:World}
theorem zp3(h:oJ g x q mc md cv cv Y lo L P w)(hok:xD P)(n:Nat)(hn:n<P.n){b:Pg}(hb:P.di n=some b):
  CQ 136 [.pointer (some ⟨q,0,none⟩), .int .i64 (n:Int)] w (λv w'=>v= .tuple #[.agg (bv b).toArray, .int .i64 0]/\(∃ cv',oJ g x q mc md cv' cv' Y lo L P w')/\mX lo L w w'):=by
 have f:=mX.refl lo L w;have Y:=h.BV.1;have Z:(bv b).length=512:=by rw[oh];exact hok.di n b hb
 have J:ru P.di n=some (.agg (bv b).toArray):=by unfold ru;rw[hb];rfl
 have a:=h.row;unfold tF at a;have c:=h.mdi;have a0:zP.length=512:=bi;have a1:∀ v∈zP,Value.oneCell' v=true:=λv K=>by rw[(dX.1 K).2];rfl
 refine nP (fn:=Tryz.f136) (rs:=[.cell 4 121, .tmp 5]) (n:=80) Tryz.func136 rfl rfl Tryz.ntmps136 dA rfl<|mR<|nz<|oV ([_]) rfl<|λA a2 F i B=>?_
 have a3:=f.size;have a4:q<A:=ae a.lt F;have a5:md<A:=ae c.lt F;replace h:=h.nA B F i.lt;replace f:=f.new B;replace a:=a.new B;replace c:=c.new B;refine nz<|nU (List.replicate 512 (Value.int .u8 0)) dA<|λC a6 D j u=>?_
 have M:q<C:=ae a.lt D;have N:md<C:=ae c.lt D;have O:A<C:=ae i.lt D;replace h:=h.nA u D j.lt;replace f:=f.new u;replace a:=a.new u;replace c:=c.new u;replace i:=i.new u;refine mV<|mQ<|ng<|ng<|qz [] dA ?_
 intro a7 p G;replace h:=h.new p;replace f:=f.new p;replace a:=a.new p;replace c:=c.new p;replace i:=i.new p;replace j:=j.new p;have a8:=h;have a9:=f;have Q:=a;have R:=c;have S:=i;have b0:=j;refine mU 0 (nK)<|mU 1 (nW rfl)<|mU 2 (nk 5)<|nI 3 (λw' y=>mZ (Q.kq y))<|nI 4 (λw' y=>mZ (S.kq y))<|nI 5 (λw' y=>KY (k:=3) (e:=121) (.agg zP.toArray) (some (.agg (bv b).toArray)) dA dA Mi (R.nu y (by first |(simp;done)|(simp;omega)|(simp[*];done)|exact pG (Or.inl eu)|exact pG (Or.inr ig)|exact λg z=>ag eu (vI z).1|(intro b o e;cases e;exact pG (Or.inl eu))|(intro b z;have:=(hu.lt b (ah.1 z)).1;omega)|(intro b o e;cases e;intro z;have:=(hu.lt _ (ah.1 z)).1;omega)|assumption)) rfl rfl n rfl hn eu J)<|mU 6 (nK)<|mU 7 (nJ rfl rfl)<|mU 8 (nJ rfl rfl)<|nS 9 dA<|qJ rfl rfl<|nU (List.replicate 512 (Value.int .u8 0)) dA<|λE b1 r s l=>?_
 have H:=G.add0 l;refine⟨H,?_⟩;have b2:=ag G.size r;have T:q<E:=ae a.lt r;have U:md<E:=ae c.lt r;have V:A<E:=ae i.lt r;have I:C<E:=ae j.lt r;replace h:=h.nA l r s.lt;replace f:=f.new l;replace a:=a.new l;replace c:=c.new l;replace i:=i.new l;replace j:=j.new l;refine nS 10 dA<|qR rfl rfl<|nT 512 (bv b) s<|λb3 s m=>?_
 have X:=H.aq m;refine⟨X,?_⟩;replace h:=h.only m eG;replace f:=f.oq m;replace a:=a.only m (ai T);replace c:=c.only m (ai U);replace i:=i.only m (ai V);replace j:=j.only m (ai I);refine mU 11 (rA)<|oL dA<|ny<|mR<|mP<|mQ<|uC rfl (rfl)<|mR<|mO (oI 512 s)<|nH<|nT 512 (bv b) j<|λb4 j t=>?_
 replace h:=h.only t eG;replace f:=f.oq t;replace a:=a.only t (ai M);replace c:=c.only t (ai N);replace i:=i.only t (ai O);replace s:=s.only t (bA I);refine mV<|mQ<|nQ<|qb<|nR [_,_] ⟨⟨_,rfl,Ld.qp (k:=512) j dA dA gp⟩,rfl,trivial⟩ ?_
 exact⟨rfl,⟨_,h.weak (λb hb=>by simp[hb])⟩,f⟩
theorem zp4(h:oJ g x q mc md cv cv Y lo L P w)(hok:xD P)(n:Nat)(hn:n<P.n)(hb:P.di n=none){c:Ch}(hc:P.cl[sj P.cl n]?=some c):
  CQ 136 [.pointer (some ⟨q,0,none⟩), .int .i64 (n:Int)] w (λv w'=>v= .tuple #[.agg (bv c.page).toArray, .int .i64 0]/\(∃ cv',oJ g x q mc md cv' cv' Y lo L {P with cl:=frameC P.fr P.cl n c.page} w')/\mX lo L w w'):=by
 have a:=mX.refl lo L w;have a6:=h.BV.1;have Q:=(aO.1 hc).1;have F:=hok.cl c (aN hc);have a7:(bv c.page).length=512:=by rw[oh];exact F
 have R:ru P.di n=none:=by unfold ru;rw[hb];rfl
 have j:=h.row;unfold tF at j;have l:=h.mdi;have a8:zP.length=512:=bi;have a9:∀ v∈zP,Value.oneCell' v=true:=λv S=>by rw[(dX.1 S).2];rfl
 have G:=λp H w' (h:nC w' p P.cl.length 513 (pY P.cl)) b (hb:row w' b [.int .i64 (n:Int)] 3)=>Dx P.cl hok.cl p H P.cl.length rfl b n w' h hb
 simp only[if_pos Q]at G;obtain⟨gc,b0,H,T,b1⟩:=h.Tu eu;subst T;refine nP (fn:=Tryz.f136) (rs:=[.cell 4 121, .tmp 5]) (n:=80) Tryz.func136 rfl rfl Tryz.ntmps136 dA rfl<|mR<|nz<|oV ([_]) rfl<|λI b2 U i A=>?_
 replace h:=h.nA A U i.lt;replace a:=a.new A;replace j:=j.new A;replace l:=l.new A;refine nz<|nU (List.replicate 512 (Value.int .u8 0)) dA<|λJ b3 K f t=>?_
 have V:I<J:=ae i.lt K;replace h:=h.nA t K f.lt;replace a:=a.new t;replace j:=j.new t;replace l:=l.new t;replace i:=i.new t;refine mV<|mQ<|ng<|ng<|qz [] dA ?_
 intro b4 m X;replace h:=h.new m;replace a:=a.new m;replace j:=j.new m;replace l:=l.new m;replace i:=i.new m;replace f:=f.new m;have Y:=j;have Z:=l;have a0:=i;refine mU 0 (nK)<|mU 1 (nW rfl)<|mU 2 (nk 5)<|nI 3 (λw' u=>mZ (Y.kq u))<|nI 4 (λw' u=>mZ (a0.kq u))<|nI 5 (λw' u=>KY (k:=3) (e:=121) (.agg zP.toArray) none dA dA Mi (Z.nu u (by first |(simp;done)|(simp;omega)|(simp[*];done)|exact pG (Or.inl eu)|exact pG (Or.inr ig)|exact λg y=>ag eu (vI y).1|(intro b o e;cases e;exact pG (Or.inl eu))|(intro b y;have:=(hu.lt b (ah.1 y)).1;omega)|(intro b o e;cases e;intro y;have:=(hu.lt _ (ah.1 y)).1;omega)|assumption)) rfl rfl n rfl hn eu R)<|mU 6 (nK)<|mU 7 (nJ rfl rfl)<|mU 8 (nJ rfl rfl)<|nS 9 dA<|qJ rfl rfl<|nU (List.replicate 512 (Value.int .u8 0)) dA<|λC b5 B D r=>?_
 have M:=X.add0 r;refine⟨M,?_⟩;have a1:q<C:=ae j.lt B;have a2:I<C:=ae i.lt B;have a3:J<C:=ae f.lt B;replace h:=h.nA r B D.lt;replace a:=a.new r;replace j:=j.new r;replace i:=i.new r;replace f:=f.new r;refine nS 10 dA<|qR rfl rfl<|nT 512 (zP) D<|λa4 D s=>?_
 have a5:=M.aq s;refine⟨a5,?_⟩;replace h:=h.only s eG;replace a:=a.oq s;replace j:=j.only s (ai a1);replace i:=i.only s (ai a2);replace f:=f.only s (ai a3);refine mU 11 (rA)<|oL dA<|ny<|mR<|mP<|mQ<|tC rfl (rfl)<|nL<|ny<|ng<|mR<|mP<|mO (nW rfl)<|mO (nk 6)<|mO (mZ j)<|mO (sV)<|nD (G _ _ a4 h.own.sl _ i) ?_
 rintro _ b6 ⟨rfl,z⟩;replace h:=h.new z;replace a:=a.new z;replace j:=j.new z;replace i:=i.new z;replace f:=f.new z;refine nV<|mP<|mO (tN rfl rfl)<|mQ<|sU rfl (eu)<|mR<|mP<|mO (nW rfl)<|mO (nk 6)<|mO (mZ j)<|mP<|mO (rE (e:=164) (sz:=513) dA rfl rfl (sj P.cl n) eu eu)<|mO (nk 1)<|mO (ou rfl (QQ h.own.sl hok.cl hc))<|nH<|nT 512 (bv c.page) f<|λb7 f E=>?_
 replace h:=h.only E eG;replace a:=a.oq E;replace i:=i.only E (ai V);refine pV<|mP<|mO (mZ i)<|mO (oI 512 f)<|nD (Ca h hok.cl hok.cll hok.fr2 hok.frm n c.page F) ?_
 rintro _ b8 ⟨rfl,⟨cv2,h⟩,N⟩;replace a:=a.lq N;replace f:=f.kl N;refine pV<|mO (oI 512 f)<|nH<|nT 512 (bv c.page) f<|λb9 f O=>?_
 replace h:=h.only O eG;replace a:=a.oq O;refine mV<|mQ<|nQ<|qb<|nR [_,_] ⟨⟨_,rfl,Ld.qp (k:=512) f dA dA gp⟩,rfl,trivial⟩ ?_
 exact⟨rfl,⟨_,h.weak (λb hb=>by simp[hb])⟩,a⟩
theorem zp5(h:oJ g x q mc md cv cv Y lo L P w)(hok:xD P)(n:Nat)(hn:n<P.n)(hb:P.di n=none)(hc:P.cl[sj P.cl n]?=none):
   CQ 136 [.pointer (some ⟨q,0,none⟩), .int .i64 (n:Int)] w (λv w'=>v= .tuple #[.agg (bv (vH P.D (1+P.G.size+n*4))).toArray, .int .i64 0]/\(∃ cv',oJ g x q mc md cv' cv' Y lo L {P with cl:=frameC P.fr P.cl n (vH P.D (1+P.G.size+n*4))} w')/\mX lo L w w'):=by
 have r:=mX.refl lo L w;have g4:=h.BV;have g5:maxLen=9223372036854775807:=by decide
 have g6:=List.getElem?_eq_none_iff.1 hc;have d1:ru P.di n=none:=by unfold ru;rw[hb];rfl
 have s:=h.row;unfold tF at s;have t:=h.mdi;have g7:zP.length=512:=bi;have g8:∀ v∈zP,Value.oneCell' v=true:=λv a3=>by rw[(dX.1 a3).2];rfl
 have b3:=λp H w' (h:nC w' p P.cl.length 513 (pY P.cl)) b (hb:row w' b [.int .i64 (n:Int)] 3)=>Dx P.cl hok.cl p H P.cl.length rfl b n w' h hb
 simp only[if_neg (show¬sj P.cl n<P.cl.length by omega)]at b3;obtain⟨b4,g9,d2⟩:=Oy hok hn;have b5:=λw'=>CR P.G.size n w' d2 eu
 obtain⟨a,d3⟩:=aa (1+P.G.size+n*4);rw[d3]at b5 b4 |-;have d4:=(yV h.lg.fst).1;obtain⟨I,b6⟩:=zkv d4 b4;have d5:=fun(i:Nat) (d6:i<4) L' w' (d7:oJ g x q mc md cv cv Y lo L' P w')=>Dh d7.lg.fst ((a:Int)+(i:Int))
 obtain⟨V,H,d8,h0⟩:=h.WV;subst d8;obtain⟨X,hX⟩:=aa (vH P.D a);rw[hX]at I b6 |-;have h1:(bv X).length=512:=by rw[oh];exact I
 refine nP (fn:=Tryz.f136) (rs:=[.cell 4 121, .tmp 5]) (n:=80) Tryz.func136 rfl rfl Tryz.ntmps136 dA rfl<|mR<|nz<|oV ([_]) rfl<|λA h2 a4 l Z=>?_
 have h3:=r.size;have h4:q<A:=ae s.lt a4;have h5:md<A:=ae t.lt a4;replace h:=h.nA Z a4 l.lt;replace r:=r.new Z;replace s:=s.new Z;replace t:=t.new Z;refine nz<|nU (List.replicate 512 (Value.int .u8 0)) dA<|λy h6 a0 c N=>?_
 have h7:q<y:=ae s.lt a0;have h8:md<y:=ae t.lt a0;have d9:A<y:=ae l.lt a0;replace h:=h.nA N a0 c.lt;replace r:=r.new N;replace s:=s.new N;replace t:=t.new N;replace l:=l.new N;refine mV<|mQ<|ng<|ng<|qz [] dA ?_
 intro h9 J b7;replace h:=h.new J;replace r:=r.new J;replace s:=s.new J;replace t:=t.new J;replace l:=l.new J;replace c:=c.new J;have e0:=s;have e1:=t;have e2:=l;refine mU 0 (nK)<|mU 1 (nW rfl)<|mU 2 (nk 5)<|nI 3 (λw' C=>mZ (e0.kq C))<|nI 4 (λw' C=>mZ (e2.kq C))<|nI 5 (λw' C=>KY (k:=3) (e:=121) (.agg zP.toArray) none dA dA Mi (e1.nu C (by first |(simp;done)|(simp;omega)|(simp[*];done)|exact pG (Or.inl eu)|exact pG (Or.inr ig)|exact λg O=>ag eu (vI O).1|(intro b o e;cases e;exact pG (Or.inl eu))|(intro b O;have:=(hu.lt b (ah.1 O)).1;omega)|(intro b o e;cases e;intro O;have:=(hu.lt _ (ah.1 O)).1;omega)|assumption)) rfl rfl n rfl hn eu d1)<|mU 6 (nK)<|mU 7 (nJ rfl rfl)<|mU 8 (nJ rfl rfl)<|nS 9 dA<|qJ rfl rfl<|nU (List.replicate 512 (Value.int .u8 0)) dA<|λa1 i0 K a5 F=>?_
 have b8:=b7.add0 F;refine⟨b8,?_⟩;have i1:=ag b7.size K;have e3:q<a1:=ae s.lt K;have e4:md<a1:=ae t.lt K;have e5:A<a1:=ae l.lt K;have e6:y<a1:=ae c.lt K;replace h:=h.nA F K a5.lt;replace r:=r.new F;replace s:=s.new F;replace t:=t.new F;replace l:=l.new F;replace c:=c.new F;refine nS 10 dA<|qR rfl rfl<|nT 512 (zP) a5<|λe7 a5 G=>?_
 have e8:=b8.aq G;refine⟨e8,?_⟩;replace h:=h.only G eG;replace r:=r.oq G;replace s:=s.only G (ai e3);replace t:=t.only G (ai e4);replace l:=l.only G (ai e5);replace c:=c.only G (ai e6);refine mU 11 (rA)<|oL dA<|ny<|mR<|mP<|mQ<|tC rfl (rfl)<|nL<|ny<|ng<|mR<|mP<|mO (nW rfl)<|mO (nk 6)<|mO (mZ s)<|mO (sV)<|nD (b3 _ _ e7 h.own.sl _ l) ?_
 rintro _ e9 ⟨rfl,M⟩;replace h:=h.new M;replace r:=r.new M;replace s:=s.new M;replace t:=t.new M;replace l:=l.new M;replace c:=c.new M;refine nV<|mP<|mO (tN rfl rfl)<|mQ<|pJ rfl (eu)<|nL<|ny<|ng<|mR<|mP<|mQ<|oU ?_;have b9:row e9 y (bv (yB X 0)) 121:=by rw[Ho];exact c
 refine qZ (α:=Nat) 0 (λi=>[(44, .int .i64 (i:Nat)),(0, .pointer (some ⟨q,0,none⟩)),(3, .pointer (some ⟨A,0,none⟩)),(4, .pointer (some ⟨y,0,none⟩))])
   (λi w'=>i<=4/\row w' y (bv (yB X i)) 121/\row w' A [.int .i64 (n:Int)] 3/\oJ g x q mc md (.slice V P.cl.length H) (.slice V P.cl.length H) Y lo (y::A::L) P w'/\mX lo L w w') (λi=>4 - i)
   ⟨rfl,rfl,rfl,rfl,rfl⟩ ⟨aC _,b9,l,h.weak (λb hb=>by simp at hb;simp[hb]),r⟩ ?_
 clear h r s t l c b9;rintro i f i2 ⟨d6,c,l,h,r⟩;have s:=h.row;unfold tF at s;refine mR<|mO (pE rfl rfl)<|mQ<|ng<|oP rfl (λf0=>?_)<|λf0=>?_
 ·
  refine lF ?_;obtain⟨S,a6⟩:=aa ((X.drop (128*i)).take 128);have f1:xy P.D ((a:Int)+(i:Int))=true:=decide_eq_true eu;have a7:=d5 i eu;rw[f1,if_pos rfl,if_pos rfl,show((a:Int)+(i:Int)).toNat=a+i by omega,<-b6 i eu,a6]at a7;have f2:S.length=128:=by rw[<-a6,aH,aL];omega
  have a8:(bv S).length=128:=by rw[oh];exact f2
  have f3:=zp2 I eu a6;have f4:=zrH I (i:=i) eu;have i3:(bv (yB X i)).length=512:=by rw[oh];exact f4
  have i4:=l.lt;have i5:=c.lt;refine nM<|mP<|mV<|mQ<|xO (λu:Nat=>[(44, .int .i64 (i:Nat)),(9, .int .i64 (i:Nat)),(10, .pointer (some ⟨u,0,none⟩)),(11, .int .i64 0),(0, .pointer (some ⟨q,0,none⟩)),(3, .pointer (some ⟨A,0,none⟩)),(4, .pointer (some ⟨y,0,none⟩))]) (λu w'=>row w' u (bv S) 265/\row w' y (bv (yB X i)) 121/\row w' A [.int .i64 (n:Int)] 3/\oJ g x q mc md (.slice V P.cl.length H) (.slice V P.cl.length H) Y lo (u::y::A::L) P w'/\mX lo L w w'/\y<u/\A<u) ?_ ?_
  ·
   refine qz [] dA ?_;intro f5 Q a9;replace h:=h.new Q;replace r:=r.new Q;replace s:=s.new Q;replace l:=l.new Q;replace c:=c.new Q;have c4:=s;have f6:=l;refine mU 0 (nK)<|mU 1 (nW rfl)<|mU 2 (nk 0)<|nI 3 (λw' C=>mZ (c4.kq C))<|mU 4 (nK)<|mU 5 (nW rfl)<|mU 6 (nk 2)<|nI 7 (λw' C=>mZ (c4.kq C))<|nI 8 (λw' C=>mZ (f6.kq C))<|yM 9 dA rfl (λ_=>nX dA rfl) (λw' C=>b5 w')<|mU 10 (nK)<|mU 11 (om rfl rfl (Coup.nN eu))<|yP 12 16 dA ?_ ?_
   ·
    refine qf rfl rfl (nX dA rfl) (a7 _ f5 h) ?_;rintro _ f7 ⟨rfl,B⟩;have b0:=a9.add0 B;refine⟨b0,?_⟩;replace h:=h.new B;replace r:=r.new B;replace s:=s.new B;replace l:=l.new B;replace c:=c.new B;refine mU 13 (nK)<|mU 14 (nJ rfl rfl)<|mU 15 (nJ rfl rfl)<|nS 16 dA<|qJ rfl rfl<|nU (List.replicate 128 (Value.int .u8 0)) dA<|λu c5 D z E=>?_
    have c6:=b0.add0 E;refine⟨c6,?_⟩;have i6:=ag b0.size D;have f8:q<u:=ae s.lt D;have b1:A<u:=ae l.lt D;have b2:y<u:=ae c.lt D;replace h:=h.nA E D z.lt;replace r:=r.new E;replace l:=l.new E;replace c:=c.new E;refine nS 17 dA<|qR rfl rfl<|nT 128 (bv S) z<|λi7 z R=>?_
    have f9:=c6.aq R;refine⟨f9,?_⟩;replace h:=h.only R eG;replace r:=r.oq R;replace l:=l.only R (ai b1);replace c:=c.only R (ai b2);refine mU 18 (rA)<|oL dA<|oO ⟨u,⟨rfl,rfl,rfl,rfl,rfl,rfl,rfl,rfl⟩,z,c,l,h,r,eu,eu⟩
   ·
    refine qJ rfl rfl<|nU (List.replicate 128 (Value.int .u8 0)) dA<|λu c5 D z E=>?_
    have c7:=a9.add0 E;refine⟨c7,?_⟩;have i8:=ag a9.size D;have f8:q<u:=ae s.lt D;have b1:A<u:=ae l.lt D;have b2:y<u:=ae c.lt D;replace h:=h.nA E D z.lt;replace r:=r.new E;replace l:=l.new E;replace c:=c.new E;refine nS 12 dA<|qf rfl rfl (nX dA rfl) (a7 _ c5 h) ?_
    rintro _ f7 ⟨rfl,B⟩;have c8:=c7.add0 B;refine⟨c8,?_⟩;replace h:=h.new B;replace r:=r.new B;replace l:=l.new B;replace c:=c.new B;replace z:=z.new B;refine mU 13 (nK)<|mU 14 (nJ rfl rfl)<|mU 15 (nJ rfl rfl)<|nS 17 dA<|qR rfl rfl<|nT 128 (bv S) z<|λi9 z T=>?_
    have g0:=c8.aq T;refine⟨g0,?_⟩;replace h:=h.only T eG;replace r:=r.oq T;replace l:=l.only T (ai b1);replace c:=c.only T (ai b2);refine mU 18 (rA)<|oL dA<|oO ⟨u,⟨rfl,rfl,rfl,rfl,rfl,rfl,rfl,rfl⟩,z,c,l,h,r,eu,eu⟩
  ·
   clear h r l c;rintro u j0 w2 ⟨z,c,l,h,r,j1,j2⟩;refine ng<|mR<|mP<|mO (oD rfl rfl)<|mQ<|pJ rfl (ig)<|nL<|ny<|qz [y] dA ?_
   intro j3 U g1;replace h:=h.new U;replace r:=r.new U;replace l:=l.new U;replace c:=c.new U;replace z:=z.new U;refine mU 0 (nK)<|mU 1 (yD rfl rfl (Coup.nN eu))<|mU 2 (xQ (e:=5) (n:=512) (128*i) (512) (512) (512 - 128*i) dA rfl ⟨_,_,rfl,eu⟩ rfl rfl ig eu eu eu eu eu)<|mU 3 (xQ (e:=5) (n:=128) (0) (128) (128) (128) dA rfl rfl rfl rfl ig eu eu eu eu eu)<|nS 4 dA<|qJ rfl rfl<|Qd (e:=5) dA dA rfl rfl y ((0+128*i)) c (bv S) (by rw[a8];exact(bP eu).symm) (λ_=>⟨rfl,_,rfl,λj v a3=>by rw[Addr.add_lit];exact(z.ul (m:=128) (sz:=1) a8 eu).cell j a3⟩) (by rw[a8];omega) (tq _)<|λj4 c a2=>?_
   have g2:=g1.aq a2;refine⟨g2,?_⟩;replace h:=h.only a2 eG;replace r:=r.oq a2;replace l:=l.only a2 (ai d9);refine oL dA<|pW<|ny<|nM<|mO (om rfl rfl (Coup.nN eu))<|mP<|oH ?_
   rw[bg,f3]at c;refine oO ⟨i+1,eu,⟨by go_num,rfl,rfl,rfl,rfl⟩,eu,c,l,h.weak (λb hb=>aj _ hb),r⟩
 ·
  have g3:i=4:=by omega
  subst g3;rw[Gx I]at c;refine qP<|qL<|rf<|qX<|ny<|mR<|mP<|mO (mZ l)<|mO (oI 512 c)<|nD (Ca h hok.cl hok.cll hok.fr2 hok.frm n X I) ?_
  rintro _ j5 ⟨rfl,⟨cv2,h⟩,c9⟩;replace r:=r.lq c9;replace c:=c.kl c9;refine pV<|mO (oI 512 c)<|nH<|nT 512 (bv X) c<|λj6 c d0=>?_
  replace h:=h.only d0 eG;replace r:=r.oq d0;refine lJ ?_;exact⟨rfl,⟨_,h.weak (λb hb=>by simp[hb])⟩,r⟩
theorem zkw(h:oJ g x q mc md cv cv Y lo L P w)(hok:xD P)(n:Nat)(hn:n<P.n):
  CQ 136 [.pointer (some ⟨q,0,none⟩), .int .i64 (n:Int)] w (λv w'=>v= .tuple #[.agg (bv (wI P n)).toArray, .int .i64 0]/\(∃ cv',oJ g x q mc md cv' cv' Y lo L (vV P n) w')/\mX lo L w w'):=by
 cases hb:P.di n with
 |some b=>
  have a:wI P n=b:=by unfold wI;rw[hb]
  have e:vV P n=P:=by unfold vV;rw[hb]
  rw[a,e];exact zp3 h hok n hn hb
 |none=>
  have e:vV P n={P with cl:=frameC P.fr P.cl n (wI P n)}:=by unfold vV;rw[hb]
  cases hc:P.cl[sj P.cl n]? with
  |some c=>
   have a:wI P n=c.page:=by unfold wI;rw[hb,hc]
   rw[e,a];exact zp4 h hok n hn hb hc
  |none=>
   have a:wI P n=vH P.D (1+P.G.size+n*4):=by unfold wI;rw[hb,hc]
   rw[e,a];exact zp5 h hok n hn hb hc
end
theorem Uy(P:Pl)(n:Nat):(vV P n).D=P.D/\(vV P n).G=P.G/\(vV P n).fr=P.fr/\(vV P n).ch=P.ch/\(vV P n).di=P.di/\(vV P n).dead=P.dead/\(vV P n).n=P.n:=by
 unfold vV
 split<;>exact⟨rfl,rfl,rfl,rfl,rfl,rfl,rfl⟩
def yo(P:Pl)(n:Nat):Pg:=match P.ch n with
 |some b=>b
 |none=>wI P n
def Ef(P:Pl)(n:Nat):Pl:=match P.ch n with
 |some _=>P
 |none=>vV P n
def Gj(P:Pl)(n:Nat)(X:Pg):Pl:={vV P n with ch:=uJ P.ch n (if X=wI P n then none else some X)}
theorem ztN(c:sH)(i:Nat)(a b:Option Pg):uJ (uJ c i a) i b=uJ c i b:=by
 funext j
 unfold uJ
 split<;>rfl
section
variable {Y:World->List Nat->Prop}[mW Y]{g x q mc md lo:Nat}{rv cv:Value}{L:List Nat}{P:Pl}{w:World}
theorem QT(h:oJ g x q mc md rv cv Y lo L P w)(hsz:P.G.size<=4000)(n:Int)(hne:xN P n≠0):CQ 118 [.pointer (some ⟨q,0,none⟩), .int .i64 n] w (λv w'=>v= .tuple #[.agg zP.toArray, .int .i64 (xN P n)]/\Below w.heap.size w w'):=by
 have a:=Below.refl w.heap.size w;have f:=λw' (j:oJ g x q mc md rv cv Y lo L P w')=>Nu j hsz n
 have y:zP.length=512:=bi;have z:∀ v∈zP,Value.oneCell' v=true:=λv l=>by rw[(dX.1 l).2];rfl
 obtain⟨e,m⟩:=aa (xN P n);rw[m]at f hne |-;have o:=λw' (hb:Below w.heap.size w w')=>h.new hb
 refine nP (fn:=Tryz.f118) (rs:=[.cell 4 121, .tmp 5]) (n:=32) Tryz.func118 rfl rfl Tryz.ntmps118 dA rfl<|mR<|nz<|nU (List.replicate 512 (Value.int .u8 0)) dA<|λA p r c s=>?_
 have t:=ag a.size r;replace a:=a.acc s;refine mV<|mQ<|ng<|mR<|mP<|mP<|nD (f p (o _ a)) ?_
 rintro _ B ⟨rfl,i⟩;replace c:=c.new i;replace a:=a.acc i;refine nV<|mP<|mO (oD rfl rfl)<|mQ<|sU rfl (hne)<|mR<|mO (Ae (List.replicate 512 (Value.int .u8 0)) dA)<|mP<|nH<|nT 512 (zP) c<|λC c u=>?_
 replace a:=u.below a t;refine lI ?_;exact⟨rfl,a⟩
theorem JS(h:oJ g x q mc md cv cv Y lo L P w)(hok:xD P)(hde:P.dead=false)(n:Nat)(hn:n<P.n):CQ 118 [.pointer (some ⟨q,0,none⟩), .int .i64 (n:Int)] w (λv w'=>v= .tuple #[.agg (bv (yo P n)).toArray, .int .i64 0]/\(∃ cv',oJ g x q mc md cv' cv' Y lo L (Ef P n) w')/\mX lo L w w'):=by
 have c:=mX.refl lo L w;have Z:=h.BV.1;have M:=(yV h.lg.fst).1;have N:xN P n=0:=by unfold xN;rw[hde,if_neg ig,if_pos eu]
 have C:=λL' w' (D:oJ g x q mc md cv cv Y lo L' P w')=>Nu D hok.lg.szm n
 rw[N]at C;have G:=Zw hok M hn;have H:=λL' w' (D:oJ g x q mc md cv cv Y lo L' P w')=>zkw D hok n hn
 obtain⟨I,hX⟩:=aa (wI P n);rw[hX]at G;simp only[hX]at H;have a0:(bv I).length=512:=by rw[oh];exact G
 have a1:zP.length=512:=bi;have a2:∀ v∈zP,Value.oneCell' v=true:=λv O=>by rw[(dX.1 O).2];rfl
 obtain⟨o,A⟩:=aa (ru P.ch n);have f:=h.row;unfold tF at f;have i:=h.mch;unfold yo Ef;cases hch:P.ch n with
 |some b=>
 have a3:(bv b).length=512:=by rw[oh];exact hok.ch n b hch
 have E:o=some (.agg (bv b).toArray):=by rw[<-A];unfold ru;rw[hch];rfl
 subst E;dsimp only;refine nP (fn:=Tryz.f118) (rs:=[.cell 4 121, .tmp 5]) (n:=32) Tryz.func118 rfl rfl Tryz.ntmps118 dA rfl<|mR<|nz<|nU (List.replicate 512 (Value.int .u8 0)) dA<|λu F y a m=>?_
 have Q:q<u:=ae f.lt y;have R:mc<u:=ae i.lt y;replace h:=h.nA m y a.lt;replace c:=c.new m;replace f:=f.new m;replace i:=i.new m;refine mV<|mQ<|ng<|mR<|mP<|mP<|nD (C _ F h) ?_
 rintro _ S ⟨rfl,j⟩;replace h:=h.new j;replace c:=c.new j;replace f:=f.new j;replace i:=i.new j;replace a:=a.new j;refine nV<|mP<|mO (oD rfl rfl)<|mQ<|pJ rfl (ig)<|nL<|ny<|ng<|mR<|mP<|mO (nW rfl)<|mO (nk 4)<|mO (mZ f)<|mP<|mO (KY (k:=3) (e:=121) (.agg zP.toArray) (some (.agg (bv b).toArray)) dA dA Mi i rfl rfl n rfl hn eu A)<|mP<|mO (nJ rfl rfl)<|mO (nJ rfl rfl)<|nz<|nU (List.replicate 512 (Value.int .u8 0)) dA<|λz T t l p=>?_
 have U:q<z:=ae f.lt t;have V:mc<z:=ae i.lt t;have B:u<z:=ae a.lt t;replace h:=h.nA p t l.lt;replace c:=c.new p;replace f:=f.new p;replace i:=i.new p;replace a:=a.new p;refine nH<|nT 512 (bv b) l<|λJ l r=>?_
 replace h:=h.only r eG;replace c:=c.oq r;replace f:=f.only r (ai U);replace i:=i.only r (ai V);replace a:=a.only r (ai B);refine nV<|mP<|mQ<|uC rfl (rfl)<|mR<|mO (oI 512 l)<|nH<|nT 512 (bv b) a<|λX a s=>?_
 replace h:=h.only s eG;replace c:=c.oq s;replace f:=f.only s (ai Q);replace i:=i.only s (ai R);replace l:=l.only s (bA B);refine mV<|mQ<|nQ<|qb<|nR [_,_] ⟨⟨_,rfl,Ld.qp (k:=512) a dA dA gp⟩,rfl,trivial⟩ ?_
 exact⟨rfl,⟨_,h.weak (λb hb=>by simp[hb])⟩,c⟩
 |none=>
 have E:o=none:=by rw[<-A];unfold ru;rw[hch];rfl
 subst E;dsimp only;rw[hX];refine nP (fn:=Tryz.f118) (rs:=[.cell 4 121, .tmp 5]) (n:=32) Tryz.func118 rfl rfl Tryz.ntmps118 dA rfl<|mR<|nz<|nU (List.replicate 512 (Value.int .u8 0)) dA<|λu F y a m=>?_
 replace h:=h.nA m y a.lt;replace c:=c.new m;replace f:=f.new m;replace i:=i.new m;refine mV<|mQ<|ng<|mR<|mP<|mP<|nD (C _ F h) ?_
 rintro _ S ⟨rfl,j⟩;replace h:=h.new j;replace c:=c.new j;replace f:=f.new j;replace i:=i.new j;replace a:=a.new j;refine nV<|mP<|mO (oD rfl rfl)<|mQ<|pJ rfl (ig)<|nL<|ny<|ng<|mR<|mP<|mO (nW rfl)<|mO (nk 4)<|mO (mZ f)<|mP<|mO (KY (k:=3) (e:=121) (.agg zP.toArray) none dA dA Mi i rfl rfl n rfl hn eu A)<|mP<|mO (nJ rfl rfl)<|mO (nJ rfl rfl)<|nz<|nU (List.replicate 512 (Value.int .u8 0)) dA<|λz T t l p=>?_
 have B:u<z:=ae a.lt t;replace h:=h.nA p t l.lt;replace c:=c.new p;replace a:=a.new p;refine nH<|nT 512 (zP) l<|λJ l r=>?_
 replace h:=h.only r eG;replace c:=c.oq r;replace a:=a.only r (ai B);refine nV<|mP<|mQ<|tC rfl (rfl)<|nL<|ny<|mR<|mP<|mP<|nD (H _ J h) ?_
 rintro _ a4 ⟨rfl,⟨cv2,h⟩,K⟩;replace c:=c.lq K;replace a:=a.kl K;refine mO (nJ rfl rfl)<|mO (nJ rfl rfl)<|nH<|nT 512 (bv I) a<|λX a s=>?_
 replace h:=h.only s eG;replace c:=c.oq s;refine mV<|mQ<|nQ<|nR [_,_] ⟨⟨_,rfl,Ld.qp (k:=512) a dA dA gp⟩,rfl,trivial⟩ ?_
 exact⟨rfl,⟨_,h.weak (λb hb=>by simp[hb])⟩,c⟩
theorem Qy(h:oJ g x q mc md rv cv Y lo L P w)(hsz:P.G.size<=4000)(n:Int)(X:Pg)(hne:xN P n≠0):CQ 71 [.pointer (some ⟨q,0,none⟩), .int .i64 n, .agg (bv X).toArray] w (λv w'=>v= .int .i64 (xN P n)/\Below w.heap.size w w'):=by
 have a:=Below.refl w.heap.size w;have c:=λw' (f:oJ g x q mc md rv cv Y lo L P w')=>Nu f hsz n
 obtain⟨e,i⟩:=aa (xN P n);rw[i]at c hne |-;have j:=λw' (hb:Below w.heap.size w w')=>h.new hb
 refine nP (fn:=Tryz.f71) (rs:=[.tmp 6]) (n:=39) Tryz.func71 rfl rfl Tryz.ntmps71 dA rfl<|mR<|nz<|oV (bv X) rfl<|λo k p r l=>?_
 replace a:=a.acc l;refine mV<|mQ<|ng<|mR<|mP<|mP<|nD (c k (j _ a)) ?_
 rintro _ s ⟨rfl,m⟩;replace a:=a.acc m;refine nV<|mP<|mO (oD rfl rfl)<|mQ<|sU rfl (hne)<|mR<|mP<|mV<|mQ<|nQ<|qb<|nR [_] ⟨rfl,trivial⟩ ?_;exact⟨rfl,a⟩
theorem MC(h:oJ g x q mc md cv cv Y lo L P w)(hok:xD P)(hde:P.dead=false)(n:Nat)(hn:n<P.n)(X:Pg)(hX:X.length=512):CQ 71 [.pointer (some ⟨q,0,none⟩), .int .i64 (n:Int), .agg (bv X).toArray] w (λv w'=>v= .int .i64 0/\(∃ cv',oJ g x q mc md cv' cv' Y lo L (Gj P n X) w')/\mX lo L w w'):=by
 have c:=mX.refl lo L w;have R:=h.BV.1;have S:=(yV h.lg.fst).1;have T:xN P n=0:=by unfold xN;rw[hde,if_neg ig,if_pos eu]
 have G:=λL' w' (t:oJ g x q mc md cv cv Y lo L' P w')=>Nu t hok.lg.szm n
 rw[T]at G;have u:=Zw hok S hn;have v:=λL' w' (t:oJ g x q mc md cv cv Y lo L' P w')=>zkw t hok n hn
 obtain⟨s,y⟩:=aa (wI P n);rw[y]at u;simp only[y]at v;obtain⟨U,V,Z,H,a0,a1,I⟩:=Uy P n;unfold Gj;rw[y];obtain⟨P2,J⟩:=aa (vV P n);rw[J]at U V Z H a0 a1 I |-;simp only[J]at v;rw[<-H];rw[<-I]at hn R;have b2:(bv s).length=512:=by rw[oh];exact u
 have b3:(bv X).length=512:=by rw[oh];exact hX
 obtain⟨b4,b5⟩:=h.mcl;have b6:=h.qm;refine nP (fn:=Tryz.f71) (rs:=[.tmp 6]) (n:=39) Tryz.func71 rfl rfl Tryz.ntmps71 dA rfl<|mR<|nz<|oV (bv X) rfl<|λK a2 a3 f M=>?_
 replace h:=h.nA M a3 f.lt;replace c:=c.new M;refine mV<|mQ<|ng<|mR<|mP<|mP<|nD (G _ a2 h) ?_
 rintro _ a4 ⟨rfl,z⟩;replace h:=h.new z;replace c:=c.new z;replace f:=f.new z;refine nV<|mP<|mO (oD rfl rfl)<|mQ<|pJ rfl (ig)<|nL<|ny<|mR<|mP<|mP<|nD (v _ a4 h) ?_;rintro _ b7 ⟨rfl,⟨cv2,h⟩,N⟩;replace c:=c.lq N;replace f:=f.kl N;refine mP<|mO (nJ rfl rfl)<|mO (nJ rfl rfl)<|nz<|nU (List.replicate 512 (Value.int .u8 0)) dA<|λO b8 Q m A=>?_
 have a5:K<O:=ae f.lt Q;replace h:=h.nA A Q m.lt;replace c:=c.new A;replace f:=f.new A;refine nH<|nT 512 (bv s) m<|λb9 m B=>?_
 replace h:=h.only B eG;replace c:=c.oq B;replace f:=f.only B (ai a5);refine mV<|mQ<|ng<|mR<|mP<|mO (oD rfl rfl)<|mQ<|pJ rfl (ig)<|nL<|ny<|ng ?_
 have l:=h.row;unfold tF at l;refine nM<|mP<|mO (nW rfl)<|mO (nk 4)<|mO (mZ l)<|mP ?_
 have a:=h.mch;have c4:K≠mc:=λe=>h.mcl.2 kg
 have c5:O≠mc:=λe=>h.mcl.2 kg
 refine nz<|ZM (k:=3) (e:=121) dA dA a rfl rfl n jZ eu eu<|λa6 a p=>?_
 replace c:=c.oq p;replace f:=f.only p eu;replace m:=m.only p eu;replace l:=l.only p eu;rw[zrz]at a;replace h:=h.QO a p;refine mQ<|ng<|mR<|mO (oI 512 f)<|mO (oI 512 m)<|mO (TI (n:=512) dA rfl rfl hX u)<|mQ<|Js rfl (λC=>?_)<|λC=>?_
 ·
  have a:MapAt Tryz.prog 3 a6 mc P2.n (ru (uJ P2.ch n none)):=h.mch;have D:=h;refine qz [mc] dA ?_;intro c6 r a7;replace c:=c.new r;replace f:=f.new r;replace l:=l.new r;replace a:=a.new r;replace D:=D.new r;have a8:=f;have a9:=l;have j:=a;refine mU 0 (nK)<|mU 1 (nW rfl)<|mU 2 (nk 4)<|nI 3 (λw' i=>ou rfl (Ld.qN (a9.nu i jR) dA rfl))<|mU 4 (nK)<|nI 5 (λw' i=>ou rfl (Ld.qp (k:=512) (a8.nu i jR) dA dA gp))<|nS 6 dA<|qR rfl rfl<|LM (k:=3) (e:=121) (.agg (bv X).toArray) dA dA a rfl rfl rfl (n) jZ eu eu<|λc7 a E=>?_
  have b0:=a7.aq E;refine⟨b0,?_⟩;replace c:=c.oq E;rw[Rn,ztN]at a;have b1:=D.QO a E;refine lW ?_;have F:¬X=s:=C;rw[if_neg F];exact⟨rfl,⟨_,b1.weak (λb hb=>by simp[hb])⟩,c⟩
 ·
  have F:X=s:=C;rw[if_pos F];refine nL<|ny<|mR<|mV<|mQ<|nQ<|nR [_] ⟨rfl,trivial⟩ ?_
  exact⟨rfl,⟨_,h.weak (λb hb=>by simp[hb])⟩,c⟩
end
def tL(c:sH):Nat->Nat->List (Nat × Pg)
 |_,0=>[]
 |a,m+1=>match c a with
  |some b=>(a,b)::tL c (a+1) m
  |none=>tL c (a+1) m
theorem Vn(c:sH):∀ (m a:Nat),keysOf (ru c) a m=(tL c a m).map λp=>(p.1:Int)
 |0,a=>rfl
 |m+1,a=>by
  have e:=Vn c m (a+1);rw[keysOf,tL,e];unfold ru;cases c a<;>rfl
theorem Et{c:sH}:∀ {m a:Nat} {p:Nat × Pg},p∈tL c a m->c p.1=some p.2/\a<=p.1/\p.1<a+m
 |0,a,p,c=>nomatch c
 |m+1,a,p,c=>by
  rw[tL]at c
  split at c
  .rcases ak.1 c with rfl|c
   .exact⟨‹_›,ax _,eu⟩
   .have:=Et c;exact⟨this.1,eu,eu⟩
  .have:=Et c;exact⟨this.1,eu,eu⟩
theorem WY(c:sH):∀ (m a:Nat),(tL c a m).length<=m
 |0,a=>ax _
 |m+1,a=>by
  have:=WY c m (a+1);rw[tL]
  split
  .rw[aD];omega
  .omega
def sN(s:Nat):Dk->List (Nat × Pg)->Dk × Bool
 |D,[]=>(D,true)
 |D,p::l=>if(qH D (1+s+p.1*4) (qM p.2 4)).2 then sN s (qH D (1+s+p.1*4) (qM p.2 4)).1 l else((qH D (1+s+p.1*4) (qM p.2 4)).1,false)
theorem VY(s:Nat):∀ (l m:List (Nat × Pg)) (D:Dk),sN s D (l++m)=if(sN s D l).2 then sN s (sN s D l).1 m else sN s D l
 |[],m,D=>rfl
 |p::l,m,D=>by
  rw[bV,sN,sN]
  by_cases a:(qH D (1+s+p.1*4) (qM p.2 4)).2=true
  .rw[if_pos a,if_pos a];exact VY s l m _
  .rw[if_neg a,if_neg a];rfl
theorem Ty(s:Nat):∀ (l:List (Nat × Pg)) (D:Dk),(sN s D l).1.V.length=D.V.length
 |[],D=>rfl
 |p::l,D=>by
  rw[sN]
  split
  .rw[Ty s l,Bi]
  .exact Bi _ _ _
theorem VG(s:Nat):∀ (l:List (Nat × Pg)) (D:Dk) (k:Nat),sK D k->sK (sN s D l).1 (k+4*l.length)
 |[],D,k,h=>h
 |p::l,D,k,h=>by
  have a:=Sa (qM p.2 4) D (1+s+p.1*4) k h;rw[GL]at a;rw[sN,aD]
  split
  .exact xZ (VG s l _ _ a) eu
  .exact xZ a eu
def yc(D:Dk)(G:Lg):Int × Dk × Lg:=
 if G.dead then(10,D,G)else if G.count=4611686018427387904 then(8,D,G)
 else if xg D (G.count+1) (G.count+1)then(0,tV D (G.count+1) (G.count+1),Pq G)else(10,tV D (G.count+1) (G.count+1),{G with dead:=true})
theorem RB(D:Dk)(c s:Nat):(tV D c s).V.length=D.V.length:=by
 unfold tV
 split
 .rw[FK,Vb]
 .exact Vb _ _ _
theorem Ww(D:Dk)(G:Lg):(yc D G).2.1.V.length=D.V.length/\(yc D G).2.2.size=G.size:=by
 unfold yc
 split
 .exact⟨rfl,rfl⟩
 .split
  .exact⟨rfl,rfl⟩
  .split<;>exact⟨RB _ _ _,rfl⟩
def vC(P:Pl):Dk × Bool:=sN P.G.size P.D (tL P.di 0 P.n)
def rZ(P:Pl):Int × Pl:=
 if(vC P).2 then
  if qB (vC P).1 then
   ((yc (su (vC P).1) P.G).1,{P with D:=(yc (su (vC P).1) P.G).2.1,G:=(yc (su (vC P).1) P.G).2.2,di:=if(yc (su (vC P).1) P.G).1=0 then xx else P.di})
  else(10,{P with D:=su (vC P).1})
 else(10,{P with D:=(vC P).1})
section
variable {Y:World->List Nat->Prop}[mW Y]{g x q mc md lo:Nat}{rv cv:Value}{L:List Nat}{P:Pl}{w w':World}
omit [mW Y] in
theorem oJ.IX{D:Dk}(h:oJ g x q mc md rv cv Y lo L P w)(h2:Two (DZ g D) Y lo (x::(cv.ownBlock.toList++q::mc::md::L)) w')(k:mX lo (x::(cv.ownBlock.toList++q::mc::md::L)) w w')(hD:D.V.length=P.D.V.length):
  oJ g x q mc md rv cv Y lo L {P with D:=D} w'/\mX lo (q::md::L) w w':=by
 have k2:mX lo (cv.ownBlock.toList++q::mc::md::L) w w':=k.weak (ax _) λb hb=>aj _ hb
 exact⟨h.Dr ⟨h2,h.lg.rowx.nu k.kp (pG (.inr (aK ..))),h.lg.ge,h.lg.ni⟩ k2 rfl hD,k.weak (ax _) λb hb=>by
  simp only[ak]at hb;rcases hb with hb|hb|hb<;>simp[hb]⟩
theorem Ev(h:oJ g x q mc md rv cv Y lo L P w)(n:Nat)(X:Pg)(hX:X.length=512)(hs:P.G.size<=4000)(hn:1+P.G.size+n*4+4<=P.D.V.length)(hsh:sK P.D 80000):
  CQ 125 [.pointer (some ⟨g,0,none⟩), .int .i64 (P.G.size:Int), .int .i64 (n:Int), .agg (bv X).toArray] w (λv w'=>v= .int .i64 (if(qH P.D (1+P.G.size+n*4) (qM X 4)).2 then 0 else 10)/\oJ g x q mc md rv cv Y lo L {P with D:=(qH P.D (1+P.G.size+n*4) (qM X 4)).1} w'/\mX lo (q::md::L) w w'):=
 (BG h.lg.two P.G.size n X hX hs hn hsh).to λv w' ⟨e,a,k⟩=>⟨e,h.IX a k (Bi _ _ _)⟩
theorem FV(h:oJ g x q mc md rv cv Y lo L P w):
  CQ 152 [.pointer (some ⟨g,0,none⟩)] w (λv w'=>v= .int .i64 (if qB P.D then 0 else 10)/\oJ g x q mc md rv cv Y lo L {P with D:=su P.D} w'/\mX lo (q::md::L) w w'):=
 (Sy h.lg.two).to λv w' ⟨e,a,k⟩=>⟨e,h.IX a k FK⟩
theorem Fj(h:oJ g x q mc md rv cv Y lo L P w)(hc:P.G.count<=4611686018427387904)(hsh:sK P.D 90000):
  CQ 153 [.pointer (some ⟨x,0,none⟩)] w (λv w'=>v= .int .i64 (yc P.D P.G).1/\oJ g x q mc md rv cv Y lo L {P with D:=(yc P.D P.G).2.1,G:=(yc P.D P.G).2.2} w'/\mX lo L w w'):=by
 refine(Ey h.lg hc hsh).to λv w' ⟨e,m,k,o⟩=>?_
 have hr:e=(yc P.D P.G).1/\rF g x Y lo (cv.ownBlock.toList++q::mc::md::L) (yc P.D P.G).2.1 (yc P.D P.G).2.2 w':=by
  unfold yc;rcases o with⟨a,f,c⟩|⟨a,f,c,i⟩|⟨a,f,c,i,j⟩|⟨a,f,c,i,j⟩
  .rw[if_pos a];exact⟨f,c⟩
  .rw[if_neg (by rw[a];simp),if_pos f];exact⟨c,i⟩
  .rw[if_neg (by rw[a];simp),if_neg eu,if_neg (by rw[c];simp)];exact⟨i,j⟩
  .rw[if_neg (by rw[a];simp),if_neg eu,if_pos c];exact⟨i,j⟩
 have l:=Ww P.D P.G;exact⟨by rw[m,hr.1],h.Dr hr.2 k l.2 l.1,h.IP k⟩
theorem oJ.sl{p:Option Addr}{m sz:Nat}{cs:List Value}(h:oJ g x q mc md rv cv Y lo L P w)(hb:Below w.heap.size w w')(hs:nC w' p m sz cs)(hsz:0<sz)(hf:∀ b o,p=some ⟨b,o,none⟩->w.heap.size<=b):
  ∃ L2,(∀ b∈L,b∈L2)/\(0<m->∀ b o,p=some ⟨b,o,none⟩->b∈L2)/\oJ g x q mc md rv cv Y lo L2 P w':=by
 by_cases a:0<m
 .obtain⟨c,op,rfl,f⟩:=hs.some (fo a hsz)
  exact⟨c::L,λb hb=>aj _ hb,λ_ b o e=>by cases e;exact aK ..,h.nA hb (hf c op rfl) f⟩
 .exact⟨L,λb hb=>hb,λg=>absurd g a,h.new hb⟩
theorem ZL(h:oJ g x q mc md cv cv Y lo L P w)(hok:xD P)(hsh:sK P.D 70000):
   CQ 97 [.pointer (some ⟨q,0,none⟩)] w (λv w'=>v= .int .i64 (rZ P).1/\oJ g x q mc md cv cv Y lo L (rZ P).2 w'/\mX lo L w w'):=by
 have f0:=h.BV.1;have f1:maxLen=9223372036854775807:=by decide
 have a9:=hok.lg.szm;have b0:=λn (b1:n<P.n)=>(Oy hok b1).1
 have K:Bq P.di P.n=(tL P.di 0 P.n).map λp=>(p.1:Int):=Vn P.di P.n 0
 have b2:=hok.lg.cm;have V:=Lp h;have Z:=fun(p:Nat × Pg) (hp:p∈tL P.di 0 P.n)=>Et hp
 have b3:=WY P.di P.n 0;obtain⟨R,r⟩:=aa (rZ P);rw[r];unfold rZ vC at r;obtain⟨l,a0⟩:=aa (tL P.di 0 P.n);rw[a0]at K Z b3;simp only[a0]at r;have b4:(Bq P.di P.n).length=l.length:=by rw[K,aQ]
 obtain⟨G,b5⟩:=aa (Bq P.di P.n);rw[b5]at K V b4;have b6:=VG P.G.size l P.D 70000 hsh;have B:=Below.refl w.heap.size w;refine nP (fn:=Tryz.f97) (rs:=[.tmp 2]) (n:=55) Tryz.func97 rfl rfl Tryz.ntmps97 dA rfl<|mR<|mV<|mQ<|ng<|mR<|mP<|nD (V) ?_;rintro _ a1 ⟨⟨p,c,rfl,s,b7⟩,b8⟩;replace B:=B.acc b8;refine lU ?_;have b9:=h.sl B s eu b7;obtain⟨L2,A,c4,a⟩:=b9;have m:=mX.refl lo L2 a1;have f2:=a.UK;refine qZ (α:=Nat) 0 (λi=>[(11, .int .i64 (i:Nat)),(10, .int .i64 (G.length:Int)),(9, .slice p G.length c),(0, .pointer (some ⟨q,0,none⟩))])
   (λi w'=>i<=l.length/\(sN P.G.size P.D (l.take i)).2=true/\oJ g x q mc md cv cv Y lo L2 {P with D:=(sN P.G.size P.D (l.take i)).1} w'/\nC w' p G.length 1 (iv G)/\mX lo L2 a1 w') (λi=>l.length - i)
   ⟨rfl,rfl,rfl,rfl,rfl⟩ ⟨aC _,rfl,a,s,m⟩ ?_
 clear a s m;rintro i f c5 ⟨f3,M,a,s,m⟩;have N:=Ty P.G.size (l.take i) P.D;have a2:=VG P.G.size (l.take i) P.D 70000 hsh;rw[aH]at a2;refine mR<|mO (pE rfl rfl)<|mQ<|ng<|oP rfl (λc6=>?_)<|λc6=>?_
 ·
  refine lF ?_;have c7:∃ c8,l[i]?=some c8:=⟨_,aI eu⟩;obtain⟨⟨n,X⟩,O⟩:=c7;have c9:G[i]?=some (n:Int):=by rw[K,aW,O];rfl
  have Q:=Z _ (aN O);dsimp only at Q;have d0:=hok.di n X Q.1;have d1:n<P.n:=by omega
  have f4:=b0 n d1;have d2:=s.some eu;obtain⟨a3,op,d3,f5⟩:=d2;subst d3;have f6:a3∈L2:=c4 eu a3 op rfl;have d4:l.take (i+1)=l.take i++[(n,X)]:=by rw[bf,O];rfl
  have H:=VY P.G.size (l.take i) [(n,X)] P.D;rw[<-d4,if_pos M]at H;have d5:(ru P.di n).getD (.agg zP.toArray)= .agg (bv X).toArray:=by unfold ru;rw[Q.1];rfl
  have j:=a.row;unfold tF at j;have C:MapAt Tryz.prog 3 c5 md P.n (ru P.di):=by
    have E:=a.mdi;unfold Pl.n at E |-;dsimp only at E;rw[N]at E;exact E
  refine nM<|mO (vg (e:=3) dA rfl rfl i eu eu)<|mO (ou rfl (Ld.sl1 s dA (ZP c9)))<|mV<|mQ<|ng<|vK lo ((q::md::L2)) dA ?_
  intro f7 I d6 d7;replace a:=a.new I;replace m:=m.new I;replace s:=s.new I;replace j:=j.new I;replace C:=C.new I;have S:=j;have d8:=C;refine mU 0 (nK)<|mU 1 (nW rfl)<|mU 2 (nk 0)<|nI 3 (λw' F=>mZ (S.kL F))<|mU 4 (nK)<|mU 5 (nW rfl)<|mU 6 (nk 2)<|nI 7 (λw' F=>mZ (S.kL F))<|mU 8 (nK)<|mU 9 (nK)<|mU 10 (nW rfl)<|mU 11 (nk 5)<|nI 12 (λw' F=>mZ (S.kL F))<|mU 13 (nK)<|nI 14 (λw' F=>Nb (k:=3) (e:=121) ((.agg zP.toArray)) dA dA kv (d8.nu F (by first |(simp;done)|(simp;omega)|(simp[*];done)|exact pG (Or.inl eu)|exact pG (Or.inr ig)|exact λg J=>ag eu (vI J).1|(intro b o e;cases e;exact pG (Or.inl eu))|(intro b J;have:=(hu.lt b (ah.1 J)).1;omega)|(intro b o e;cases e;intro J;have:=(hu.lt _ (ah.1 J)).1;omega)|assumption)) rfl rfl (n) jZ eu eu d5)<|nS 15 dA ?_
  have a4:=Ev a n X d0 a9 (by dsimp only;omega) (xZ a2 eu);dsimp only at a4;refine qf rfl rfl (nX dA rfl) (a4) ?_;rintro _ f8 ⟨rfl,a,T⟩;have d9:=d7.uK d6 T.wk;refine⟨d9,?_⟩;replace m:=m.lq T;replace s:=s.nu T.kp dB;refine mU 16 (rA)<|oL dA<|ny<|mR<|mP<|mO (oD rfl rfl)<|mQ<|oP rfl (λy=>?_)<|λy=>?_
  ·
   refine lH ?_;have z:(qH (sN P.G.size P.D (l.take i)).1 (1+P.G.size+n*4) (qM X 4)).2=false:=by cases j:(qH (sN P.G.size P.D (l.take i)).1 (1+P.G.size+n*4) (qM X 4)).2 with|false=>rfl|true=>simp[j]at y
   have e0:sN P.G.size P.D l=((qH (sN P.G.size P.D (l.take i)).1 (1+P.G.size+n*4) (qM X 4)).1,false):=by
     have E:=VY P.G.size (l.take (i+1)) (l.drop (i+1)) P.D;have e1:sN P.G.size P.D (l.take (i+1))=((qH (sN P.G.size P.D (l.take i)).1 (1+P.G.size+n*4) (qM X 4)).1,false):=by
      rw[H,sN,if_neg (by rw[z];simp)]
     rw[bM,e1,if_neg ig]at E;exact E
   rw[e0,if_neg ig]at r;subst r;refine⟨by rw[z];rfl,a.weak A,?_⟩;exact(mX.of_below B).ll m A
  ·
   have z:(qH (sN P.G.size P.D (l.take i)).1 (1+P.G.size+n*4) (qM X 4)).2=true:=by cases j:(qH (sN P.G.size P.D (l.take i)).1 (1+P.G.size+n*4) (qM X 4)).2 with|true=>rfl|false=>simp[j]at y
   rw[sN,if_pos z,sN]at H;refine nL<|pW<|ny<|nM<|mO (om rfl rfl (Coup.nN eu))<|mP<|oH<|oO ⟨i+1,eu,⟨by go_num,rfl,rfl,rfl,rfl⟩,eu,by rw[H],by rw[H];exact a,s,m⟩
 ·
  have e2:i=l.length:=by omega
  subst e2;rw[dQ]at a M;rw[dQ]at N;rw[if_pos M]at r;obtain⟨D1,e3⟩:=aa ((sN P.G.size P.D l).1);rw[e3]at a N b6 r;have a5:=FV a;dsimp only at a5;have j:=a.row;unfold tF at j;obtain⟨f9,Bl⟩:=a.mdl;refine qP<|qL<|rf<|qX<|ny<|ng<|mR<|mP<|mO (nW rfl)<|mO (nk 0)<|mO (mZ j)<|nD (a5) ?_
  rintro _ g0 ⟨rfl,a,e4⟩;replace m:=m.lq e4;refine nV<|mP<|mO (oD rfl rfl)<|mQ<|oP rfl (λy=>?_)<|λy=>?_
  ·
   refine lT ?_;have z:qB D1=false:=by cases j:qB D1 with|false=>rfl|true=>simp[j]at y
   rw[if_neg (by rw[z];simp)]at r;subst r;exact⟨by rw[z];rfl,a.weak A,(mX.of_below B).ll m A⟩
  ·
   have z:qB D1=true:=by cases j:qB D1 with|true=>rfl|false=>simp[j]at y
   rw[if_pos z]at r;have U:=Fj a b2 (λv a6=>by
     rw[su,if_pos z]at a6;obtain⟨u,_,rfl⟩:=bB.1 a6;show 1<=90000;omega)
   dsimp only at U;have e5:=Ww (su D1) P.G;have e6:∃ t,yc (su D1) P.G=t:=⟨_,rfl⟩;obtain⟨⟨a7,g1,g2⟩,e7⟩:=e6;simp only[e7]at U e5 r;have j:=a.row;unfold tF at j;refine nL<|ny<|ng<|mR<|mP<|mO (nW rfl)<|mO (nk 1)<|mO (mZ j)<|nD (U) ?_
   rintro _ g3 ⟨rfl,a,e8⟩;replace m:=m.lq e8;refine nV<|mP<|mO (oD rfl rfl)<|mQ<|oP rfl (λy=>?_)<|λy=>?_
   ·
    refine lT ?_;have L:¬a7=0:=y;rw[if_neg L]at r;subst r;exact⟨rfl,a.weak A,(mX.of_below B).ll m A⟩
   ·
    have L:a7=0:=by simpa using y
    rw[if_pos L]at r;subst r;have j:=a.row;unfold tF at j;refine nL<|ny<|mR<|mP<|mO (nW rfl)<|mO (nk 5)<|mO (mZ j) ?_
    have C:=a.mdi;refine nz<|ZA (k:=3) (e:=121) dA C rfl<|λg4 C a8=>?_
    replace m:=m.oq a8;have e9:=a.Dy (c:=xx) C a8;refine mo ?_;exact⟨by rw[L];rfl,e9.weak A,(mX.of_below B).ll m A⟩
end
theorem zrJ(c:sH):∀ (m a:Nat),(qF (ru c) a m).length=(tL c a m).length
 |0,a=>rfl
 |m+1,a=>by
  have f:=zrJ c m (a+1);rw[qF,tL];have e:ru c a=(c a).map VR:=rfl;rw[e];cases c a with
  |some b=>simp only[dZ,aD,f]
  |none=>simpa using f
def keepR(e:Int)(P:Pl):Pl:={P with dead:=P.dead || decide (e=10)}
def NB(P:Pl):Int × Pl:=if(tL P.ch 0 P.n).length=0 then((rZ P).1,keepR (rZ P).1 (rZ P).2)else(17,P)
section
variable {Y:World->List Nat->Prop}[mW Y]{g x q mc md lo:Nat}{rv cv:Value}{L:List Nat}{P:Pl}{w w':World}
theorem Mh(h:oJ g x q mc md cv cv Y lo L P w)(hok:xD P)(hde:P.dead=false)(hsh:sK P.D 70000):CQ 128 [.pointer (some ⟨q,0,none⟩)] w (λv w'=>v= .int .i64 (NB P).1/\oJ g x q mc md cv cv Y lo L (NB P).2 w'/\mX lo L w w'):=by
 have a:=mX.refl lo L w;have D:=hok.n4;have j:=Nu h hok.lg.szm 0;unfold xN at j;have t:(0:Int)<=0/\(0:Int)<(P.n:Int):=by omega
 rw[hde,if_neg ig,if_pos t]at j;have r:=λw' (l:oJ g x q mc md cv cv Y lo L P w')=>ZL l hok hsh
 obtain⟨R,c⟩:=aa (NB P);rw[c];unfold NB at c;obtain⟨⟨e,P2⟩,u⟩:∃ p,rZ P=p:=⟨_,rfl⟩;simp only[u]at r c;have v:=λw' (l:oJ g x q mc md cv cv Y lo L P2 w')=>Ce l e
 have s:=zrJ P.ch P.n 0;have f:=h.row;unfold tF at f;have m:=h.mch;refine nP (fn:=Tryz.f128) (rs:=[.tmp 2]) (n:=19) Tryz.func128 rfl rfl Tryz.ntmps128 dA rfl<|mR<|mV<|mQ<|ng<|mR<|mP<|nD (j) ?_
 rintro _ y ⟨rfl,i⟩;replace h:=h.new i;replace f:=f.new i;replace m:=m.new i;replace a:=a.new i;refine nV<|mP<|mO (oD rfl rfl)<|mQ<|pJ rfl (ig)<|nL<|ny<|ng<|mR<|mP<|mO (nW rfl)<|mO (nk 4)<|mO (mZ f)<|mO (zrC (k:=3) (e:=121) dA m rfl)<|mO (rq rfl rfl)<|mQ<|oP rfl (λz=>?_)<|λz=>?_
 ·
  refine lN ?_;have o:¬(tL P.ch 0 P.n).length=0:=by rw[<-s];omega
  rw[if_neg o]at c;subst c;exact⟨rfl,h,a⟩
 ·
  have o:(tL P.ch 0 P.n).length=0:=by rw[<-s];omega
  rw[if_pos o]at c;subst c;refine nL<|ny<|mR<|mP<|mP<|nD (r y h) ?_
  rintro _ A ⟨rfl,h,B⟩;replace a:=a.lq B;refine nD (v A h) ?_;rintro _ E ⟨rfl,h,C⟩;replace a:=a.lq C;refine lQ ?_;exact⟨rfl,h,a⟩
end
def pM(P:Pl):Rec:=(tL P.ch 0 P.n).map λp=>⟨p.1,p.2⟩
def um(P:Pl):Int × Pl:=if((P.G.size - P.G.at_:Nat):Int)<vo ((pM P).length:Int)then rZ P else(0,P)
def rJ(P:Pl)(R:Rec):Pl:=R.foldl (λP c=>{P with di:=uJ P.di c.num.toNat (some c.page),cl:=without P.cl c.num}) P
def uD(P:Pl)(R:Rec):Pl:={P with D:=(uP P.D P.G R).2.1,G:=(uP P.D P.G R).2.2}
def uu(P:Pl):Int × Pl:=
 if(pM P).length=0 then(0,P)else if 60<(pM P).length then(3,P)else if(P.G.size:Int)<vo ((pM P).length:Int)then(8,P)
 else if(um P).1=0 then
  if(uP (um P).2.D (um P).2.G (pM P)).1=0 then(0,{rJ (uD (um P).2 (pM P)) (pM P)with ch:=xx})
  else((uP (um P).2.D (um P).2.G (pM P)).1,keepR (uP (um P).2.D (um P).2.G (pM P)).1 (uD (um P).2 (pM P)))
 else((um P).1,keepR (um P).1 (um P).2)
theorem zp6{R:Rec}{i:Nat}{c:Ch}(h:R[i]?=some c)(P:Pl):rJ P (R.take (i+1))={rJ P (R.take i)with di:=uJ (rJ P (R.take i)).di c.num.toNat (some c.page),cl:=without (rJ P (R.take i)).cl c.num}:=by
 rw[bf,h,rJ,fK]
 rfl
theorem QI:∀ (R:Rec) (P:Pl),(rJ P R).D=P.D/\(rJ P R).G=P.G/\(rJ P R).fr=P.fr/\(rJ P R).ch=P.ch/\(rJ P R).dead=P.dead/\(rJ P R).n=P.n/\(rT P.cl->rT (rJ P R).cl)/\(rJ P R).cl.length<=P.cl.length
 |[],P=>⟨rfl,rfl,rfl,rfl,rfl,rfl,id,ax _⟩
 |c::R,P=>by
  obtain⟨a,e,f,g,h,i,j,k⟩:=QI R {P with di:=uJ P.di c.num.toNat (some c.page),cl:=without P.cl c.num};exact⟨a,e,f,g,h,i,λl=>j (VS l c.num),ag k (VD P.cl c.num)⟩
theorem ztO(D:Dk)(a:Nat)(R:List qg):(xG D a R).1.V.length=D.V.length:=by
 unfold xG
 split
 .rw[FK,Bi]
 .exact Bi _ _ _
theorem Ur(D:Dk)(G:Lg)(R:Rec):(uP D G R).2.1.V.length=D.V.length/\(uP D G R).2.2.size=G.size:=by
 unfold uP
 split
 .exact⟨rfl,rfl⟩
 .split
  .exact⟨rfl,rfl⟩
  .split
   .exact⟨rfl,rfl⟩
   .split<;>exact⟨ztO _ _ _,rfl⟩
theorem SE(P:Pl):(rZ P).2.D.V.length=P.D.V.length/\(rZ P).2.G.size=P.G.size/\(rZ P).2.ch=P.ch/\(rZ P).2.cl=P.cl/\(rZ P).2.fr=P.fr/\(rZ P).2.dead=P.dead/\(rZ P).2.n=P.n:=by
 have a:=Ty P.G.size (tL P.di 0 P.n) P.D;have f:∀ D,(su D).V.length=D.V.length:=λD=>FK
 have c:=Ww (su (vC P).1) P.G;unfold rZ
 split
 .split
  .have e:(yc (su (vC P).1) P.G).2.1.V.length=P.D.V.length:=by rw[c.1,f];exact a
   refine⟨e,c.2,rfl,rfl,rfl,rfl,?_⟩;unfold Pl.n;dsimp only;rw[e,c.2]
  .have e:(su (vC P).1).V.length=P.D.V.length:=by rw[f];exact a
   refine⟨e,rfl,rfl,rfl,rfl,rfl,?_⟩;unfold Pl.n;dsimp only;rw[e]
 .refine⟨a,rfl,rfl,rfl,rfl,rfl,?_⟩
  unfold Pl.n vC;dsimp only;rw[a]
theorem XX{D:Dk}(h:qB D=true):sK (su D) 1:=λv a=>by
 rw[su,if_pos h]at a;obtain⟨u,_,rfl⟩:=bB.1 a;exact ax 1
theorem zmw{P:Pl}(hok:xD P)(he:(rZ P).1=0):xD (rZ P).2/\sK (rZ P).2.D 1/\(rZ P).2.di=xx/\(rZ P).2.G=Pq P.G/\P.G.dead=false/\P.G.count<4611686018427387904/\
  (vC P).2=true/\qB (vC P).1=true/\xg (su (vC P).1) (P.G.count+1) (P.G.count+1)=true/\(rZ P).2.D=tV (su (vC P).1) (P.G.count+1) (P.G.count+1):=by
 obtain⟨e,r,s,t,u,v,f⟩:=SE P;have c:=hok.lg;have m:(vC P).2=true/\qB (vC P).1=true/\P.G.dead=false/\P.G.count<4611686018427387904/\xg (su (vC P).1) (P.G.count+1) (P.G.count+1)=true/\
   rZ P=(0,{P with D:=tV (su (vC P).1) (P.G.count+1) (P.G.count+1),G:=Pq P.G,di:=xx}):=by
  unfold rZ at he |-
  by_cases g:(vC P).2=true
  .rw[if_pos g]at he |-
   by_cases h:qB (vC P).1=true
   .rw[if_pos h]at he |-
    refine⟨g,h,?_⟩;generalize su (vC P).1=D1 at*;dsimp only at he;unfold yc at he |-
    by_cases j:P.G.dead=true
    .rw[if_pos j]at he;exact absurd he ig
    .rw[if_neg j]at he |-
     by_cases l:P.G.count=4611686018427387904
     .rw[if_pos l]at he;exact absurd he ig
     .rw[if_neg l]at he |-
      by_cases k:xg D1 (P.G.count+1) (P.G.count+1)=true
      .rw[if_pos k]
       exact⟨by simpa using j,by have:=c.cm;omega,k,rfl⟩
      .rw[if_neg k]at he;exact absurd he ig
   .rw[if_neg h]at he;exact absurd he ig
  .rw[if_neg g]at he;exact absurd he ig
 obtain⟨c1,c2,c3,o,a,p⟩:=m;rw[p]at e f |-;dsimp only at e f;refine⟨⟨⟨?_,?_,?_,c.sz4,c.szm,aC _,ax _,?_⟩,?_,hok.fr2,hok.frm,hok.ch,(λi b q=>nomatch q),hok.cl,hok.cll⟩,?_,rfl,rfl,c3,o,c1,c2,a,rfl⟩
 .show 1<=P.G.count+1;omega
 .show P.G.count+1<=P.G.count+1;omega
 .show P.G.count+1<=_;omega
 .show 1+P.G.size<=(tV _ _ _).V.length
  rw[e];exact c.fit
 .rw[f];exact hok.n4
 .unfold xg at a
  rw[aJ]at a;show sK (tV _ _ _) 1;unfold tV;rw[if_pos a.1];exact XX a.2
theorem Fe{P:Pl}(hok:xD P):rT (pM P)/\(pM P).length<=P.n/\∀ c∈pM P,∃ n:Nat,c.num=n/\n<P.n/\P.ch n=some c.page:=by
 refine⟨λc a=>?_,?_,λc a=>?_⟩
 .obtain⟨p,hp,rfl⟩:=bB.1 a
  exact hok.ch _ _ (Et hp).1
 .unfold pM;rw[aQ];exact WY _ _ _
 .obtain⟨p,hp,rfl⟩:=bB.1 a
  have:=Et hp;exact⟨p.1,rfl,eu,this.1⟩
theorem BC{w:World}{g t:Nat}{c:Ch}(h:row w g (rG c) t)(hc:c.page.length=512):Ld Tryz.prog w 121 ⟨g,1,none⟩ (.agg (bv c.page).toArray):=by
 have a:=Ld.AR (P:=Tryz.prog) (t:=121) (k:=512) (off:=1) h dA dA (by rw[Ba hc];omega);have e:((rG c).drop 1).take 512=bv c.page:=by
  rw[rG,List.drop_succ_cons,cK,aP (by rw[oh,hc];exact ax _)]
 rw[e]at a;exact a
section
variable {Y:World->List Nat->Prop}[mW Y]{g x q mc md lo:Nat}{rv cv:Value}{L:List Nat}{P:Pl}{w w':World}
theorem ztP(h:oJ g x q mc md rv cv Y lo L P w)(hok:AO P.D P.G)(hsh:sK P.D 80000)(R:Rec)(hR:rT R)(p:Option Addr)(n cp:Nat)(hs:nC w p n 513 (pY R))(hn:R.length=n)(hn2:n<=1000000):
  CQ 99 [.pointer (some ⟨x,0,none⟩), .slice p n cp] w (λv w'=>v= .int .i64 (uP P.D P.G R).1/\oJ g x q mc md rv cv Y lo L (uD P R) w'/\mX lo L w w'):=by
 refine(ztD h.lg hok hsh R hR p n cp hs hn hn2).to λv w' ⟨a,c,k⟩=>?_
 have hs:=Ur P.D P.G R;exact⟨a,h.Dr c k hs.2 hs.1,h.IP k⟩
theorem zrK(h:oJ g x q mc md cv cv Y lo L P w)(hok:xD P)(hde:P.dead=false)(hsh:sK P.D 70000):CQ 32 [.pointer (some ⟨q,0,none⟩)] w (λv w'=>v= .int .i64 (uu P).1/\(∃ cv',oJ g x q mc md cv' cv' Y lo L (uu P).2 w')/\mX lo L w w'):=by
 have m2:=hok.n4;have m3:=h.BV.1;have m4:maxLen=9223372036854775807:=by decide
 have b6:=Nu h hok.lg.szm 0;unfold xN at b6;have g5:(0:Int)<=0/\(0:Int)<(P.n:Int):=by omega
 rw[hde,if_neg ig,if_pos g5]at b6;obtain⟨V,g6,b7⟩:=Fe hok;have a8:Bq P.ch P.n=(pM P).map (·.num):=by unfold Bq pM;rw[Vn,dE];rfl
 have e1:=λw' (X:oJ g x q mc md cv cv Y lo L P w')=>ztJ X
 have e2:=λL' w' (X:oJ g x q mc md cv cv Y lo L' P w')=>ZL X hok hsh
 have g7:=λQ=>zmw hok Q
 have g8:=SE P;obtain⟨Z,v⟩:=aa (uu P);rw[v];unfold uu um at v;obtain⟨R,e3⟩:=aa (pM P);rw[e3]at a8 V g6 b7;simp only[e3]at v;obtain⟨K,e4⟩:=aa (Bq P.ch P.n);rw[e4]at a8;simp only[e4]at e1;have m5:K.length=R.length:=by rw[a8,aQ]
 have y:=Below.refl w.heap.size w;have e5:=λw' (hb:Below w.heap.size w w')=>h.new hb
 refine nP (fn:=Tryz.f32) (rs:=[.tmp 2]) (n:=102) Tryz.func32 rfl rfl Tryz.ntmps32 dA rfl<|mR<|mV<|mQ<|ng<|mR<|mP<|nD b6 ?_
 rintro _ g9 ⟨rfl,h0⟩;replace y:=y.acc h0;refine nV<|mP<|mO (oD rfl rfl)<|mQ<|pJ rfl (ig)<|nL<|ny<|mR<|mV<|mQ<|ng<|mR<|mP<|nD (e1 g9 (e5 _ y)) ?_;rintro _ b8 ⟨⟨p,c,rfl,C,h1⟩,h2⟩;replace y:=y.acc h2;refine lU ?_;have m6:=y.size;have e6:∀ b o,p=some ⟨b,o,none⟩->0<K.length->b<b8.heap.size:=λb o e a9=>by
   have a0:=C.some eu;obtain⟨m7,m8,e7,h3⟩:=a0;rw[e]at e7;cases e7;exact h3
 refine qZ (α:=Nat × Value) (0, .slice none 0 0) (λa=>[(19, .int .i64 (a.1:Nat)),(18, .int .i64 (K.length:Int)),(17, .slice p K.length c),(4,a.2),(0, .pointer (some ⟨q,0,none⟩))])
   (λa w'=>a.1<=R.length/\nY w' b8.heap.size 164 513 a.2 a.1 (pY (R.take a.1))/\nC w' p K.length 1 (iv K)/\Below w.heap.size w w'/\b8.heap.size<=w'.heap.size) (λa=>R.length - a.1)
   ⟨rfl,rfl,rfl,rfl,rfl,rfl⟩ ⟨aC _,ym _ _ _ _,C,y,ax _⟩ ?_
 clear y C;rintro⟨i,u⟩ f a1 ⟨b9,B,C,y,h4⟩;dsimp only at b9 B C y h4 |-;refine mR<|mO (pE rfl rfl)<|mQ<|ng<|oP rfl (λc4=>?_)<|λc4=>?_
 ·
  refine lF ?_;have a2:∃ s,R[i]?=some s:=⟨_,aI eu⟩;obtain⟨s,G⟩:=a2;have h5:K[i]?=some s.num:=by rw[a8,aW,G];rfl
  have c5:=b7 s (aN G);obtain⟨n,e8,e9,f0⟩:=c5;have a3:=V s (aN G);have c6:=C.some eu;obtain⟨E,op,c7,h6⟩:=c6;subst c7;have m9:=e6 E op rfl eu;have h7:(ru P.ch n).getD (.agg zP.toArray)= .agg (bv s.page).toArray:=by unfold ru;rw[f0];rfl
  have c8:=e5 _ y;have t:=c8.row;have M:=c8.mch;have n0:=c8.Qk;have n1:q<w.heap.size:=h.Qk.1;have n2:mc<w.heap.size:=h.Qk.2.1;unfold tF at t;have f1:(rG s).length=1*513:=Ba a3;have f2:=DK s;have h8:R.take (i+1)=R.take i++[s]:=by rw[bf,G];rfl
  refine nM<|mO (vg (e:=3) dA rfl rfl i eu eu)<|mO (ou rfl (Ld.sl1 C dA (ZP h5)))<|mV<|mQ<|nM<|mP<|mP<|mP<|mO (nW rfl)<|mO (nk 4)<|mO (mZ t)<|mP<|mO (Nb (k:=3) (e:=121) ((.agg zP.toArray)) dA dA kv M rfl rfl n jZ eu eu h7)<|mO (Vy a3 rfl rfl rfl)<|nz<|uE (e:=164) (.agg (rG s).toArray) (rG s) (([Value.int .i64 0])++(List.replicate 512 (Value.int .u8 0))) 513 dA dA rfl rfl iw ⟨iT,iT⟩<|λn3 n4 n5 h9 a4=>?_
  replace B:=B.new a4;replace C:=C.new a4;replace y:=y.acc a4;have n6:=a4.size;have i0:=h9.ul (m:=1) (sz:=513) f1 eu;refine nz<|uf (e:=164) (sz:=513) (bytes:=520) (z:=.agg (([Value.int .i64 0])++(List.replicate 512 (Value.int .u8 0))).toArray) dA rfl dA rfl iT rfl B rfl i0 f2 jo eu (λn7=>eu)<|λi1 n8 f3 c9 n9=>?_
  replace C:=C.own B c9 eu;replace y:=y.own B c9 eu;refine mV<|oH<|pW<|ny<|nM<|mO (om rfl rfl (Coup.nN eu))<|mP<|oH ?_
  rw[<-Rv,<-h8]at f3;refine oO ⟨(i+1,i1),eu,⟨by go_num,rfl,rfl,rfl,rfl,rfl⟩,eu,f3,C,y,by have b0:=a4.size;have o0:=c9.size;omega⟩
 ·
  have i2:i=R.length:=by omega
  subst i2;rw[dQ]at B;have a2:∃ b1 a5,u= .slice b1 R.length a5/\nC a1 b1 R.length 513 (pY R)/\∀ b o,b1=some ⟨b,o,none⟩->w.heap.size<=b:=by
    rcases B.2 with⟨a6,a9⟩|⟨o1,ob,i3,o2,a6,hb,_⟩
    · rw[a9]at B |-
      rw[a6]at B;exact⟨none,0,a6,B.sl,λb o e=>nomatch e⟩
    · rw[a6]at B
      exact⟨_,i3,a6,B.sl,λb o e=>by cases e;omega⟩
  obtain⟨b1,a5,i4,r,i5⟩:=a2;subst i4;have i6:=h.sl y r eu i5;obtain⟨L2,D,i7,j⟩:=i6;have T:mX lo L w a1:=mX.of_below y;clear B C h1 e6;have o3:=y;have l:=mX.refl lo L2 a1;have o4:=j.UK;have t:=j.row;unfold tF at t;refine qP<|qL<|rf<|qX<|ny<|ng<|oU<|mR<|mP<|mO (oQ (e:=164) (sz:=513) dA rfl rfl)<|mO (qy rfl rfl)<|mV<|mQ<|oP rfl (λa9=>?_)<|λa9=>?_
  ·
   refine lL ?_;have d0:R.length=0:=by omega
   rw[if_pos d0]at v;subst v;exact⟨rfl,⟨_,j.weak D⟩,T.ll l D⟩
  ·
   have d0:¬R.length=0:=by omega
   rw[if_neg d0]at v;have c6:=r.some eu;obtain⟨E,op,c7,h6⟩:=c6;subst c7;have i8:E∈L2:=i7 eu E op rfl;refine mR<|mP<|mO (oQ (e:=164) (sz:=513) dA rfl rfl)<|mO (rq rfl rfl)<|mV<|mQ<|oP rfl (λi9=>?_)<|λi9=>?_
   ·
    refine lL ?_;have d1:60<R.length:=by omega
    rw[if_pos d1]at v;subst v;exact⟨rfl,⟨_,j.weak D⟩,T.ll l D⟩
   ·
    have d1:¬60<R.length:=by omega
    rw[if_neg d1]at v;refine ng<|qz [] dA ?_
    intro j0 b2 o5;replace j:=j.new b2;replace l:=l.new b2;replace t:=t.new b2;replace r:=r.new b2;have j1:=t;refine mU 0 (nK)<|mU 1 (oQ (e:=164) (sz:=513) dA rfl rfl)<|yM 2 dA rfl (λ_=>nX dA rfl) (λw' F=>Nq (R.length:Int) w')<|mU 3 (nK)<|mU 4 (nW rfl)<|mU 5 (nk 2)<|nI 6 (λw' F=>mZ (j1.kq F))<|mU 7 (rq rfl rfl)<|mU 8 (rA)<|oL dA<|ny<|oP rfl (λd2=>?_)<|λd2=>?_
    ·
     refine lL ?_;have d3:(P.G.size:Int)<vo (R.length:Int):=d2;rw[if_pos d3]at v;subst v;exact⟨rfl,⟨_,j.weak D⟩,T.ll l D⟩
    ·
     have d3:¬(P.G.size:Int)<vo (R.length:Int):=d2;rw[if_neg d3]at v;obtain⟨S,A⟩:=aa ((if((P.G.size - P.G.at_:Nat):Int)<vo (R.length:Int)then rZ P else(0,P)));rw[A]at v;have o6:World:=j0;refine nL<|pW<|ny<|xO (λ_:Unit=>[(4, .slice (some ⟨E,op,none⟩) R.length a5),(0, .pointer (some ⟨q,0,none⟩))]) (λ_ w'=>S.1=0/\oJ g x q mc md cv cv Y lo L2 S.2 w'/\nC w' (some ⟨E,op,none⟩) R.length 513 (pY R)/\mX lo L2 a1 w') ?_ ?_
     ·
      refine ng<|qz [] dA ?_
      intro o7 b3 j2;replace j:=j.new b3;replace l:=l.new b3;replace t:=t.new b3;replace r:=r.new b3;have j3:=t;refine mU 0 (nK)<|mU 1 (oQ (e:=164) (sz:=513) dA rfl rfl)<|yM 2 dA rfl (λ_=>nX dA rfl) (λw' F=>Nq (R.length:Int) w')<|mU 3 (nK)<|mU 4 (nW rfl)<|mU 5 (nk 1)<|nI 6 (λw' F=>mZ (j3.kq F))<|nS 7 dA<|qf rfl rfl (nX dA rfl) (CG j.lg hok.lg.at_ hok.lg.szm) ?_
      rintro _ j4 ⟨rfl,b4⟩;have j5:=j2.add0 b4;refine⟨j5,?_⟩;replace j:=j.new b4;replace l:=l.new b4;replace r:=r.new b4;refine mU 8 (rq rfl rfl)<|oL dA<|ny<|oP rfl (λH=>?_)<|λH=>?_
      ·
       refine ng ?_;have d4:((P.G.size - P.G.at_:Nat):Int)<vo (R.length:Int):=H;rw[if_pos d4]at A;refine nM<|mP<|nD (e2 _ j4 j) ?_
       rintro _ o8 ⟨rfl,j,f4⟩;replace l:=l.lq f4;replace r:=r.nu f4.kp dB;rw[A]at j;refine nV<|mP<|mO (oD rfl rfl)<|mQ<|oP rfl (λN=>?_)<|λN=>?_
       ·
        refine ng ?_;have O:¬S.1=0:=by rw[<-A];exact N
        rw[if_neg O]at v;refine nM<|mP<|mP<|nD (Ce j (rZ P).1) ?_
        rintro _ o9 ⟨rfl,j,j6⟩;replace l:=l.lq j6;refine mV<|mQ<|nQ<|Bc<|nR [_] ⟨rfl,trivial⟩ ?_;subst v;rw[A]at j;exact⟨by rw[<-A];rfl,⟨_,j.weak D⟩,T.ll l D⟩
       ·
        have O:S.1=0:=by rw[<-A];simpa using N
        refine nL<|oO ⟨(),⟨rfl,rfl,rfl⟩,O,j,r,l⟩
      ·
       have d4:¬((P.G.size - P.G.at_:Nat):Int)<vo (R.length:Int):=H;rw[if_neg d4]at A;subst A;refine nL<|oO ⟨(),⟨rfl,rfl,rfl⟩,rfl,j,r,l⟩
     ·
      have j7:∀ n:Nat,n<P.n->n<S.2.n:=λn f5=>by
        by_cases H:((P.G.size - P.G.at_:Nat):Int)<vo (R.length:Int)
        · rw[if_pos H]at A
          rw[<-A,g8.2.2.2.2.2.2];exact f5
        · rw[if_neg H]at A
          rw[<-A];exact f5
      have j8:S.1=0->xD S.2/\sK S.2.D 80000:=λQ=>by
        by_cases H:((P.G.size - P.G.at_:Nat):Int)<vo (R.length:Int)
        · rw[if_pos H]at A
          have b0:=g7 (by rw[A];exact Q);rw[A]at b0;exact⟨b0.1,xZ b0.2.1 eu⟩
        · rw[if_neg H]at A
          rw[<-A];exact⟨hok,xZ hsh eu⟩
      clear j l r t A e2;rintro _ p0 w2 ⟨Q,j,r,l⟩;have a0:=j8 Q;obtain⟨f6,j9⟩:=a0;rw[if_pos Q]at v;have f7:=λL' w' (X:oJ g x q mc md cv cv Y lo L' S.2 w') (k0:nC w' (some ⟨E,op,none⟩) R.length 513 (pY R))=>ztP X f6.lg j9 R V (some ⟨E,op,none⟩) R.length a5 k0 rfl eu
      obtain⟨P3,b5⟩:=aa (uD S.2 R);obtain⟨d5,f8⟩:=aa ((uP S.2.D S.2.G R).1);have k7:P3.cl=S.2.cl:=by rw[<-b5];rfl
      have d6:P3.n=S.2.n:=by
        have:=Ur S.2.D S.2.G R;rw[<-b5];unfold uD Pl.n;dsimp only;rw[this.1,this.2]
      rw[b5,f8]at v;simp only[b5,f8]at f7;have t:=j.row;unfold tF at t;refine ng<|mR<|mP<|mO (nW rfl)<|mO (nk 1)<|mO (mZ t)<|mP<|nD (f7 _ w2 j r) ?_
      rintro _ p1 ⟨rfl,j,f9⟩;replace l:=l.lq f9;replace r:=r.nu f9.kp dB;refine nV<|mP<|mO (oD rfl rfl)<|mQ<|oP rfl (λN=>?_)<|λN=>?_
      ·
       refine ng ?_;have O:¬d5=0:=N;rw[if_neg O]at v;refine nM<|mP<|mP<|nD (Ce j d5) ?_
       rintro _ p2 ⟨rfl,j,k8⟩;replace l:=l.lq k8;refine mV<|mQ<|nQ<|qb<|nR [_] ⟨rfl,trivial⟩ ?_;subst v;exact⟨rfl,⟨_,j.weak D⟩,T.ll l D⟩
      ·
       have O:d5=0:=by simpa using N
       rw[if_pos O]at v;subst v;refine nL<|ny<|ng<|mR<|mP<|mO (oQ (e:=164) (sz:=513) dA rfl rfl)<|mP<|mQ<|oU ?_
       refine qZ (α:=Nat × Value) (0,cv) (λa=>[(81, .int .i64 (a.1:Nat)),(80, .int .i64 (R.length:Int)),(79, .slice (some ⟨E,op,none⟩) R.length a5),(0, .pointer (some ⟨q,0,none⟩))])
         (λa w'=>a.1<=R.length/\oJ g x q mc md a.2 a.2 Y lo L2 (rJ P3 (R.take a.1)) w'/\nC w' (some ⟨E,op,none⟩) R.length 513 (pY R)/\mX lo L2 a1 w') (λa=>R.length - a.1)
         ⟨rfl,rfl,rfl,rfl,rfl⟩ ⟨aC _,j,r,l⟩ ?_
       clear j r l;rintro⟨i,cv2⟩ p3 p4 ⟨b9,j,r,l⟩;dsimp only at b9 j r l |-;have a0:=QI (R.take i) P3;obtain⟨p5,p6,p7,p8,p9,d7,k9,q0⟩:=a0;have l0:=k9 (by rw[k7];exact f6.cl);refine mR<|mO (pE rfl rfl)<|mQ<|ng<|oP rfl (λc4=>?_)<|λc4=>?_
       ·
        refine lF ?_;have q1:=l.size;have a2:∃ s,R[i]?=some s:=⟨_,aI eu⟩;obtain⟨s,G⟩:=a2;have c5:=b7 s (aN G);obtain⟨n,e8,e9,f0⟩:=c5;have a3:=V s (aN G);have f1:(rG s).length=513:=Ba a3;have f2:=DK s;have g0:=zp6 G P3;refine nM<|mO (rE (e:=164) (sz:=513) dA rfl rfl i eu eu)<|mO (ou rfl (Np r V G))<|nz<|nU (([Value.int .i64 0])++(List.replicate 512 (Value.int .u8 0))) dA<|λl1 q2 g1 I d8=>?_
        replace j:=j.nA d8 g1 I.lt;replace l:=l.new d8;replace r:=r.new d8;refine nH<|nT 513 (rG s) I<|λq3 I d9=>?_
        replace j:=j.only d9 eG;replace l:=l.oq d9;replace r:=r.only d9 eu;refine mQ<|ng ?_
        have t:=j.row;unfold tF at t;have J:=j.mdi;rw[d7,d6]at J;have l2:=j.BV.1;rw[d7,d6]at l2;have q4:n<S.2.n:=j7 n e9;have g1:l1≠md:=λe=>j.mdl.2 kg
        have q5:=j.qd;have q6:E≠md:=λe=>j.mdl.2 (by rw[<-e];simp[i8])
        have l3:=j.mdl;obtain⟨q7,l4⟩:=l3;have q8:md∉L2:=λM=>l4 (aj _ M)
        refine qz [md] dA ?_;intro q9 U l5;replace j:=j.new U;replace l:=l.new U;replace r:=r.new U;replace I:=I.new U;replace t:=t.new U;replace J:=J.new U;have g2:=I;have l6:=t;refine mU 0 (nK)<|mU 1 (nW rfl)<|mU 2 (nk 5)<|nI 3 (λw' F=>mZ (l6.kq F))<|mU 4 (nk 0)<|nI 5 (λw' F=>mZ (g2.kq F))<|mU 6 (nk 1)<|nI 7 (λw' F=>ou rfl (BC (g2.kq F) a3))<|nS 8 dA<|qR rfl rfl<|LM (k:=3) (e:=121) (.agg (bv s.page).toArray) dA dA J rfl rfl rfl n jZ eu eu<|λr0 J a7=>?_
        have l7:=l5.aq a7;refine⟨l7,?_⟩;replace l:=l.oq a7;replace r:=r.only a7 eu;replace I:=I.only a7 eu;rw[Rn]at J;rw[<-d6,<-d7]at J;have e0:=j.Dy J a7;refine oL dA<|ny<|nM<|mP<|mO (nk 0)<|mO (mZ I) ?_
        have l8:s.num.toNat=n:=by rw[e8];rfl
        refine nD (zrB e0 l0 s.num) ?_;rintro _ r1 ⟨rfl,⟨l9,e0⟩,g3⟩;replace l:=l.lq g3;replace r:=r.nu g3.kp dB;refine oH<|pW<|ny<|nM<|mO (om rfl rfl (Coup.nN eu))<|mP<|oH ?_
        rw[l8]at g0;refine oO ⟨(i+1,l9),eu,⟨by go_num,rfl,rfl,rfl,rfl⟩,eu,?_,r,l⟩;rw[g0];exact e0.weak<|λb hb=>aj _ hb
       ·
        have m0:i=R.length:=by omega
        subst m0;rw[dQ]at j;have t:=j.row;unfold tF at t;obtain⟨r2,r3⟩:=j.mcl;refine qP<|qL<|rf<|qX<|ny<|mR<|mP<|mO (nW rfl)<|mO (nk 4)<|mO (mZ t) ?_
        have M:=j.mch;refine nz<|ZA (k:=3) (e:=121) dA M rfl<|λr4 M g4=>?_
        replace l:=l.oq g4;have m1:=j.QO (c:=xx) M g4;refine mo ?_;exact⟨rfl,⟨_,m1.weak D⟩,T.ll l D⟩
end
structure Ci(r:Rec):Prop where
 ok:rT r
 l1:1<=r.length
 l60:r.length<=60
 num:∀ c∈r,0<=c.num
theorem FE{b:List UInt8}{r:Rec}(h:zk b=some r):b.length=516*r.length/\Ci r:=by
 rw[zk]at h
 split at h
 .rename_i e
  rw[zw,aJ,aJ]at e;have j:=of_decide_eq_true e.1.1;have k:=of_decide_eq_true e.1.2;have f:=dx.1 e.2;have hr:=bX h;have l:r.length=b.length / 516:=by rw[<-hr,VV]
  refine⟨eu,⟨λc a=>?_,eu,eu,λc a=>?_⟩⟩
  .rw[<-hr]at a
   obtain⟨i,g,rfl⟩:=bB.1 a;have:=cz.1 g;exact W_ eu
  .rw[<-hr]at a
   exact(of_decide_eq_true (f c a)).1
 .cases h
theorem XN{s c:Nat}:∀ (f k m:Nat) {X:List UInt8},X.length=m*128->m<=f->wU (xR s c k (ut f X m))<=m/\(xR s c k (ut f X m)).length<=wU (xR s c k (ut f X m))/\∀ r∈xR s c k (ut f X m),Ci r
 |0,k,m,X,_,_=>by
  have:xR s c k (ut 0 X m)=[]:=rfl;rw[this];exact⟨aC _,aC _,λr hr=>nomatch hr⟩
 |f+1,k,m,X,hl,hf=>by
  cases hj:wh X m with
  |false=>
   have:ut (f+1) X m=[]:=by rw[ut,if_neg (by rw[hj];simp)]
   rw[this];exact⟨aC _,aC _,λr hr=>nomatch hr⟩
  |true=>
   obtain⟨i,_,e⟩:=Sc hj;obtain⟨j,l⟩:=e hl;rw[ut,if_pos hj];cases ho:Cr s c k ⟨tJ (oM X 0),tZ (oM X 0),rQ X⟩with
   |none=>rw[Ot ho];exact⟨aC _,aC _,λr hr=>nomatch hr⟩
   |some r=>
    rw[XH ho];obtain⟨o,p,g⟩:=XN f (k+1) (m - qC (rQ X).length) (s:=s) (c:=c) (X:=X.drop (128*qC (rQ X).length)) (by rw[aL,hl];omega) eu;have hr:zk (rQ X)=some r:=by
     unfold Cr at ho
     split at ho
     .exact ho
     .cases ho
    obtain⟨hb,h⟩:=FE hr;have:wU (r::xR s c (k+1) (ut f (X.drop (128*qC (rQ X).length)) (m - qC (rQ X).length)))=qC (516*r.length)+wU (xR s c (k+1) (ut f (X.drop (128*qC (rQ X).length)) (m - qC (rQ X).length))):=by simp[wU]
    rw[this,<-hb,aD];refine⟨eu,eu,λx a=>?_⟩;rcases ak.1 a with rfl|a
    .exact h
    .exact g x a
theorem zrL{D:Dk}(h:yL D){n:Nat}(hn:1+n<=D.V.length):(AJ D n).length=n*128:=by
 unfold AJ;rw[RU]
 .simp
 .intro s a
  obtain⟨i,c,rfl⟩:=bB.1 a;exact TF h (by have:=cz.1 c;omega)
theorem zky{D:Dk}{G:Lg}(h:yL D)(hn:1+G.size<=D.V.length):wU (xu D G)<=G.size/\(xu D G).length<=wU (xu D G)/\∀ r∈xu D G,Ci r:=
 XN G.size 0 G.size (zrL h hn) (ax _)
def Bg(n:Nat)(c:sH)(R:Rec):sH:=R.foldl (λc a=>if a.num<(n:Int)then uJ c a.num.toNat (some a.page)else c) c
def yY(n:Nat)(S:List Rec):sH:=S.foldl (Bg n) xx
theorem zp7{R:Rec}{i:Nat}{h:Ch}(hh:R[i]?=some h)(n:Nat)(c:sH):Bg n c (R.take (i+1))=if h.num<(n:Int)then uJ (Bg n c (R.take i)) h.num.toNat (some h.page)else Bg n c (R.take i):=by
 rw[bf,hh,Bg,fK]
 rfl
theorem znN{S:List Rec}{i:Nat}{r:Rec}(hh:S[i]?=some r)(n:Nat):yY n (S.take (i+1))=Bg n (yY n (S.take i)) r:=by
 rw[bf,hh,yY,fK]
 rfl
theorem zo0{n:Nat}:∀ (R:Rec) {c:sH},rT R->(∀ i b,c i=some b->b.length=512)->∀ i b,Bg n c R i=some b->b.length=512
 |[],c,_,h=>h
 |r::R,c,hR,h=>by
  refine zo0 R (λx a=>hR x (aj _ a)) ?_;intro i b hb;dsimp only at hb
  split at hb
  .unfold uJ at hb
   split at hb
   .rw[<-bX hb];exact hR r (aK ..)
   .exact h i b hb
  .exact h i b hb
theorem b_{n:Nat}:∀ (S:List Rec) {c:sH},(∀ r∈S,rT r)->(∀ i b,c i=some b->b.length=512)->∀ i b,S.foldl (Bg n) c i=some b->b.length=512
 |[],c,_,h=>h
 |r::S,c,hS,h=>b_ S (λx a=>hS x (aj _ a)) (zo0 r (hS r (aK ..)) h)
def wo(D:Dk)(n:Nat)(fr:Nat):Pl:=
 ⟨tV D (rY (pF D 0)+1) (sZ (pF D 0)),⟨rY (pF D 0)+1,sZ (pF D 0),n,(xu D (yf D n)).length,wU (xu D (yf D n)),false⟩,fr,xx,yY (vk D.V.length n) (xu D (yf D n)),[],false⟩
def DN(D:Dk)(n:Nat)(fr:Nat):Int × Pl:=if(xu D (yf D n)).length=0 then(0,wo D n fr)else NB (wo D n fr)
theorem zo1(D:Dk)(n fr:Nat):(wo D n fr).n=vk D.V.length n:=by
 unfold Pl.n wo;dsimp only;rw[RB]
theorem zp8{D:Dk}{n:Int}(he:AC D n=0):Aa D.V.length n=true/\zS (pF D 0)=true/\rY (pF D 0)<4611686018427387904/\1<=sZ (pF D 0)/\sZ (pF D 0)<=rY (pF D 0):=by
 have e:Aa D.V.length n=true:=iV λa=>by
  unfold AC at he;rw[if_neg a]at he;cases he
 have f:zS (pF D 0)=true:=iV λa=>by
  unfold AC at he;rw[if_pos e,if_neg a]at he;cases he
 have g:rY (pF D 0)≠4611686018427387904:=λa=>by
  unfold AC at he;rw[if_pos e,if_pos f]at he;rw[if_pos a]at he;cases he
 have c:=f;rw[zS,aJ,aJ,aJ]at c;have h:=of_decide_eq_true c.2;exact⟨e,f,eu,of_decide_eq_true c.1.1.2,of_decide_eq_true c.1.2⟩
theorem zrM{D:Dk}(h:yL D){n fr:Nat}(he:AC D n=0)(hc:4<=vk D.V.length n)(h2:2<=fr)(hm:fr<=100):xD (wo D n fr):=by
 obtain⟨f,l,m,g,o⟩:=zp8 he;have p:=of_decide_eq_true f;have a:(yf D n).size=n:=by rw[yf,aR]
 obtain⟨e,j,k⟩:=zky (G:=yf D n) h (by rw[a];omega);rw[a]at e;refine⟨⟨g,?_,?_,?_,?_,e,j,?_⟩,by rw[zo1];exact hc,h2,hm,(λi b h=>nomatch h),?_,(λc hc=>nomatch hc),aC _⟩
 .show sZ (pF D 0)<=rY (pF D 0)+1;omega
 .show rY (pF D 0)+1<=_;omega
 .show 4<=n;omega
 .show n<=4000;omega
 .show 1+n<=(tV _ _ _).V.length;rw[RB];omega
 .exact b_ _ (λr hr=>(k r hr).ok)<|λi b h=>nomatch h
end Go.Proofs.YtpaniebomegnbaaGreat
