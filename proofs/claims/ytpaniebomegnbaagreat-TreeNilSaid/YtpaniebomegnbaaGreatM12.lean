import Derived.Test.YtpaniebomegnbaaGreatM11
set_option maxHeartbeats 8000000
set_option maxRecDepth 20000
namespace Go.Proofs.YtpaniebomegnbaaGreat
open Go Go.RowKit Coup
theorem PR{Y:World->List Nat->Prop}[mW Y]{q tb hb N lo:Nat}{L:List Nat}{V:Nat->Pg}{k:Nat}{H:HS}{fl:List Nat}{l:Nat}{t:Tr l}{w:World}{rows:Rw}{key:Key}{u:Nat × Nat}{pk:Option Addr}{ck n:Nat}(h:Two (GZ q N (nG H) V k) Y lo L w)(hR:TR q tb hb N lo L H fl l t w)(hks:oC l t=rows)(hn:n=key.length)(hkey:nC w pk n 1 (bv key))(hkL:∀ g o,pk=some ⟨g,o,none⟩->g<lo\/g∈L)(hkk:qD key)(hm:(key,u)∈rows)(hu:∀ v,(key,v)∈rows->v=u):
  CQ 14 [.pointer (some ⟨tb,0,none⟩), .slice pk n ck] w (λv w'=>v= .tuple #[.agg #[.int .i64 (u.1:Int), .int .i64 (u.2:Int)], .int .i64 0]/\Two (GZ q N (nG H) V k) Y lo L w'/\mX lo L w w'):=by
 subst hn;refine(Qt h hR hkey hkL hkk).to λv w' ⟨⟨e,f,c,g⟩,i,j⟩=>⟨?_,i,j⟩
 rcases g with⟨rfl,a⟩|⟨_,_,a⟩
 .rw[hks]at a
  rw[hu f a]at c;exact c
 .rw[hks]at a
  exact absurd hm<|a u
theorem Ud{key:Key}{u:Nat × Nat}(h:key.length<=100):tK 0 (pQ ([]:List (Key × V3)) (key,(u.1,u.2,0)))=true:=by
 have e:pQ ([]:List (Key × V3)) (key,(u.1,u.2,0))=[(key,(u.1,u.2,0))]:=rfl;rw[e];unfold tK;refine decide_eq_true ?_;have a:(pK 0 (key,(u.1,u.2,0))).length=1+key.length+6:=by
  unfold pK;rw[if_pos rfl,aD,aA,aA,ry,ry];dsimp only;omega
 show 17+4*1+((pK 0 (key,(u.1,u.2,0))).length+0)<=512;omega
theorem zuK(w:World):CQ 4 [] w (λv w'=>v= .bool true/\Below w.heap.size w w'):=by
 have a:=Below.refl w.heap.size w;have l1:maxLen=9223372036854775807:=by decide
 have f1:∀ W:World,Two None None W.heap.size [] W:=λW=>⟨⟨[],[],rfl,rfl,(λb hb=>nomatch hb),λb hb=>nomatch hb⟩,ax _,λb hb=>nomatch hb⟩
 have f2:=λW=>YB (f1 W) 5 eu eu
 obtain⟨l2,d7⟩:=Cy (N:=5) eu eu;have f3:uo 5 HT=3:=rfl;have f4:oC 0 T0=[]:=rfl;have f5:HT.F.root≠0:=by show¬1=0;decide
 have f6:=λw'=>Ku w'
 have f7:=fun {q lo hb:Nat} {L fl:List Nat} {V:Nat->Pg} {H:HS} (d8:Nat) (w':World) (f8:qO 5 H fl) (f9:Two (GZ q 5 (nG H) V d8) None lo L w') (hr:row w' hb [.pointer (some ⟨q,0,none⟩)] 201) (g0:hb<lo\/hb∈L)=>(RN hb 0 f9 f8 hr g0).to λv w2 G=>(show v=Value.int .i64 0/\Two (GZ q 5 (nG (yT H 0)) V d8) None lo L w2/\mX lo L w' w2 from by
   obtain⟨d9,e0,g1⟩:=G;have g2:yE 5 (0:Int)=0:=if_neg eu;rw[g2]at d9 e0;rcases e0 with⟨_,b1⟩|⟨b1,_⟩
   · exact⟨d9,b1,g1⟩
   · exact absurd rfl b1)
 have E:∀ {lo g:Nat} {l:List Nat},g∈l->∀ c o,(some ⟨g,0,none⟩:Option Addr)=some ⟨c,o,none⟩->c<lo\/c∈l:=λG c o e=>by cases e;exact .inr G
 obtain⟨F,e1⟩:=aa (pq 100);have A:F.length=100:=by rw[<-e1];simp[pq]
 have e2:qD F:=⟨(λe=>by rw[e]at A;cases A),eu⟩;have g3:tK 0 (pQ ([]:List (Key × V3)) (F,(2147483647,65535,0)))=true:=Ud (u:=(2147483647,65535)) eu;generalize HT=l3 at*;generalize T0=l4 at*;refine nP (fn:=Tryz.f4) (rs:=[.tmp 0]) (n:=204) Tryz.func4 rfl rfl Tryz.ntmps4 dA rfl<|mR<|nV<|nz<|nU ([Value.pointer none,Value.pointer none]) dA<|λB w1 l5 r g4=>?_
 replace a:=a.acc g4;refine pV<|nz<|Ha (e:=37) (.pointer none) (.pointer (some ⟨B,0,none⟩)) ([.pointer none]) ([.pointer (some ⟨B,0,none⟩)]) ([Value.pointer none]) 1 dA dA rfl rfl rfl rfl iw iw ⟨iT,iT⟩<|λb2 l6 l7 t e3=>?_
 replace r:=r.new e3;replace a:=a.acc e3;refine mV<|mQ<|ng<|mR<|mV<|mQ<|oU ?_
 have l8:=r.lt;refine qZ (α:=Nat) 0 (λk=>[(2, .slice (some ⟨b2,0,none⟩) 2 2),(3, .int .i64 (k:Int))])
   (λk w'=>k<=2/\row w' B [.pointer none, .pointer none] 50/\row w' b2 [.pointer none, .pointer (some ⟨B,0,none⟩)] 37/\Below w.heap.size w w') (λk=>2 - k)
   ⟨rfl,rfl,rfl⟩ ⟨aC _,r,t,a⟩ ?_
 clear r t a;rintro i f b3 ⟨l9,r,t,a⟩;refine ng<|mR<|mP<|mP<|mO (oQ (e:=37) (sz:=1) dA rfl rfl)<|mO (pE rfl rfl)<|mQ<|oP rfl (λe4=>?_)<|λe4=>?_
 ·
  refine lF ?_;obtain⟨q,g5,D⟩:∃ q,[Value.pointer none,Value.pointer (some ⟨B,0,none⟩)][i]?=some q/\∀ w',row w' B [.pointer none, .pointer none] 50->yu w' q:=by
    match i,e4 with
    |0,_=>exact⟨_,rfl,λ_ _=>.inl rfl⟩
    |1,_=>exact⟨_,rfl,λ_ G=>.inr ⟨B,rfl,G⟩⟩
  refine nM<|mP<|mP<|mO (vg (e:=37) dA rfl rfl i eu eu)<|mO (ou rfl (Ld.qN t dA (show[Value.pointer none,Value.pointer (some ⟨B,0,none⟩)][0+i]?=some q by rw[bg];exact g5)))<|nV<|mP<|nD (QL (D b3 r)) ?_
  rintro _ m0 ⟨rfl,b4⟩;replace r:=r.new b4;replace t:=t.new b4;replace a:=a.acc b4;refine mP<|mO (nJ rfl rfl)<|mO (nJ rfl rfl)<|nz<|nU ([Value.int .i64 0,Value.int .i64 0]) dA<|λe5 m1 b5 e6 b6=>?_
  have g6:=ag a.size b5;have g7:B<e5:=ae r.lt b5;have g8:b2<e5:=ae t.lt b5;replace r:=r.new b6;replace t:=t.new b6;replace a:=a.acc b6;refine nH<|nT 2 ([.int .i64 0, .int .i64 0]) e6<|λg9 e6 b7=>?_
  replace r:=r.only b7 (ai g7);replace t:=t.only b7 (ai g8);replace a:=b7.below a g6;refine nV<|mP<|nD (Fh (D g9 r)) ?_
  rintro _ h0 ⟨rfl,b8⟩;replace r:=r.new b8;replace t:=t.new b8;replace a:=a.acc b8;refine mP<|mO (nJ rfl rfl)<|mO (nJ rfl rfl)<|mV<|nV<|mP<|mO (oD rfl rfl)<|mP<|rD 50 rfl (eu)<|mY<|mP<|mY<|mO (oD rfl rfl)<|mO (oo rfl)<|mP<|rD 54 rfl (eu)<|mY<|mP<|mY<|mO (Ae [.int .i64 0, .int .i64 0] dA)<|mY<|nD (Om (D h0 r)) ?_;rintro _ h1 ⟨rfl,b9⟩;replace r:=r.new b9;replace t:=t.new b9;replace a:=a.acc b9;refine mY<|mO (oD rfl rfl)<|mO (oo rfl)<|mP<|rD 60 rfl (eu)<|mY<|mP<|mY<|nD (Ll (D h1 r)) ?_;rintro _ h2 ⟨rfl,c4⟩;replace r:=r.new c4;replace t:=t.new c4;replace a:=a.acc c4;refine mY<|mO (oD rfl rfl)<|mO (oo rfl)<|mP<|rD 65 rfl (eu)<|mY<|mP<|mY<|nD (NY (D h2 r)) ?_;rintro _ h3 ⟨rfl,c5⟩;replace r:=r.new c5;replace t:=t.new c5;replace a:=a.acc c5;refine mY<|mO (oD rfl rfl)<|mO (oo rfl)<|mP<|rD 70 rfl (eu)<|mY<|mP<|mY<|nD (zuG (D h3 r)) ?_;rintro _ h4 ⟨rfl,c6⟩;replace r:=r.new c6;replace t:=t.new c6;replace a:=a.acc c6;refine mY<|mO (oD rfl rfl)<|mO (oo rfl)<|mP<|rD 75 rfl (eu)<|mY<|mP<|mY<|nD (Qv (D h4 r)) ?_;rintro _ m2 ⟨rfl,c7⟩;replace r:=r.new c7;replace t:=t.new c7;replace a:=a.acc c7;refine mY<|mO (sD rfl)<|mO (oo rfl)<|mQ<|Gb rfl (ig)<|nL<|pW<|ny<|nM<|mP<|mO (om rfl rfl (show IntKind.i64.wrap ((i:Int)+1)=((i+1:Nat):Int) by rw[nN eu];omega))<|mV<|oH<|oO ⟨i+1,eu,⟨rfl,rfl,rfl⟩,eu,r,t,a⟩
 ·
  refine qP<|qL<|rf<|qX<|ny<|mR ?_
  have m3:=a.size;obtain⟨m4,h5⟩:=aa ((b3).heap.size);refine nD (f2 b3) ?_;rintro _ h6 ⟨q,hb,tb,V,rfl,j,h,p,m5,m6,h7⟩;rw[h5]at j;replace a:=zo a h7 eu;refine mP<|mO (nJ rfl rfl)<|mO (nJ rfl rfl)<|mO (nJ rfl rfl)<|mO (nJ rfl rfl)<|mV<|mV<|mV<|mV<|mQ<|ng<|nM<|mP<|nD (KE _ h6) ?_
  rintro _ m7 ⟨rfl,R⟩;replace j:=j.new R;replace h:=h.new R;replace p:=p.new R;replace a:=a.acc R;refine mP<|mO (nJ rfl rfl)<|mO (nJ rfl rfl)<|mV<|nV<|mP<|nD (Lf j) ?_;rintro _ m8 ⟨rfl,S⟩;replace j:=j.new S;replace h:=h.new S;replace p:=p.new S;replace a:=a.acc S;refine mP<|mO (nJ rfl rfl)<|mO (nJ rfl rfl)<|mV<|nV<|mP<|qi rfl (nX dA rfl) (Ip j p (.inr ig) (n:=0) eu) ?_;rintro _ m9 ⟨rfl,j,c8⟩;replace h:=h.nu c8.kp dB;replace p:=p.nu c8.kp dB;replace a:=zo a c8 eu;refine mP<|mO (nJ rfl rfl)<|mO (nJ rfl rfl)<|nz<|nU ([Value.int .i64 0,Value.int .i64 0]) dA<|λe7 n0 T c9 U=>?_
  have h8:=ag a.size T;have h9:hb<e7:=ae h.lt T;have i0:tb<e7:=ae p.lt T;replace j:=j.nA U T c9.lt;replace h:=h.new U;replace p:=p.new U;replace a:=a.acc U;refine nH<|nT 2 ([.int .i64 0, .int .i64 0]) c9<|λn1 c9 X=>?_
  replace j:=j.only X eG;replace h:=h.only X (ai h9);replace p:=p.only X (ai i0);replace a:=X.below a h8;refine nV<|mP<|nz<|Sr (e:=5) 101 [uk 0] 1 1 (uk 0) dA dA ⟨_,rfl,rfl⟩ ⟨_,rfl,rfl⟩ ig ig eu eu<|λn2 n3 i1 i2 Y=>?_
  replace j:=j.nA Y i1 i2.lt;replace h:=h.new Y;replace p:=p.new Y;replace a:=a.acc Y;refine qi rfl (nX dA rfl) (Ip j p (.inr ig) (n:=101) eu) ?_;rintro _ n4 ⟨rfl,j,d0⟩;replace h:=h.nu d0.kp dB;replace p:=p.nu d0.kp dB;replace a:=zo a d0 eu;refine mP<|mO (nJ rfl rfl)<|mO (nJ rfl rfl)<|nz<|nU ([Value.int .i64 0,Value.int .i64 0]) dA<|λe8 n5 Z d1 a0=>?_
  have i3:=ag a.size Z;have i4:hb<e8:=ae h.lt Z;have i5:tb<e8:=ae p.lt Z;replace j:=j.nA a0 Z d1.lt;replace h:=h.new a0;replace p:=p.new a0;replace a:=a.acc a0;refine nH<|nT 2 ([.int .i64 0, .int .i64 0]) d1<|λn6 d1 a1=>?_
  replace j:=j.only a1 eG;replace h:=h.only a1 (ai i4);replace p:=p.only a1 (ai i5);replace a:=a1.below a i3;refine mV<|mQ<|ng<|mR<|mP<|mO (sD rfl)<|mP<|Pn 109 rfl (ig)<|mY<|mP<|mY<|mO (oD rfl rfl)<|mO (oo rfl)<|mP<|rD 113 rfl (eu)<|mY<|mP<|mY<|mO (oD rfl rfl)<|mO (oo rfl)<|mP<|rD 117 rfl (eu)<|mY<|mP<|mY<|mO (oD rfl rfl)<|mO (oo rfl)<|mP<|rD 121 rfl (eu)<|mY<|mP<|mY<|mO (oD rfl rfl)<|mO (oo rfl)<|mP<|rD 125 rfl (eu)<|mY<|mP<|mY<|mP<|mY<|qi rfl (nX dA rfl) (GA j d7.ok f5 h (.inr ig)) ?_
  rintro _ i6 ⟨rfl,j,d2⟩;replace h:=h.nu d2.kp dB;replace p:=p.nu d2.kp dB;replace a:=zo a d2 eu;refine mY<|mO (oD rfl rfl)<|mO (oo rfl)<|mP<|rD 131 rfl (eu)<|mY<|mP<|mY<|nD (zuI _ i6) ?_;rintro _ n7 ⟨rfl,a2⟩;replace j:=j.new a2;replace h:=h.new a2;replace p:=p.new a2;replace a:=a.acc a2;refine mY<|mO (oD rfl rfl)<|mO (oo rfl)<|mP<|rD 136 rfl (eu)<|mY<|mP<|mY<|nD (zuJ j) ?_;rintro _ n8 ⟨rfl,a3⟩;replace j:=j.new a3;replace h:=h.new a3;replace p:=p.new a3;replace a:=a.acc a3;refine mY<|mO (oD rfl rfl)<|mO (oo rfl)<|mQ<|pJ rfl (eu)<|nL<|ny<|mR<|nz<|Sr (e:=5) 100 [uk 0] 1 1 (uk 0) dA dA ⟨_,rfl,rfl⟩ ⟨_,rfl,rfl⟩ ig ig eu eu<|λe9 i7 i8 d3 a4=>?_
  replace j:=j.nA a4 i8 d3.lt;replace h:=h.new a4;replace p:=p.new a4;replace a:=a.acc a4;rw[show List.replicate (100*1) (uk 0)=bv F by rw[dz,<-Nk,e1]]at d3;have y:=d3.ul (m:=100) (sz:=1) (by rw[oh,A]) eu;refine nV<|mO (AL (.int .i64 2147483647) (.int .i64 65535) [.int .i64 2147483647, .int .i64 65535] rfl rfl dA) ?_
  have n9:e9<(i7).heap.size:=by
    obtain⟨i9,j0,e,d4⟩:=y.some eu;cases e;exact d4
  refine nz<|nU ([Value.int .i64 0,Value.int .i64 0]) dA<|λd5 o0 a5 s I=>?_
  have j1:=ag a.size a5;have j2:hb<d5:=ae h.lt a5;have j3:tb<d5:=ae p.lt a5;replace j:=j.nA I a5 s.lt;replace h:=h.new I;replace p:=p.new I;replace y:=y.new I;replace a:=a.acc I;refine nH<|nT 2 ([.int .i64 2147483647, .int .i64 65535]) s<|λo1 s J=>?_
  replace j:=j.only J eG;replace h:=h.only J (ai j2);replace p:=p.only J (ai j3);replace y:=y.only J eu;replace a:=J.below a j1;refine mQ<|ng<|mR<|mP<|mP<|mO (ou rfl (Ld.qp (k:=2) s dA dA rfl))<|qi rfl (nX dA rfl) (EH F (2147483647,65535) j d7 f3 f4 p (.inr ig) h (.inr ig) A.symm y (E ig) e2 iT iT g3) ?_
  rintro _ o2 ⟨⟨rfl,H1,o3,j4,z,r,j5,j⟩,K⟩;replace h:=h.nu K.kp dB;replace p:=p.nu K.kp dB;replace y:=y.nu K.kp dB;replace s:=s.kl K;replace a:=zo a K eu;refine mO (oD rfl rfl)<|mP<|rD 148 rfl (eu)<|mY<|mP<|mY<|mP<|mY<|mO (xC (.int .i64 2147483648) [.int .i64 2147483648, .int .i64 0] rfl dA)<|mY ?_;have j6:oC 0 j4=[(F,(2147483647,65535))]:=j5;refine qi rfl (nX dA rfl) (Tc 2147483648 0 j (z.CF p (.inr ig) h (.inr ig)) z A.symm y (E ig) (by unfold zA;omega)) ?_;rintro _ o4 ⟨rfl,j,M⟩;replace h:=h.nu M.kp dB;replace p:=p.nu M.kp dB;replace y:=y.nu M.kp dB;replace s:=s.kl M;replace a:=zo a M eu;refine mY<|mO (oD rfl rfl)<|mO (oo rfl)<|mP<|rD 155 rfl (eu)<|mY<|mP<|mY<|mP<|mY<|mO (xC (.int .i64 65536) [.int .i64 0, .int .i64 65536] rfl dA)<|mY<|qi rfl (nX dA rfl) (Tc 0 65536 j (z.CF p (.inr ig) h (.inr ig)) z A.symm y (E ig) (by unfold zA;omega)) ?_;rintro _ o5 ⟨rfl,j,O⟩;replace h:=h.nu O.kp dB;replace p:=p.nu O.kp dB;replace y:=y.nu O.kp dB;replace s:=s.kl O;replace a:=zo a O eu;refine mY<|mO (oD rfl rfl)<|mO (oo rfl)<|mP<|rD 162 rfl (eu)<|mY<|mP<|mY<|mP<|mY<|mO (xC (.int .i64 (-1)) [.int .i64 0, .int .i64 (-1)] rfl dA)<|mY<|qi rfl (nX dA rfl) (Tc 0 (-1) j (z.CF p (.inr ig) h (.inr ig)) z A.symm y (E ig) (by unfold zA;omega)) ?_;rintro _ o6 ⟨rfl,j,P⟩;replace h:=h.nu P.kp dB;replace p:=p.nu P.kp dB;replace y:=y.nu P.kp dB;replace s:=s.kl P;replace a:=zo a P eu;refine mY<|mO (oD rfl rfl)<|mO (oo rfl)<|mP<|rD 169 rfl (eu)<|mY<|mP<|mY<|mP<|mY<|mO (xC (.int .i64 (-1)) [.int .i64 (-1), .int .i64 0] rfl dA)<|mY<|qi rfl (nX dA rfl) (Tc (-1) 0 j (z.CF p (.inr ig) h (.inr ig)) z A.symm y (E ig) (by unfold zA;omega)) ?_;rintro _ o7 ⟨rfl,j,Q⟩;replace h:=h.nu Q.kp dB;replace p:=p.nu Q.kp dB;replace y:=y.nu Q.kp dB;replace s:=s.kl Q;replace a:=zo a Q eu;refine mY<|mO (oD rfl rfl)<|mO (oo rfl)<|mQ<|pJ rfl (eu)<|nL<|ny<|mR<|mP<|mP<|qi rfl (nX dA rfl) (PR (u:=(2147483647,65535)) j (z.CF p (.inr ig) h (.inr ig)) j6 A.symm y (E ig) e2 ig ig) ?_;rintro _ j7 ⟨rfl,j,a6⟩;replace h:=h.nu a6.kp dB;replace y:=y.nu a6.kp dB;replace s:=s.kl a6;replace a:=zo a a6 eu;refine lK ?_;have o8:e9<(j7).heap.size:=by
    obtain⟨i9,j0,e,d4⟩:=y.some eu;cases e;exact d4
  refine nz<|nU ([Value.int .i64 0,Value.int .i64 0]) dA<|λf0 o9 a7 C a8=>?_
  have j8:=ag a.size a7;have j9:hb<f0:=ae h.lt a7;have k7:d5<f0:=ae s.lt a7;replace j:=j.nA a8 a7 C.lt;replace h:=h.new a8;replace s:=s.new a8;replace a:=a.acc a8;refine nH<|nT 2 ([.int .i64 2147483647, .int .i64 65535]) C<|λk8 C a9=>?_
  replace j:=j.only a9 eG;replace h:=h.only a9 (ai j9);replace s:=s.only a9 (ai k7);replace a:=a9.below a j8;refine nV<|mP<|qi rfl (nX dA rfl) (f7 _ k8 z.ok j h (.inr ig)) ?_
  rintro _ p0 ⟨rfl,j,b0⟩;replace h:=h.nu b0.kp dB;replace s:=s.kl b0;replace C:=C.kl b0;replace a:=zo a b0 eu;refine pV<|mP<|mP<|qi rfl (nX dA rfl) (Oa j (z.ok.root (n:=0) iT) rfl h (.inr ig)) ?_;rintro _ k9 ⟨rfl,j,d6⟩;replace s:=s.kl d6;replace C:=C.kl d6;replace a:=zo a d6 eu;refine mP<|mO (nJ rfl rfl)<|mO (nJ rfl rfl)<|mV<|nV<|mP<|mO (qy rfl rfl)<|mP<|zU 192 rfl (eu)<|mY<|mO (ou rfl (Ld.qp (k:=2) C dA dA rfl))<|mY<|mO (ou rfl (Ld.qp (k:=2) s dA dA rfl))<|mY<|mO (FW (k0:=.i64) (k1:=.i64) dA rfl rfl)<|mO (pO rfl)<|mP<|zU 197 rfl (ig)<|mY<|mP<|mY<|mO (qy rfl rfl)<|mO (pO rfl)<|mP<|zU 201 rfl (eu)<|mY<|nD (f6 k9) ?_;rintro _ p1 ⟨rfl,l0⟩;replace a:=a.acc l0;refine mO (pO rfl)<|mV<|mQ<|nQ<|nR [_] ⟨rfl,trivial⟩ ?_;exact⟨rfl,a⟩
end Go.Proofs.YtpaniebomegnbaaGreat
