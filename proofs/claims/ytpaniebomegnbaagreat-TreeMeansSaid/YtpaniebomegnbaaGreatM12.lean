import Derived.Test.YtpaniebomegnbaaGreatM11
set_option maxHeartbeats 8000000
set_option maxRecDepth 20000
namespace Go.Proofs.YtpaniebomegnbaaGreat
open Go Go.RowKit Coup
def kA:Key:=[97]
def kB:Key:=[98]
def kC:Key:=[99]
theorem Ev(b:UInt8):qR [b]:=⟨jL _ _,by show 1<=100;omega⟩
theorem Mf(w:World):CQ 7 [] w (λv w'=>v= .bool true/\VD w w'):=by
 have i:=nC.refl w.heap.size [] w;have j7:maxLen=9223372036854775807:=by decide
 have d6:Two None None w.heap.size [] w:=⟨⟨[],[],rfl,rfl,(λb hb=>nomatch hb),λb hb=>nomatch hb⟩,ax _,λb hb=>nomatch hb⟩;have d7:=ztN d6 5 dB dB;obtain⟨j8,d8⟩:=Eu (N:=5) dB dB;have d9:uD 5 HT=3:=rfl;have e0:oO 0 T0=[]:=rfl;have T:∀ {lo:Nat} (g:Nat) (l:List Nat),∀ c o,(some ⟨g,0,none⟩:Option Addr)=some ⟨c,o,none⟩->c<lo\/c∈g::l:=λg l c o e=>by cases e;exact .inr (aK ..)
 have O:∀ {lo g:Nat} {l:List Nat},g∈l->∀ c o,(some ⟨g,0,none⟩:Option Addr)=some ⟨c,o,none⟩->c<lo\/c∈l:=λe1 c o e=>by cases e;exact .inr e1
 have e2:∀ {lo:Nat} {l:List Nat},∀ c o,(none:Option Addr)=some ⟨c,o,none⟩->c<lo\/c∈l:=λc o e=>nomatch e
 have e3:∀ {lo a b:Nat} {l:List Nat},a∈l->b∈l->∀ c,(c=a\/c=b)->c<lo\/c∈l:=λe4 e5 c e=>.inr (e.elim (λe=>e▸e4) λe=>e▸e5)
 generalize HT=j9 at*;generalize T0=k0 at*;refine nZ (rs:=[.tmp 0]) (n:=79) Tryz.func7 rfl rfl Tryz.ntmps7 dA rfl<|ny<|oG<|nP (d7) ?_
 rintro _ k7 ⟨q,hb,tb,V,rfl,j,f,h,k8,k9,e6⟩;replace i:=i.lq e6;refine ng<|mZ (nW rfl rfl)<|mZ (nW rfl rfl)<|mZ (nW rfl rfl)<|mZ (nW rfl rfl)<|nA<|nA<|nA<|nA<|nk<|nI<|ny<|ng<|mZ (sj rfl)<|ng<|Ow 15 rfl (ig)<|nE<|ng<|nE<|nK<|tT (e:=5) (.int .u8 97) ([.int .u8 97]) ([Value.int .u8 0]) 1 dA dA rfl rfl rfl ⟨iT,iT⟩<|λc6 l0 U X B=>?_
 have e7:hb<c6:=ae f.lt U;have e8:tb<c6:=ae h.lt U;replace i:=i.new B;replace j:=j.nL B U X.lt;replace f:=f.new B;replace h:=h.new B;refine nE ?_;have e9:=X;have l1:=X.lt;have l2:=B.size;refine nK<|Gx (e:=5) dA dA rfl e9 rfl dB<|λl3 f0 C=>?_
 replace i:=i.oq C;replace j:=j.only C eG;replace f:=f.only C (ai e7);replace h:=h.only C (ai e8);have l4:=C.size;refine nE<|mZ (Ay (VB 1) [VB 1,VB 0] rfl dA)<|nE<|qA rfl (oz dA rfl) (KZ kA (1,0) j d8 d9 e0 h (.inr ig) f (.inr ig) rfl f0 (T _ _) (Ev 97) iT iT iT) ?_
 rintro _ l5 ⟨⟨rfl,H1,l6,f1,f2,f3,f4,j⟩,Y⟩;replace i:=i.lq Y;replace f:=f.nD Y.kp eu;replace h:=h.nD Y.kp eu;refine nE<|mZ (pJ rfl rfl)<|mZ (oP rfl)<|ng<|uy 23 rfl (ig)<|nE<|ng<|nE ?_;have f5:oO 0 f1=[(kA,(1,0))]:=f4;refine nK<|tT (e:=5) (.int .u8 99) ([.int .u8 99]) ([Value.int .u8 0]) 1 dA dA rfl rfl rfl ⟨iT,iT⟩<|λc7 l7 Z a0 D=>?_
 have f6:hb<c7:=ae f.lt Z;have f7:tb<c7:=ae h.lt Z;replace i:=i.new D;replace j:=j.nL D Z a0.lt;replace f:=f.new D;replace h:=h.new D;refine nE ?_;have f8:=a0;have l8:=a0.lt;have l9:=D.size;refine nK<|Gx (e:=5) dA dA rfl f8 rfl dB<|λm0 f9 E=>?_
 replace i:=i.oq E;replace j:=j.only E eG;replace f:=f.only E (ai f6);replace h:=h.only E (ai f7);have m1:=E.size;refine nE<|mZ (Ay (VB 3) [VB 3,VB 0] rfl dA)<|nE<|qA rfl (oz dA rfl) (KZ kC (3,0) j f2 f3 f5 h (.inr ig) f (.inr ig) rfl f9 (T _ _) (Ev 99) iT iT iT) ?_
 rintro _ m2 ⟨⟨rfl,H2,m3,g0,g1,g2,g3,j⟩,a1⟩;replace i:=i.lq a1;replace f:=f.nD a1.kp eu;replace h:=h.nD a1.kp eu;refine nE<|mZ (pJ rfl rfl)<|mZ (oP rfl)<|ng<|uy 31 rfl (ig)<|nE<|ng<|nE ?_;have g4:oO 0 g0=[(kA,(1,0)),(kC,(3,0))]:=g3;refine nK<|tT (e:=5) (.int .u8 98) ([.int .u8 98]) ([Value.int .u8 0]) 1 dA dA rfl rfl rfl ⟨iT,iT⟩<|λc8 m4 a2 a3 F=>?_
 have g5:hb<c8:=ae f.lt a2;have g6:tb<c8:=ae h.lt a2;replace i:=i.new F;replace j:=j.nL F a2 a3.lt;replace f:=f.new F;replace h:=h.new F;refine nE ?_;have g7:=a3;have m5:=a3.lt;have m6:=F.size;refine nK<|Gx (e:=5) dA dA rfl g7 rfl dB<|λm7 g8 G=>?_
 replace i:=i.oq G;replace j:=j.only G eG;replace f:=f.only G (ai g5);replace h:=h.only G (ai g6);have m8:=G.size;refine nE<|mZ (Ay (VB 2) [VB 2,VB 0] rfl dA)<|nE<|qA rfl (oz dA rfl) (KZ kB (2,0) j g1 g2 g4 h (.inr ig) f (.inr ig) rfl g8 (T _ _) (Ev 98) iT iT iT) ?_
 rintro _ m9 ⟨⟨rfl,H3,n0,g9,P,n1,h0,j⟩,a4⟩;replace i:=i.lq a4;replace f:=f.nD a4.kp eu;replace h:=h.nD a4.kp eu;refine nE<|mZ (pJ rfl rfl)<|mZ (oP rfl)<|nk<|qg rfl (ig)<|nU<|nJ<|nI<|ny<|ng ?_;have c9:oO 0 g9=[(kA,(1,0)),(kB,(2,0)),(kC,(3,0))]:=h0;refine nK<|tT (e:=5) (.int .u8 98) ([.int .u8 98]) ([Value.int .u8 0]) 1 dA dA rfl rfl rfl ⟨iT,iT⟩<|λd0 n2 a5 a6 H=>?_
 have h1:hb<d0:=ae f.lt a5;have h2:tb<d0:=ae h.lt a5;replace i:=i.new H;replace j:=j.nL H a5 a6.lt;replace f:=f.new H;replace h:=h.new H;have h3:=a6;have n3:=a6.lt;have n4:=H.size;refine nK<|Gx (e:=5) dA dA rfl h3 rfl dB<|λn5 k I=>?_
 replace i:=i.oq I;replace j:=j.only I eG;replace f:=f.only I (ai h1);replace h:=h.only I (ai h2);have n6:=I.size;refine nK<|tT (e:=5) (.int .u8 98) ([.int .u8 98]) ([Value.int .u8 0]) 1 dA dA rfl rfl rfl ⟨iT,iT⟩<|λp n7 a7 a8 z=>?_
 have h4:hb<p:=ae f.lt a7;have h5:tb<p:=ae h.lt a7;replace i:=i.new z;replace j:=j.nL z a7 a8.lt;replace f:=f.new z;replace h:=h.new z;replace k:=k.new z;have h6:=a8;have n8:=a8.lt;have n9:=z.size;refine nK<|Gx (e:=5) dA dA rfl h6 rfl dB<|λo0 s A=>?_
 replace i:=i.oq A;replace j:=j.only A eG;replace f:=f.only A (ai h4);replace h:=h.only A (ai h5);replace k:=k.only A dB;have o1:=A.size;refine mZ (Ay (VB 2) [VB 2,VB 0] rfl dA)<|mZ (AC (.slice (some ⟨p,0,none⟩) 1 1) (.agg #[VB 2,VB 0]) (vz (some ⟨p,0,none⟩) 1 (kB,(2,0))) rfl rfl dA)<|nK<|tT (e:=5) (.int .u8 99) ([.int .u8 99]) ([Value.int .u8 0]) 1 dA dA rfl rfl rfl ⟨iT,iT⟩<|λr o2 a9 b0 t=>?_
 have h7:hb<r:=ae f.lt a9;have h8:tb<r:=ae h.lt a9;replace i:=i.new t;replace j:=j.nL t a9 b0.lt;replace f:=f.new t;replace h:=h.new t;replace k:=k.new t;replace s:=s.new t;have h9:=b0;have o3:=b0.lt;have o4:=t.size;refine nK<|Gx (e:=5) dA dA rfl h9 rfl dB<|λo5 b1 u=>?_
 replace i:=i.oq u;replace j:=j.only u eG;replace f:=f.only u (ai h7);replace h:=h.only u (ai h8);replace k:=k.only u dB;replace s:=s.only u dB;have o6:=u.size;refine mZ (Ay (VB 3) [VB 3,VB 0] rfl dA)<|mZ (AC (.slice (some ⟨r,0,none⟩) 1 1) (.agg #[VB 3,VB 0]) (vz (some ⟨r,0,none⟩) 1 (kC,(3,0))) rfl rfl dA)<|nK<|Jc (e:=70) (.agg (vz (some ⟨p,0,none⟩) 1 (kB,(2,0))).toArray) (.agg (vz (some ⟨r,0,none⟩) 1 (kC,(3,0))).toArray) (vz (some ⟨p,0,none⟩) 1 (kB,(2,0))) (vz (some ⟨r,0,none⟩) 1 (kC,(3,0))) ([VC,VB 0,VB 0]) 3 dA dA rfl rfl rfl rfl iw iw ⟨iT,iT⟩<|λo7 i0 i1 d1 y=>?_
 replace i:=i.new y;replace j:=j.nL y i1 d1.lt;replace f:=f.new y;replace h:=h.new y;replace k:=k.new y;replace s:=s.new y;replace b1:=b1.new y;have i2:uw (λb=>b=p\/b=r) i0 (vz (some ⟨p,0,none⟩) 1 (kB,(2,0))++vz (some ⟨r,0,none⟩) 1 (kC,(3,0))) [(kB,(2,0)),(kC,(3,0))]:=(uw.nil.snoc ⟨some ⟨p,0,none⟩,1,rfl,s,λg o e=>by cases e;exact .inl rfl⟩).snoc ⟨some ⟨r,0,none⟩,1,rfl,b1,λg o e=>by cases e;exact .inr rfl⟩;have i3:=d1.tY (m:=2) (sz:=3) rfl dB;refine qA rfl (oz dA rfl) (Jr (fr:=kB) (be:=[]) [(kB,(2,0)),(kC,(3,0))] j (P.zx h (.inr ig) f (.inr ig)) P.tr.nd rfl rfl (nM.nil _ _ _) e2 k (O ig) (by rw[c9];rfl) i3 (i2.mono (e3 ig ig)) rfl (O ig)) ?_;rintro _ o8 ⟨rfl,j,b2⟩;replace i:=i.lq b2;replace f:=f.nD b2.kp eu;replace h:=h.nD b2.kp eu;refine mZ (sj rfl)<|ng<|Ow 53 rfl (ig)<|nE<|ng<|nE<|nK<|tT (e:=5) (.int .u8 98) ([.int .u8 98]) ([Value.int .u8 0]) 1 dA dA rfl rfl rfl ⟨iT,iT⟩<|λd2 o9 b3 b4 J=>?_
 have i4:hb<d2:=ae f.lt b3;have i5:tb<d2:=ae h.lt b3;replace i:=i.new J;replace j:=j.nL J b3 b4.lt;replace f:=f.new J;replace h:=h.new J;refine nE ?_;have i6:=b4;have p0:=b4.lt;have p1:=J.size;refine nK<|Gx (e:=5) dA dA rfl i6 rfl dB<|λp2 i7 K=>?_
 replace i:=i.oq K;replace j:=j.only K eG;replace f:=f.only K (ai i4);replace h:=h.only K (ai i5);have p3:=K.size;refine nE<|qA rfl (oz dA rfl) (Qe (key:=kB) j (P.zx h (.inr ig) f (.inr ig)) P c9 rfl i7 (O ig) (Ev 98) ⟨(2,0),ig⟩) ?_
 rintro _ p4 ⟨⟨rfl,H4,p5,i8,Q,i9,j⟩,b5⟩;replace i:=i.lq b5;replace f:=f.nD b5.kp eu;replace h:=h.nD b5.kp eu;refine nE<|mZ (pJ rfl rfl)<|mZ (oP rfl)<|nk<|qg rfl (ig)<|nU<|nJ<|ny<|ng ?_;have d3:oO 0 i8=[(kA,(1,0)),(kC,(3,0))]:=i9.trans iT;refine nK<|tT (e:=5) (.int .u8 98) ([.int .u8 98]) ([Value.int .u8 0]) 1 dA dA rfl rfl rfl ⟨iT,iT⟩<|λd4 p6 b6 b7 L=>?_
 have j0:hb<d4:=ae f.lt b6;have j1:tb<d4:=ae h.lt b6;replace i:=i.new L;replace j:=j.nL L b6 b7.lt;replace f:=f.new L;replace h:=h.new L;have j2:=b7;have p7:=b7.lt;have p8:=L.size;refine nK<|Gx (e:=5) dA dA rfl j2 rfl dB<|λp9 j3 M=>?_
 replace i:=i.oq M;replace j:=j.only M eG;replace f:=f.only M (ai j0);replace h:=h.only M (ai j1);have q0:=M.size;refine qA rfl (oz dA rfl) (OO (key:=kB) j (Q.zx h (.inr ig) f (.inr ig)) d3 rfl j3 (O ig) (Ev 98) iT) ?_;rintro _ nV ⟨rfl,j,b8⟩;replace i:=i.lq b8;replace f:=f.nD b8.kp eu;replace h:=h.nD b8.kp eu;refine ng<|mZ (nW rfl rfl)<|mZ (nW rfl rfl)<|nK<|oD ([VB 0,VB 0]) dA<|λd5 q1 b9 c4 R=>?_
 have j4:hb<d5:=ae f.lt b9;have j5:tb<d5:=ae h.lt b9;replace i:=i.new R;replace j:=j.nL R b9 c4.lt;replace f:=f.new R;replace h:=h.new R;refine nT<|oC 2 ([VB 0,VB 0]) c4<|λq2 c4 S=>?_
 replace i:=i.oq S;replace j:=j.only S eG;replace f:=f.only S (ai j4);replace h:=h.only S (ai j5);refine oG<|ng<|mZ (qB rfl rfl)<|ng<|zT 69 rfl (ig)<|nE<|ng<|nE<|qA rfl (oz dA rfl) (Mx j (Q.zx h (.inr ig) f (.inr ig)) Q.tr.nd) ?_
 rintro _ q3 ⟨rfl,j,c5⟩;replace i:=i.lq c5;replace f:=f.nD c5.kp eu;replace h:=h.nD c5.kp eu;refine nE<|mZ (qB rfl rfl)<|mZ (pK rfl)<|ng<|zT 74 rfl ((by rw[d3];decide))<|nE<|ng<|nE<|qA rfl (oz dA rfl) (h_ j (Q.zx h (.inr ig) f (.inr ig))) ?_;rintro _ q4 ⟨rfl,j,j6⟩;replace i:=i.lq j6;refine nE<|mZ (qB rfl rfl)<|mZ (pK rfl)<|nA<|nk<|nY<|ou [_] ⟨rfl,trivial⟩ ?_;exact⟨rfl,RA (Below.refl _ _) i (ax _)⟩
section
variable {Y:VE}[hYT:nz Y]{q tb hb N lo:Nat}{L:List Nat}{V:Nat->Pg}{k:Nat}{H:HS}{fl rl:List Nat}{R:Nat->Nat->Prop}{P:Nat->Nat->List Nat}{B:Nat->Nat->List UInt8}{l:Nat}{t:Tr l}{w:World}
theorem QS(h:Two (GZ q N (nQ H) V k) Y lo L w)(hR:TR q tb hb N lo L H fl l t w)(hS:TS N H fl rl R P B [] l t)(a1 a2:Int){pk:Option Addr}{ck:Nat}{key:Key}(hkey:nM w pk key.length 1 (bv key))(hkL:1<=key.length->∀ g o,pk=some ⟨g,o,none⟩->g<lo\/g∈L):
  CQ 16 [VA tb, .slice pk key.length ck, .agg #[VB a1,VB a2]] w (λv w'=>∃ (e:Int) (H':HS) (fl':List Nat) (l':Nat) (t':Tr l'),v=VB e/\TS N H' fl' rl R P B [] l' t'/\(e=0/\1<=key.length/\(∃ u:Nat × Nat,a1=u.1/\a2=u.2/\oO l' t'=uY (oO l t) (key,u))\/e≠0/\oO l' t'=oO l t)/\Two (GZ q N (nQ H') V k) Y lo L w'/\nC lo L w w'):=by
 refine(OV h hR hS a1 a2 hkey hkL).to λv w' ⟨f,c⟩=>?_
 rcases f with⟨u,H',fl',l',t',e,g,i,j,_,_,k,hp,a⟩|⟨e,m,o,a⟩
 .exact⟨0,H',fl',l',t',e,k, .inl ⟨rfl,fF.2 g.1,u,i,j,hp.row⟩,a,c⟩
 .exact⟨e,H,fl,l,t,m,hS, .inr ⟨by rcases o with h|h<;>omega,rfl⟩,a,c⟩
theorem Cj(h:Two (GZ q N (nQ H) V k) Y lo L w)(hR:TR q tb hb N lo L H fl l t w)(hS:TS N H fl rl R P B [] l t){pk:Option Addr}{ck:Nat}{key:Key}(hkey:nM w pk key.length 1 (bv key))(hkL:1<=key.length->∀ g o,pk=some ⟨g,o,none⟩->g<lo\/g∈L):
  CQ 13 [VA tb, .slice pk key.length ck] w (λv w'=>∃ (e:Int) (H':HS) (fl':List Nat) (l':Nat) (t':Tr l'),v=VB e/\TS N H' fl' rl R P B [] l' t'/\(e=0↔∃ r∈oO l t,r.1=key)/\oO l' t'=rY (oO l t) key/\Two (GZ q N (nQ H') V k) Y lo L w'/\nC lo L w w'):=by
 refine(Js h hR hS hkey hkL).to λv w' ⟨m,f⟩=>?_
 rcases m with⟨u,H',fl',l',t',e,_,o,p,hp,a⟩|⟨e,q,g,a⟩
 .exact⟨0,H',fl',l',t',e,p,⟨λ_=>⟨_,o,rfl⟩,λ_=>rfl⟩,hp.row,a,f⟩
 .have i:∀ j∈oO l t,j.1≠key:=by
   rintro⟨j,u⟩ k rfl;rcases g with⟨_,c⟩|⟨_,_,c⟩
   .exact c (hS.tr.snd_.rows _ k).1
   .exact c u k
  exact⟨e,H,fl,l,t,q,hS,⟨λs=>by rcases g with h|h<;>omega,fun⟨r,hr,e⟩=>absurd e (i r hr)⟩,(Mi i).symm,a,f⟩
theorem zvB{α:Type}{ks:List (Key × α)}(h:tN ks){key:Key}{u v:α}(hu:(key,u)∈ks)(hv:(key,v)∈ks):u=v:=by
 induction ks with
 |nil=>cases hu
 |cons y r ih=>
  have hp:=dL.1 h;rcases ak.1 hu with f|g
  .rcases ak.1 hv with c|e
   .rw[<-f]at c;cases c;rfl
   .have a:=hp.1 _ e
    rw[<-f]at a;exact absurd a<|pM.irrefl _
  .rcases ak.1 hv with c|e
   .have a:=hp.1 _ g
    rw[<-c]at a;exact absurd a<|pM.irrefl _
   .exact ih hp.2 g e
theorem Ph(h:Two (GZ q N (nQ H) V k) Y lo L w)(hR:TR q tb hb N lo L H fl l t w){pk:Option Addr}{ck:Nat}{r:Key × (Nat × Nat)}(hkey:nM w pk r.1.length 1 (bv r.1))(hkL:∀ g o,pk=some ⟨g,o,none⟩->g<lo\/g∈L)(hm:r∈oO l t):
  CQ 14 [VA tb, .slice pk r.1.length ck] w (λv w'=>v= .tuple #[.agg #[VB (r.2.1:Int),VB (r.2.2:Int)],VB 0]/\Two (GZ q N (nQ H) V k) Y lo L w'/\nC lo L w w'):=by
 refine(OQ h hR hkey hkL (hR.sd.rows _ hm).1).to λv w' ⟨⟨e,u,c,f⟩,g,i⟩=>⟨?_,g,i⟩
 rcases f with⟨rfl,a⟩|⟨_,_,a⟩
 .rw[zvB hR.sd.rise a hm]at c
  exact c
 .exact absurd hm<|a _
end
theorem zvC{α:Type}{ks:List (Key × α)}(h:tN ks){j:Nat}{r:Key × α}(hr:ks[j]?=some r):rY (ks.drop j) r.1=ks.drop (j+1):=by
 have a:=(aL.1 hr).1;have e:ks.drop j=r::ks.drop (j+1):=by
  rw[dm a];have:=(aL.1 hr).2;rw[this]
 have hp:tN (ks.drop j):=List.Pairwise.drop h;rw[e]at hp |-;have c:=(dL.1 hp).1;unfold rY;rw[dE,if_neg ig];exact filter_all λf g=>decide_eq_true (c f g).ne.symm
theorem YW{w:World}{base e sz m:Nat}{v:Value}{xs:List Value}(h:og w base e sz v m xs):∃ p c,v= .slice p m c:=h.form
theorem zvD{α:Type}(ks:List (Key × α))(x:Key × α):(uY ks x).length<=ks.length+1:=by
 have e:(ks.filter λa=>decide (pM a.1 x.1)).length+(ks.filter λa=>decide (pM x.1 a.1)).length<=ks.length:=by
  induction ks with
  |nil=>simp
  |cons a r ih=>
   rw[dE,dE,aD]
   by_cases c:pM a.1 x.1
   .rw[if_pos (decide_eq_true c),if_neg (by rw[decide_eq_true_eq];exact c.asymm),aD]
    omega
   .rw[if_neg (by rw[decide_eq_true_eq];exact c)]
    split
    .rw[aD];omega
    .omega
 unfold uY;rw[aA,aD];omega
def Un(N q hb tb lo:Nat)(V:Nat->Pg)(pr:Option Addr)(tr rows:Rw)(w:World):Prop:=
 ∃ (H:HS) (fl rl:List Nat) (R:Nat->Nat->Prop) (P:Nat->Nat->List Nat) (B:Nat->Nat->List UInt8) (l:Nat) (t:Tr l) (vs:List Value) (a:List Nat),TS N H fl rl R P B [] l t/\oO l t=tr/\Two (GZ q N (nQ H) V 3) None lo (a++[tb,hb]) w/\row w hb [VA q] 201/\row w tb [VA q,VA hb] 50/\nM w pr rows.length 3 vs/\uw (λb=>b<lo) w vs rows/\∀ g o,pr=some ⟨g,o,none⟩->g∈a
section
variable {S:Nat->Prop}{w:World}{p pk:Option Addr}{n c ck:Nat}{vs:List Value}{rs:Rw}{key:Key}
theorem zvE(u:Nat × Nat){a1 a2:Int}(e1:a1=u.1)(e2:a2=u.2)(hs:nM w p n 3 vs)(hr:uw S w vs rs)(hn:n=rs.length)(hn2:n<=100000)(hk:nM w pk key.length 1 (bv key))(hkS:∀ g o,pk=some ⟨g,o,none⟩->S g)(hSw:∀ b,S b->b<w.heap.size)(hrk:tN rs):
  Calls Tryz.prog 24 [.slice p n c, .slice pk key.length ck, .agg #[VB a1,VB a2]].toArray w
   (qb λv w'=>∃ p' c' vs',v= .slice p' (uY rs (key,u)).length c'/\og w' w.heap.size 70 3 (.slice p' (uY rs (key,u)).length c') (uY rs (key,u)).length vs'/\uw S w' vs' (uY rs (key,u))/\VD w w'):=by
 subst e1;subst e2;refine(zvA u hs hr hn hn2 hk hkS hSw hrk).to λv w' ⟨vs',a,c,e⟩=>?_
 obtain⟨p',c',rfl⟩:=YW a;exact⟨p',c',vs',rfl,a,c,e⟩
theorem ztQ(hs:nM w p n 3 vs)(hr:uw S w vs rs)(hn:n=rs.length)(hn2:n<=100000)(hk:nM w pk key.length 1 (bv key))(hSw:∀ b,S b->b<w.heap.size):
  Calls Tryz.prog 25 [.slice p n c, .slice pk key.length ck].toArray w
   (qb λv w'=>∃ p' c' vs',v= .tuple #[.slice p' (rY rs key).length c', .bool (decide (∃ r∈rs,r.1=key))]/\og w' w.heap.size 70 3 (.slice p' (rY rs key).length c') (rY rs key).length vs'/\uw S w' vs' (rY rs key)/\VD w w'):=by
 refine(ztP hs hr hn hn2 hk hSw).to λv w' ⟨g,vs',c,a,e,f⟩=>?_
 obtain⟨p',c',rfl⟩:=YW a;exact⟨p',c',vs',c,a,e,f⟩
end
theorem zq5(many:Int)(p:Option Addr)(n cp:Nat)(R:List Dp)(w:World)(h:yE (EF w) w 4 p n R):
   CQ 5 [VB many, .slice p n cp] w (λv w'=>v= .bool true/\VD w w'):=by
 have I:=nC.refl w.heap.size [] w;have n1:maxLen=9223372036854775807:=by decide
 have h7:=Oy p n cp 100 R w h dB;have n2:=h.1;have h8:Two None None w.heap.size [] w:=⟨⟨[],[],rfl,rfl,(λb hb=>nomatch hb),λb hb=>nomatch hb⟩,ax _,λb hb=>nomatch hb⟩;have d0:=λw'=>Mf w'
 refine Calls.to (R:=λv w'=>v= .bool true/\nC w.heap.size [] w w') ?_<|λv w' f4=>⟨f4.1,RA (Below.refl _ _) f4.2 (ax _)⟩
 refine nZ (rs:=[.tmp 4]) (n:=159) Tryz.func5 rfl rfl Tryz.ntmps5 dA rfl<|ny<|nA<|nk<|nI<|ny<|ng<|mZ (pI rfl rfl)<|ng<|sZ 20 rfl (λh9=>?_)<|λh9=>?_
 ·
  refine nN<|nN<|mZ (pK rfl)<|ng<|nN<|nN<|nN<|mZ (pK rfl)<|nk<|vD rfl (rfl)<|ny<|nP (d0 w) ?_
  rintro _ f5 ⟨rfl,a8⟩;replace I:=I.new a8;refine mO ?_;exact⟨rfl,I⟩
 ·
  refine nE<|ng<|nE<|mZ (rz rfl rfl)<|mZ (oP rfl)<|ng<|sZ 24 rfl (λi0=>?_)<|λi0=>?_
  ·
   refine nN<|nN<|nN<|mZ (pK rfl)<|nk<|vD rfl (rfl)<|ny<|nP (d0 w) ?_
   rintro _ f5 ⟨rfl,a8⟩;replace I:=I.new a8;refine mO ?_;exact⟨rfl,I⟩
  ·
   refine nE<|ng<|nE<|nP h7 ?_
   rintro _ _ ⟨n3,rfl,i1,rfl⟩;refine nE<|mZ (sj rfl)<|mZ (oP rfl)<|nk<|Ki rfl (λf6=>?_)<|λf6=>?_
   ·
    refine ny<|nP (d0 w) ?_
    rintro _ f5 ⟨rfl,a8⟩;replace I:=I.new a8;refine mO ?_;exact⟨rfl,I⟩
   ·
    have n4:n<=100:=i1 (by simpa using f6);have J:∃ N:Nat,many=N:=⟨many.toNat,dB⟩;obtain⟨N,d8⟩:=J;subst d8;have f7:=ztN h8 N dB dB;have J:=Eu (N:=N) dB dB;obtain⟨i2,d9⟩:=J;have f8:=d9.Cu;rw[show(om 0 T0).length=1 from rfl]at f8;have i3:oO 0 T0=[]:=rfl;generalize HT=f9 at*;generalize T0=i4 at*;obtain⟨lo,e0⟩:=aa (w.heap.size);rw[e0]at f7 I;have n5:∀ W,nC lo [] w W->yE (EF W) W 4 p n R:=λW z=>ztK h (RA (Below.refl _ _) z dB)
    refine nU<|nJ<|ny<|ng<|nP f7 ?_
    rintro _ n6 ⟨q,hb,tb,V,rfl,A,c,y,n7,n8,i5⟩;replace I:=I.lq i5;refine ng<|mZ (nW rfl rfl)<|mZ (nW rfl rfl)<|mZ (nW rfl rfl)<|mZ (nW rfl rfl)<|nA<|nA<|nA<|nA<|nk<|nI<|ny<|ng<|mZ (sj rfl)<|nk<|EJ rfl (ig)<|nU<|nJ<|ny<|ng<|qA rfl (oz dA rfl) (DT hb A d9.ok c (.inr ig)) ?_;rintro _ i6 ⟨rfl,A,e1⟩;replace I:=I.lq e1;replace c:=c.nD e1.kp eu;replace y:=y.nD e1.kp eu;refine oG<|nA<|nk<|nI<|ny<|nA<|nk<|pE ?_;obtain⟨rm,g0⟩:=aa (uD N f9);rw[g0]at f8;rw[g0];have g1:Un N q hb tb lo V none [] [] i6:=⟨f9,i2,_,_,_,_,0,i4,[],[],d9,i3,A,c,y,nM.nil _ _ _,uw.nil,λg o e=>nomatch e⟩;refine qY (α:=Nat × Rw × Option Addr × Nat) (0,[],none,0) (λs=>[(1, .slice p n cp),(6,VA hb),(7,VA tb),(9,VB (rm:Nat)),(10, .slice s.2.2.1 s.2.1.length s.2.2.2),(11,VB (s.1:Nat))])
      (λs w'=>s.1<=n/\s.2.1.length<=s.1/\Un N q hb tb lo V s.2.2.1 s.2.1 s.2.1 w'/\nC lo [] w w') (λs=>n - s.1) VF ⟨aC _,ax _,g1,I⟩ ?_
    clear A c y I g1;rintro⟨i,rows,a9,e2⟩ f g2 ⟨i7,i8,⟨H,fl,rl,R',P,B,l,t,vs,O,E,G,A,c,y,C,D,F⟩,z⟩;dsimp only at i7 i8 G C D F |-;have g3:tN rows:=G▸E.tr.snd_.rise;refine nI<|ny<|ng<|ng<|mZ (oV (e:=32) (sz:=4) dA rfl rfl)<|mZ (pI rfl rfl)<|nk<|oZ rfl (λi9=>?_)<|λi9=>?_
    ·
     refine lN ?_;have J:=h.get (i:=i) dB;obtain⟨a,b0⟩:=J;have J:=h.some dB;obtain⟨j0,op,rfl,_⟩:=J;have J:=h.ldB (P:=Tryz.prog) (t:=32) dA dA b0;obtain⟨cs,⟨e3,j1,rfl,b1⟩,n9,j2⟩:=J;have g4:1<=a.b.length->∀ g o,e3=some ⟨g,o,none⟩->g<lo:=λg5 g o e=>by
       obtain⟨o0,o1,d1,j3⟩:=b1.some dB;rw[e]at d1;cases d1;rw[<-e0];exact j3
     have b2:∀ W,nC lo [] w W->VD w W:=λW z=>RA (Below.refl _ _) z dB
     have o2:=z.size;have g6:∀ L:List Nat,1<=a.b.length->∀ g o,e3=some ⟨g,o,none⟩->g<lo\/g∈L:=λL g5 g o e=>.inl (g4 g5 g o e)
     have g7:∀ m,lo<=m->∀ b,(λb=>b<lo) b->b<m:=λm h b hb=>ae hb h
     refine nO<|ng<|ng<|mZ (qZ (e:=32) (sz:=4) dA rfl rfl i dB dB)<|mZ (oK rfl ((j2 _ (b2 _ z)).1))<|nK<|oD ([VB 0,VC,VB 0,VB 0]) dA<|λg8 o3 d2 K b3=>?_
     have j4:hb<g8:=ae c.lt d2;have j5:tb<g8:=ae y.lt d2;replace z:=z.new b3;replace A:=A.nL b3 d2 K.lt;replace c:=c.new b3;replace y:=y.new b3;refine nT<|oC 4 ([VB a.kind, .slice e3 a.b.length j1,VB a.a1,VB a.a2]) K<|λo4 K b4=>?_
     replace z:=z.only b4 jo;replace A:=A.only b4 eG;replace c:=c.only b4 (ai j4);replace y:=y.only b4 (ai j5);have Z:=((nC.refl lo (O++[tb,hb]) g2).new b3).only b4 (.inl d2);replace C:=C.rQ Z λg o e=>.inr kK
     replace D:=D.nD Z.kp λb hb=>pG (.inl hb)
     refine nk<|wO (λT:Rw × Option Addr × Nat=>[(1, .slice (some ⟨j0,op,none⟩) n cp),(6,VA hb),(7,VA tb),(9,VB (rm:Nat)),(10, .slice T.2.1 T.1.length T.2.2),(11,VB (i:Nat))]) (λT w'=>T.1.length<=i+1/\Un N q hb tb lo V T.2.1 T.1 T.1 w'/\nC lo [] w w') ?_ ?_
     ·
      refine ny<|mZ (nG 0)<|mZ (nH K)<|nk<|pE<|ny<|mZ (qB rfl rfl)<|nA<|nk<|oZ rfl (λj6=>?_)<|λj6=>?_
      ·
       refine ny<|ng<|mZ (nG 1)<|mZ (nH K)<|mZ (nG 2)<|mZ (oK rfl (Ld.za (off:=2) (k:=2) K dA dA (ax 4)))<|qA rfl (oz dA rfl) (QS A (E.zx y (.inr ig) c (.inr ig)) E a.a1 a.a2 (b1.below (b2 _ z) (ax _)) (g6 _)) ?_
       rintro _ o5 ⟨e,H2,a0,a1,a2,rfl,a3,g9,b5,a4⟩;replace C:=C.rQ a4 (λg o e=>.inr kK);replace D:=D.nD a4.kp λb hb=>pG (.inl hb)
       replace z:=z.ll a4 jU;replace c:=c.nD a4.kp eu;replace y:=y.nD a4.kp eu;replace K:=K.kl a4;refine mZ (qB rfl rfl)<|nk<|oZ rfl (λe4=>?_)<|λe4=>?_
       ·
        have J:=g9.resolve_right λe5=>e5.1 e4
        obtain⟨_,j7,u,d8,d1,Q⟩:=J;have j8:=zvD rows (a.b,u);refine nO<|ng<|mZ (nG 1)<|mZ (nH K)<|mZ (nG 2)<|mZ (oK rfl (Ld.za (off:=2) (k:=2) K dA dA (ax 4)))<|qA rfl (oz dA rfl) (zvE u d8 d1 C D rfl dB (b1.below (b2 _ z) (ax _)) (g4 j7) (g7 _ b5.lo) g3) ?_;rintro _ o6 ⟨S,U,e6,rfl,b6,b7,d3⟩;have e7:=b5.Dc d3 (M:=(Value.slice S (uY rows (a.b,u)).length U).ownBlock.toList) λx b0=>b6.lt x (ah.1 b0)
        replace z:=z.new d3;replace c:=c.new d3;replace y:=y.new d3;refine nA<|oI<|pO ?_
        refine oM ⟨(uY rows (a.b,u),S,U),VF,by dsimp only;omega,⟨H2,a0,rl,R',P,B,a1,a2,e6,(Value.slice S (uY rows (a.b,u)).length U).ownBlock.toList,a3,by rw[Q,G],e7.weak (λb hb=>by
         rcases ay.1 hb with h|h
         .exact aF _ h
         .exact aB _ (aj _ (aB _ h))),c,y,b6.sl,b7,λg o e=>by subst e;simp[Value.ownBlock]⟩,z⟩
       ·
        refine nU<|pO ?_
        have Q:=(g9.resolve_left λe5=>e4 e5.1).2;refine oM ⟨(rows,a9,e2),VF,by dsimp only;omega,⟨H2,a0,rl,R',P,B,a1,a2,vs,O,a3,by rw[Q,G],b5.weak (λb hb=>aj _ hb),c,y,C,D,F⟩,z⟩
      ·
       refine ny<|mZ (qB rfl rfl)<|nA<|nk<|oZ rfl (λj9=>?_)<|λj9=>?_
       ·
        refine ny<|ng<|mZ (nG 1)<|mZ (nH K)<|qA rfl (oz dA rfl) (ztQ C D rfl dB (b1.below (b2 _ z) (ax _)) (g7 _ A.lo)) ?_
        rintro _ o7 ⟨S,U,e6,rfl,b6,b7,b8⟩;have e7:=A.Dc b8 (M:=(Value.slice S (rY rows a.b).length U).ownBlock.toList) λx b0=>b6.lt x (ah.1 b0)
        replace z:=z.new b8;replace c:=c.new b8;replace y:=y.new b8;replace K:=K.new b8;refine ng<|mZ (nW rfl rfl)<|mZ (nW rfl rfl)<|nA<|nA<|nk<|nI<|ny<|ng<|mZ (nG 1) ?_
        have e8:=b6.sl;have k7:∀ (L:List Nat) (g o:Nat),S=some ⟨g,o,none⟩->g<lo\/g∈(Value.slice S (rY rows a.b).length U).ownBlock.toList++L:=λL g o e=>.inr (by subst e;simp[Value.ownBlock])
        have j8:(rY rows a.b).length<=rows.length:=gG ..;refine mZ (nH K)<|qA rfl (oz dA rfl) (Cj e7 (E.zx y (.inr ig) c (.inr ig)) E (b1.below (b2 _ z) (ax _)) (g6 _)) ?_
        rintro _ o8 ⟨e,H2,a0,a1,a2,rfl,a3,d4,Q,k8,b9⟩;replace e8:=e8.rQ b9 (k7 _);replace b7:=b7.nD b9.kp λb hb=>pG (.inl hb)
        replace z:=z.ll b9 jU;replace c:=c.nD b9.kp eu;replace y:=y.nD b9.kp eu;rw[G]at d4 Q;have k9:decide ((e:Int)=0)=decide (∃ r∈rows,r.1=a.b):=decide_eq_decide.2 d4;refine mZ (qB rfl rfl)<|ng<|mZ (UL dA rfl rfl)<|nk<|Ee rfl ((by rw[k9]))<|nU<|nJ<|nO<|ng<|nA<|oI<|pO ?_
        refine oM ⟨(rY rows a.b,S,U),VF,by dsimp only;omega,⟨H2,a0,rl,R',P,B,a1,a2,e6,(Value.slice S (rY rows a.b).length U).ownBlock.toList,a3,Q,k8.weak (λb hb=>by
         rcases ay.1 hb with h|h
         .exact aF _ h
         .exact aB _ (aj _ (aB _ h))),c,y,e8,b7,λg o e=>by subst e;simp[Value.ownBlock]⟩,z⟩
       ·
        refine nU<|pO<|oM ⟨(rows,a9,e2),VF,by dsimp only;omega,⟨H,fl,rl,R',P,B,l,t,vs,O,E,G,A.weak (λb hb=>aj _ hb),c,y,C,D,F⟩,z⟩
     ·
      clear A c y C D E G F z K;rintro⟨l0,l1,c2⟩ o9 p0 ⟨h0,⟨H,fl,rl,R',P,B,l,t,vs,O,E,G,A,c,y,C,D,F⟩,z⟩;dsimp only at h0 G C D F |-;refine ny<|ng<|ng<|qA rfl (oz dA rfl) (ztL A (E.zx y (.inr ig) c (.inr ig)) E) ?_
      rintro _ p1 ⟨rfl,A,c4⟩;replace C:=C.rQ c4 (λg o e=>.inr kK);replace D:=D.nD c4.kp λb hb=>pG (.inl hb)
      replace z:=z.ll c4 jU;replace c:=c.nD c4.kp eu;replace y:=y.nD c4.kp eu;refine mZ (sj rfl)<|nk<|EJ rfl (ig)<|nU<|pO<|nJ<|nO<|ng<|mZ (oJ rfl rfl (show IntKind.i64.wrap ((i:Int)+1)=((i+1:Nat):Int) by rw[nV dB];omega))<|nA<|oI<|oM ⟨(i+1,l0,l1,c2),by dsimp only;omega,VF,by dsimp only;omega,h0,⟨H,fl,rl,R',P,B,l,t,vs,O,E,G,A,c,y,C,D,F⟩,z⟩
    ·
     have p2:rows.length<=100:=by omega
     have h1:∀ (L:List Nat) (g o:Nat),(none:Option Addr)=some ⟨g,o,none⟩->g<lo\/g∈L:=λ_ g o e=>nomatch e
     have l2:∀ g o,a9=some ⟨g,o,none⟩->g<lo\/g∈O++[tb,hb]:=λg o e=>.inr kK
     have l3:uw (λb=>b<lo\/b∈O++[tb,hb]) g2 vs rows:=D.mono λb hb=>.inl hb
     refine qL<|qK<|rq<|qO<|nJ<|nI<|ny<|ng<|ng<|qA rfl (oz dA rfl) (Jr (fr:=[]) (be:=[]) rows A (E.zx y (.inr ig) c (.inr ig)) E.tr.nd rfl rfl (nM.nil _ _ _) (h1 _) (nM.nil _ _ _) (h1 _) (by rw[znv,G]) C l3 rfl l2) ?_
     rintro _ p3 ⟨rfl,A,c5⟩;replace C:=C.rQ c5 (λg o e=>.inr kK);replace D:=D.nD c5.kp λb hb=>pG (.inl hb)
     replace z:=z.ll c5 jU;replace c:=c.nD c5.kp eu;replace y:=y.nD c5.kp eu;refine mZ (sj rfl)<|ng<|Ow 93 rfl (ig)<|nE<|ng<|nE<|qA rfl (oz dA rfl) (Mx A (E.zx y (.inr ig) c (.inr ig)) E.tr.nd) ?_
     rintro _ p4 ⟨rfl,A,c6⟩;replace C:=C.rQ c6 (λg o e=>.inr kK);replace D:=D.nD c6.kp λb hb=>pG (.inl hb)
     replace z:=z.ll c6 jU;replace c:=c.nD c6.kp eu;replace y:=y.nD c6.kp eu;refine nE<|ng<|nE<|mZ (oV (e:=70) (sz:=3) dA rfl rfl)<|nE ?_
     rw[G];refine mZ (pJ rfl rfl)<|mZ (oP rfl)<|nk<|qg rfl (ig)<|nU<|nJ<|nI<|ny<|nA<|nk<|pE ?_
     refine qY (α:=Nat) 0 (λj=>[(6,VA hb),(7,VA tb),(9,VB (rm:Nat)),(10, .slice a9 rows.length e2),(15,VB (j:Nat))])
       (λj w'=>j<=rows.length/\Un N q hb tb lo V a9 (rows.drop j) rows w'/\nC lo [] w w') (λj=>rows.length - j) VF ⟨aC _,⟨H,fl,rl,R',P,B,l,t,vs,O,E,G,A,c,y,C,D,F⟩,z⟩ ?_
     clear A c y C D E G F z;rintro j p5 p6 ⟨p7,⟨H,fl,rl,R',P,B,l,t,vs,O,E,G,A,c,y,C,D,F⟩,z⟩;refine nI<|ny<|ng<|ng<|mZ (oV (e:=70) (sz:=3) dA rfl rfl)<|mZ (pI rfl rfl)<|nk<|oZ rfl (λl4=>?_)<|λl4=>?_
     ·
      refine lN ?_;have J:∃ r,rows[j]?=some r:=⟨_,aG dB⟩;obtain⟨r,d5⟩:=J;have J:=D.ld C rfl d5;obtain⟨h2,d6,h3,p8,rfl,h4,X,e9,_⟩:=J;have l5:=JQ (D.at_ j _ d5).choose_spec.choose_spec.1;have p9:=D.len;have h5:r∈oO l t:=by rw[G];exact aO (i:=0) (by rw[bC];exact d5)
      have h6:∀ (L:List Nat) (g o:Nat),h3=some ⟨g,o,none⟩->g<lo\/g∈L:=λL g o e=>.inl (e9 g o e)
      have l6:∀ (L:List Nat),1<=r.1.length->∀ (g o:Nat),h3=some ⟨g,o,none⟩->g<lo\/g∈L:=λL _ g o e=>.inl (e9 g o e)
      have l7:∀ W,nM W (some ⟨h2,d6,none⟩) rows.length 3 vs->Ld Tryz.prog W 30 ⟨h2,d6+(j*3+1),none⟩ (.agg #[VB (r.2.1:Int),VB (r.2.2:Int)]):=λW l8=>by
        have:=Ld.zu (P:=Tryz.prog) (t:=30) (j:=j*3+1) (k:=2) l8 dA dA dB;rw[l5]at this;exact this
      refine nO<|ng<|ng<|ng<|mZ (qZ (e:=70) (sz:=3) dA rfl rfl j dB dB)<|mZ (nG 0)<|mZ (oK rfl (Ld.sl1 (off:=d6) (j:=j*3) C dA h4))<|qA rfl (oz dA rfl) (Ph A (E.zx y (.inr ig) c (.inr ig)) X (h6 _) h5) ?_
      rintro _ q0 ⟨rfl,A,a5⟩;replace C:=C.rQ a5 (λg o e=>.inr kK);replace D:=D.nD a5.kp λb hb=>pG (.inl hb)
      replace X:=X.rQ a5 (λg o e=>.inl (e9 g o e));replace z:=z.ll a5 jU;replace c:=c.nD a5.kp eu;replace y:=y.nD a5.kp eu;refine ng<|mZ (nW rfl rfl)<|mZ (nW rfl rfl)<|nK<|oD ([VB 0,VB 0]) dA<|λf0 q1 d7 a6 c7=>?_
      have l9:hb<f0:=ae c.lt d7;have m0:tb<f0:=ae y.lt d7;replace z:=z.new c7;replace A:=A.nL c7 d7 a6.lt;replace c:=c.new c7;replace y:=y.new c7;refine nT<|oC 2 ([VB (r.2.1:Int),VB (r.2.2:Int)]) a6<|λq2 a6 c8=>?_
      replace z:=z.only c8 jo;replace A:=A.only c8 eG;replace c:=c.only c8 (ai l9);replace y:=y.only c8 (ai m0);have Z:=((nC.refl lo (O++[tb,hb]) _).new c7).only c8 (.inl d7);replace C:=C.rQ Z λg o e=>.inr kK
      replace D:=D.nD Z.kp λb hb=>pG (.inl hb)
      replace X:=X.rQ Z (h6 _);refine nA<|nk<|nI<|vX (lo) ((f0::(O++[tb,hb]))) dA ?_
      intro q3 Y m1 m2;replace z:=z.new Y;replace A:=A.new Y;replace c:=c.new Y;replace y:=y.new Y;replace a6:=a6.new Y;have m3:=a6;replace C:=C.new Y;replace D:=D.new Y;replace X:=X.new Y;refine nu 0 (nS)<|nu 1 (pJ rfl rfl)<|nu 2 (nS)<|Ap 118 rfl (ig)<|nR 3 (λw' c9=>oK rfl (Ld.qI (k:=2) (m3.kL c9) dA dA rfl))<|nu 4 (nS)<|nu 5 (nS)<|nu 6 (qZ (e:=70) (sz:=3) dA rfl rfl (j) dB dB)<|nu 7 (nG 1)<|nR 8 (λw' c9=>oK rfl (l7 _ (C.nD c9 λg o e=>pG (.inr kK))))<|nu 9 (VH (k0:=.i64) (k1:=.i64) dA rfl rfl)<|nu 10 (oP rfl)<|nu 11 (nS)<|TM 127 rfl (ig)<|nu 12 (nS)<|nu 13 (nS)<|nu 14 (nS)<|nu 15 (qZ (e:=70) (sz:=3) dA rfl rfl (j) dB dB)<|nu 16 (nG 0)<|nR 17 (λw' c9=>oK rfl (Ld.sl1 (off:=d6) (j:=j*3) (C.nD c9 λg o e=>pG (.inr kK)) dA h4))<|oh 18 dA<|qw rfl rfl (oz dA rfl) (Cj A (E.zx y (.inr ig) c (.inr ig)) E X (l6 _)) ?_
      rintro _ q4 ⟨e,H2,a0,a1,a2,rfl,a3,d4,Q,b5,a7⟩;replace C:=C.rQ a7 (λg o e=>.inr kK);replace D:=D.nD a7.kp λb hb=>pG (.inl hb)
      have m4:=m2.vv m1 a7.wk;refine⟨m4,?_⟩;replace z:=z.ll a7 jU;replace c:=c.nD a7.kp eu;replace y:=y.nD a7.kp eu;have m5:e=0:=d4.2 ⟨r,h5,rfl⟩;subst m5;refine nu 19 (pJ rfl rfl)<|nu 20 (oP rfl)<|pq dA<|nJ<|qg rfl (ig)<|nU<|pO<|nJ<|nO<|ng<|mZ (oJ rfl rfl (show IntKind.i64.wrap ((j:Int)+1)=((j+1:Nat):Int) by rw[nV dB];omega))<|nA<|oI ?_
      rw[G,zvC g3 d5]at Q;refine oM ⟨j+1,dB,VF,dB,⟨H2,a0,rl,R',P,B,a1,a2,vs,O,a3,Q,b5.weak (λb hb=>aj _ hb),c,y,C,D,F⟩,z⟩
     ·
      have m6:j=rows.length:=by omega
      rw[m6,jG]at G;obtain rfl:=E.flat G;have m7:=E.Cu;rw[show(om 0 t).length=1 from rfl]at m7;refine qL<|qK<|rq<|qO<|nJ<|ny<|ng<|qA rfl (oz dA rfl) (Mx A (E.zx y (.inr ig) c (.inr ig)) E.tr.nd) ?_
      rintro _ q5 ⟨rfl,A,f1⟩;replace z:=z.ll f1 jU;replace c:=c.nD f1.kp eu;replace y:=y.nD f1.kp eu;refine mZ (qB rfl rfl)<|ng<|zT 140 rfl ((by rw[G];rfl))<|nE<|ng<|nE<|qA rfl (oz dA rfl) (h_ A (E.zx y (.inr ig) c (.inr ig))) ?_;rintro _ q6 ⟨rfl,A,f2⟩;replace z:=z.ll f2 jU;replace c:=c.nD f2.kp eu;replace y:=y.nD f2.kp eu;refine nE<|mZ (qB rfl rfl)<|mZ (pK rfl)<|ng<|zT 145 rfl (ig)<|nE<|ng<|nE<|qA rfl (oz dA rfl) (DT hb A E.ok c (.inr ig)) ?_;rintro _ q7 ⟨rfl,A,f3⟩;replace z:=z.ll f3 jU;replace c:=c.nD f3.kp eu;replace y:=y.nD f3.kp eu;refine nE<|ng<|nE<|mZ (qB rfl rfl)<|mZ (pK rfl)<|ng<|zT 151 rfl (dB)<|nE<|ng<|nE<|ng<|nE<|qA rfl (oz dA rfl) (ztL A (E.zx y (.inr ig) c (.inr ig)) E) ?_;rintro _ m8 ⟨rfl,A,m9⟩;replace z:=z.ll m9 jU;refine mZ (pK rfl)<|ng<|Ng 156 rfl (ig)<|nE<|nP (d0 m8) ?_;rintro _ q8 ⟨rfl,n0⟩;replace z:=z.new n0;refine mZ (pK rfl)<|nA<|nk<|nY<|ou [_] ⟨rfl,trivial⟩ ?_;exact⟨rfl,by rw[e0];exact z⟩
end Go.Proofs.YtpaniebomegnbaaGreat
