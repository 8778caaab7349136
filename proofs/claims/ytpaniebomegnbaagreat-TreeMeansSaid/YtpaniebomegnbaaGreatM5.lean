import Derived.Test.YtpaniebomegnbaaGreatM4
import Derived.Lib.SlBytesConst
import Derived.RecoverIn
set_option maxHeartbeats 8000000
set_option maxRecDepth 20000
namespace Go.Proofs.YtpaniebomegnbaaGreat
open Go Go.RowKit Coup
def Nl(e:Int):Value:=.tuple #[.pointer none,VB e]
theorem zuM{l:Nat}{n:Int}(h:4<=vN l n):4<=n/\n<=4000/\1+n.toNat+16<=l:=by
 unfold vN at h
 split at h
 .omega
 .omega
section
variable {Y:VE}[nz Y]{g x q mc md lo:Nat}{rv cv:Value}{L:List Nat}{P:Pl}{D:Dk}{w w':World}
omit [nz Y] in
theorem pu.left{Z:VE}(h:pu g x q mc md rv cv (zX Y Z) lo L P w):pu g x q mc md rv cv Y lo L P w:=
 ⟨⟨Vy h.lg.two,h.lg.rowx,h.lg.ge,h.lg.ni⟩,h.row,h.mch,h.mdi,h.own,h.qm,h.qd,h.md',h.cq,h.ql,h.mcl,h.mdl⟩
omit [nz Y] in
theorem FO{X:VE}{p:Option Addr}{S:List Rec}(h:Two X (zX Y (Bh p S)) lo L w):∃ vs,nM w p S.length 1 vs/\(0<S.length->∀ b o,p=some ⟨b,o,none⟩->b∉L)/\∀ (i:Nat) r,S[i]?=some r->∃ b off c,vs[i]?=some (.slice (some ⟨b,off,none⟩) r.length c)/\nM w (some ⟨b,off,none⟩) r.length 513 (qp r)/\b∉L:=by
 obtain⟨⟨B,_,q,⟨C1,C2,rfl,s,⟨t,vs,f,g,j⟩⟩,u,a⟩,y,z⟩:=h;refine⟨vs,f,λk b o e=>(a b (aB _ (g k b o e))).2,λi r hr=>?_⟩;obtain⟨b,off,c,l,m,p⟩:=j i r hr;exact⟨b,off,c,l,m,(a b (aB _ p)).2⟩
theorem Nv(h:Two (DZ g D) Y lo L w)(n fr:Nat)(hc:¬vN D.V.length n<4)(hf:2<=fr/\fr<=100)(he:AL D n=0)(hsh:tJ D 60000)(hok:xI D (sK (qa D 0)+1) (ug (qa D 0))=true):
   CQ 65 [VA g,VB (n:Int),VB (fr:Int)] w (λv w'=>(((Ez D n fr).1≠0/\v=Nl (Ez D n fr).1/\Two (DZ g (Ez D n fr).2.D) Y lo L w')\/
     ((Ez D n fr).1=0/\∃ x q mc md cv,v= .tuple #[VA q,VB 0]/\pu g x q mc md cv cv Y lo L (Ez D n fr).2 w'))/\nC lo L w w'):=by
 have a:=nC.refl lo L w;have k9:maxLen=9223372036854775807:=by decide
 have l0:=zuM (bW.1 hc);have b8:=QB h (n:Int) ⟨dB,dB⟩;rw[if_neg hc]at b8;have a7:=(zz h).1;have d6:=zss a7 he (bW.1 hc) hf.1 hf.2;have V:=zkL (G:=yf D n) a7 (by rw[yf,aW];dsimp only;omega);have d7:tJ (wG D n fr).D 70000:=by
   show tJ (uz _ _ _) 70000;unfold xI at hok;rw[aN]at hok;unfold uz;rw[if_pos hok.1];exact yD (Zr hok.2) dB
 have X:=YH D n fr;have d8:(wG D n fr).D.V.length=D.V.length:=Ud _ _ _;obtain⟨S,O⟩:=aa (xD D (yf D n));have d9:=(Ii h n he (yD hsh dB)).to λv w' ⟨ok,D2,C,s,S2,b9,e0,e1,e2,e3,k,e4⟩=>(show ∃ x p c,v=Value.tuple #[VA x,Value.slice p S.length c,VB 0]/\S.length<=c/\rX g x (zX Y (Bh p S)) lo L (wG D n fr).D (wG D n fr).G w'/\nC lo L w w' from by
   subst e1 e2;rw[hok]at b9;subst b9;have e5:S2=S:=by rw[<-e3,O]
   subst e5;rcases e4 with⟨P,_⟩|⟨_,x,p,c,P,e6,e7⟩
   · cases P
   · refine⟨x,p,c,P,e6,?_,k⟩
     have e8:(wG D n fr).D=D2:=by rw[<-e0];rfl
     have e9:(wG D n fr).G=⟨sK (qa D 0)+1,ug (qa D 0),n,S2.length,xu S2,false⟩:=by unfold wG;dsimp only;rw[O]
     rw[e8,e9];exact e7)
 obtain⟨N,a8⟩:=aa (vN D.V.length n);have f0:(wG D n fr).di=zF N S:=by unfold wG;dsimp only;rw[O,a8]
 have Q:Ez D n fr=if S.length=0 then(0,wG D n fr)else NM (wG D n fr):=by unfold Ez;rw[O]
 have f1:(wG D n fr).fr=fr/\(wG D n fr).ch=xJ/\(wG D n fr).cl=[]/\(wG D n fr).dead=false/\(wG D n fr).G.size=n:=VF;rw[a8]at X;rw[O]at V;have l1:S.length<=4000:=by
   have z:=V.1;have P:=V.2.1;rw[show(yf D n).size=n by rw[yf,aW]]at z;omega
 obtain⟨Z,f2⟩:=aa (Ez D n fr);rw[f2]at Q |-;generalize wG D n fr=P0 at*;obtain⟨f3,f4,f5,c4,f6⟩:=f1;have l2:N<=2048:=by
   have z:=a7.n;have P:=zsk D.V.length n;omega
 have f7:∀ c x q mc md p L' w',pu g x q mc md (VC) (VC) (zX Y (Bh p S)) lo L' {P0 with di:=c} w'->CQ 124 [VA g,VB (n:Int)] w' (λv f8=>v=VB (N:Int)/\w'=f8):=λc x q mc md p L' w' f9=>by
   have z:=countP f9.lg.fst (n:Int) ⟨dB,dB⟩;dsimp only at z;rw[d8,a8]at z;exact z
 have l3:=h.lo;have a9:=h.lt;refine nZ (rs:=[.tmp 6, .tmp 7]) (n:=85) Tryz.func65 rfl rfl Tryz.ntmps65 dA rfl<|ny<|nA<|nA<|nk<|nI<|ny<|ng<|ng<|nP (b8) ?_
 rintro _ _ ⟨rfl,rfl⟩;refine oG<|ng<|mZ (pJ rfl rfl)<|nk<|qg rfl (ig)<|nU<|nJ<|nI<|ny<|ng<|mZ (pI rfl rfl)<|ng<|uy 26 rfl (dB)<|nE<|ng<|nE<|mZ (rz rfl rfl)<|mZ (oP rfl)<|nk<|qg rfl (dB)<|nU<|nJ<|ny<|ng<|ng<|nP (d9) ?_;rintro _ l4 ⟨x,p,a0,rfl,l5,F,g0⟩;replace a:=a.lq g0;refine ng<|mZ (nW rfl rfl)<|mZ (nW rfl rfl)<|mZ (nW rfl rfl)<|nA<|nA<|nA<|nk<|nI<|ny<|ng<|mZ (pJ rfl rfl)<|nk<|qg rfl (ig)<|nU<|nJ<|ny<|ng<|ng<|ng<|ng ?_;have l6:=a.size;refine nK<|QA (k:=3) N<|λA l7 g1 I c5=>?_
 replace F:=F.nL c5 g1 I.lt;have l8:=I.lt;replace a:=a.new c5;refine nK<|QA (k:=3) N<|λt l9 g2 R a1=>?_
 replace F:=F.nL a1 g2 R.lt;have m0:=R.lt;have m1:=a1.size;replace a:=a.new a1;replace I:=I.new a1;refine mZ (zsj (VA g) (VA x) (VB (n:Int)) (VB (fr:Int)) (.map (some A)) (.map (some t)) [VA g,VA x,VB (n:Int),VB (fr:Int), .map (some A), .map (some t),VC, .bool false] rfl rfl rfl rfl rfl rfl dA)<|nK<|qi ([VA g,VA x,VB (n:Int),VB (fr:Int), .map (some A), .map (some t),VC, .bool false]) rfl<|λJ H g3 c6 a2=>?_
 replace a:=a.new a2;replace I:=I.new a2;replace F:=F.nL a2 g3 c6.lt;replace R:=R.new a2;refine nA<|nk<|nI<|ny<|ng<|mZ (oV (e:=159) (sz:=1) dA rfl rfl)<|ng<|nk<|pE ?_
 have c7:∀ c,({P0 with di:=c}:Pl).n=N:=λ_=>X
 have g4:row H J (uh g x P0.G.size P0.fr A t (VC) P0.dead) 162:=by rw[uh,f3,c4,f6];exact c6
 have g5:MapAt Tryz.prog 3 H A ({P0 with di:=zF N (S.take 0)}:Pl).n (rM P0.ch):=by rw[c7,f4];exact I
 have g6:MapAt Tryz.prog 3 H t ({P0 with di:=zF N (S.take 0)}:Pl).n (rM (zF N (S.take 0))):=by rw[c7];exact R
 have g7:og H 0 164 513 (VC) P0.cl.length (qp P0.cl):=by rw[f5];exact xV _ _ _ _
 have l:pu g x J A t (VC) (VC) (zX Y (Bh p S)) lo L {P0 with di:=zF N (S.take 0)} H:=
   ⟨F.weak (λb hb=>by
     simp only[Value.ownBlock,Option.toList_none,aU,ak]at hb |-;rcases hb with hb|hb|hb|hb
     · exact .inl hb
     · exact .inr<|.inr<|.inl hb
     · exact .inr<|.inl hb
     · exact .inr (.inr (.inr hb))),g4,g5,g6,g7,dB,dB,dB,(λb hb=>nomatch hb),⟨dB,λu=>by have:=a9 _ u;omega⟩,⟨dB,λu=>by have:=a9 _ u;omega⟩,⟨dB,λu=>by have:=a9 _ u;omega⟩⟩
 have g8:=FO l.lg.two;obtain⟨vs,c8,g9,h0⟩:=g8;have m:=tC.refl [t] H;clear F;refine qY (α:=Nat) 0 (λi=>[(50,VB (i:Nat)),(49,VB (S.length:Int)),(48, .slice p S.length a0),(10, .slice p S.length a0),(12,VA J),(0,VA g),(1,VB (n:Int))])
   (λi w'=>i<=S.length/\pu g x J A t (VC) (VC) (zX Y (Bh p S)) lo L {P0 with di:=zF N (S.take i)} w'/\tC [t] H w'/\nC lo L w w') (λi=>S.length - i)
   VF ⟨aC _,l,m,a⟩ ?_
 clear l m a;rintro i f h1 ⟨m2,l,m,a⟩;refine ny<|mZ (pI rfl rfl)<|nk<|nI<|oZ rfl (λh2=>?_)<|λh2=>?_
 ·
  refine lN ?_;have b0:∃ r,S[i]?=some r:=⟨_,aG dB⟩;obtain⟨r,hr⟩:=b0;have a3:=V.2.2 r (aO hr);have h3:=h0 i r hr;obtain⟨c9,ob,h4,h5,h6,h7⟩:=h3;have h8:=c8.some dB;obtain⟨T,op,h9,m3⟩:=h8;subst h9;have i0:T∉[t]:=λu=>g9 dB T op rfl (by rw[aJ.1 u];simp)
  have i1:c9∉[t]:=λu=>h7 (by rw[aJ.1 u];simp)
  have d0:=c8.nD m.k (λb o e=>by cases e;exact i0);have i2:=zoj hr N;have m4:=a3.l60;refine nO<|mZ (uX (e:=159) dA rfl rfl (i) dB dB)<|mZ (oK rfl (Ld.sl1 d0 dA h5))<|oG<|ng<|mZ (oV (e:=164) (sz:=513) dA rfl rfl)<|ng<|nk<|pE ?_
  refine qY (α:=Nat) 0 (λk=>[(56,VB (k:Nat)),(55,VB (r.length:Int)),(54, .slice (some ⟨c9,ob,none⟩) r.length h4),(50,VB (i:Nat)),(49,VB (S.length:Int)),(48, .slice (some ⟨T,op,none⟩) S.length a0),(10, .slice (some ⟨T,op,none⟩) S.length a0),(12,VA J),(0,VA g),(1,VB (n:Int))])
    (λk w'=>k<=r.length/\pu g x J A t (VC) (VC) (zX Y (Bh (some ⟨T,op,none⟩) S)) lo L {P0 with di:=Bo N (zF N (S.take i)) (r.take k)} w'/\tC [t] H w'/\nC lo L w w') (λk=>r.length - k)
    VF ⟨aC _,l,m,a⟩ ?_
  clear l m a d0;rintro k m5 w2 ⟨m6,l,m,a⟩;refine ny<|mZ (pI rfl rfl)<|nk<|nI<|oZ rfl (λi3=>?_)<|λi3=>?_
  ·
   refine lN ?_;have b0:∃ y,r[k]?=some y:=⟨_,aG dB⟩;obtain⟨y,b1⟩:=b0;have d1:=aO b1;have d2:=a3.ok y d1;have m7:=a3.num y d1;have m8:(rV y).length=513:=BG d2;have m9:=EC y;have i4:=h6.nD m.k (λb o e=>by cases e;exact i1);have U:=zqM b1 N (zF N (S.take i));have n0:=m.k.size;have n1:=a.size;refine nO<|mZ (qZ (e:=164) (sz:=513) dA rfl rfl k dB dB)<|mZ (oK rfl (NP i4 a3.ok b1))<|nK<|oD (([VB 0])++(List.replicate 512 (Value.int .u8 0))) dA<|λi5 n2 d3 B b2=>?_
   replace a:=a.new b2;replace l:=l.nL b2 d3 B.lt;replace m:=m.new b2;refine nT<|oC 513 (rV y) B<|λn3 B b3=>?_
   replace a:=a.oq b3;replace l:=l.only b3 eG;replace m:=m.only b3 iB;refine nk<|nI<|qH [] dA ?_
   intro i6 a4 n4;replace a:=a.new a4;replace l:=l.new a4;replace m:=m.new a4;replace B:=B.new a4;have i7:=l;have i8:=B;refine nu 0 (nG 0)<|nR 1 (λw' E=>nH (i8.kq E))<|nu 2 (nS)<|nu 3 (nS)<|zh 4 dA rfl (λ_=>oz dA rfl) (λw' E=>f7 _ _ _ _ _ _ _ w' (i7.nD E (by first |(simp;done)|(simp;omega)|(simp[*];done)|exact pG (Or.inl dB)|exact pG (Or.inr ig)|exact λg u=>ag dB (wh u).1|(intro b o e;cases e;exact pG (Or.inl dB))|(intro b u;have:=(hu.lt b (ah.1 u)).1;omega)|(intro b o e;cases e;intro u;have:=(hu.lt _ (ah.1 u)).1;omega)|assumption)))<|nu 5 (pI rfl rfl)<|pq dA<|nJ<|oZ rfl (λb4=>?_)<|λb4=>?_
   ·
    have b5:y.num<(N:Int):=b4;rw[if_pos b5]at U;have i9:∃ j:Nat,y.num=j/\j<N:=⟨y.num.toNat,dB,dB⟩;obtain⟨j,n5,n6⟩:=i9;have j0:y.num.toNat=j:=by omega
    rw[j0]at U;have a5:=l.row;unfold uh at a5;have K:MapAt Tryz.prog 3 i6 t N (rM (Bo N (zF N (S.take i)) (r.take k))):=by
      have z:=l.mdi;have e:({P0 with di:=Bo N (zF N (S.take i)) (r.take k)}:Pl).n=N:=X;rw[e]at z;exact z
    have d3:i5≠t:=λe=>l.mdl.2 kz
    have n7:=l.qd;have j1:=l.mdl;obtain⟨n8,j2⟩:=j1;have n9:t∉L:=λu=>j2 (aj _ u)
    refine qH [t] dA ?_;intro o0 M j3;replace a:=a.new M;replace l:=l.new M;replace m:=m.new M;replace B:=B.new M;replace a5:=a5.new M;replace K:=K.new M;have d4:=B;have j4:=a5;refine nu 0 (nS)<|nu 1 (oo rfl)<|nu 2 (nG 5)<|nR 3 (λw' E=>nH (j4.kq E))<|nu 4 (nG 0)<|nR 5 (λw' E=>nH (d4.kq E))<|nu 6 (nG 1)<|nR 7 (λw' E=>oK rfl (CZ (d4.kq E) d2))<|oh 8 dA<|rA rfl rfl<|Kt (k:=3) (e:=121) (.agg (bv y.page).toArray) dA dA K rfl rfl rfl j ky dB dB<|λj5 K a6=>?_
    have j6:=j3.aq a6;refine⟨j6,?_⟩;replace a:=a.oq a6;replace m:=m.only a6 iB;rw[RI,<-U]at K;have j7:MapAt Tryz.prog 3 j5 t P0.n (rM (Bo N (zF N (S.take i)) (r.take (k+1)))):=by rw[X];exact K
    have j8:=l.CK j7 a6;refine pq dA<|pO<|nJ<|nO<|mZ (oJ rfl rfl (Coup.nV dB))<|ng<|oI<|oM ⟨k+1,dB,⟨by go_num,rfl,rfl,rfl,rfl,rfl,rfl,rfl,rfl,rfl,rfl⟩,dB,j8.weak (λb hb=>aj _ hb),m,a⟩
   ·
    have b5:¬y.num<(N:Int):=b4;rw[if_neg b5]at U;refine nU<|pO<|nJ<|nO<|mZ (oJ rfl rfl (Coup.nV dB))<|ng<|oI<|oM ⟨k+1,dB,⟨by go_num,rfl,rfl,rfl,rfl,rfl,rfl,rfl,rfl,rfl,rfl⟩,dB,by rw[U];exact l.weak (λb hb=>aj _ hb),m,a⟩
  ·
   have j9:k=r.length:=by omega
   subst j9;rw[dF]at l;rw[<-i2]at l;refine qL<|qK<|rq<|qO<|pO<|nJ<|nO<|mZ (oJ rfl rfl (Coup.nV dB))<|ng<|oI<|oM ⟨i+1,dB,⟨by go_num,rfl,rfl,rfl,rfl,rfl,rfl,rfl⟩,dB,l,m,a⟩
 ·
  have k0:i=S.length:=by omega
  subst k0;rw[dF,<-f0]at l;replace l:pu g x J A t (VC) (VC) (zX Y (Bh p S)) lo L P0 h1:=l;have d5:=MG l d6 c4 d7;refine qL<|qK<|rq<|qO<|nJ<|nI<|ny<|ng<|mZ (oV (e:=159) (sz:=1) dA rfl rfl)<|mZ (rz rfl rfl)<|nk<|oZ rfl (λk7=>?_)<|λk7=>?_
  ·
   refine nI ?_;rw[if_neg dB]at Q;rw[<-Q]at d5;refine nO<|ng<|nP d5 ?_
   rintro _ o1 ⟨rfl,l,k8⟩;replace a:=a.lq k8;refine oG<|ng<|mZ (pJ rfl rfl)<|nk<|oZ rfl (λb6=>?_)<|λb6=>?_
   ·
    refine ny<|ng<|nA<|nA<|nk<|nY<|qy<|ou [_,_] ⟨rfl,rfl,trivial⟩ ?_
    have b7:Z.1≠0:=b6;refine⟨.inl ⟨b7,rfl,?_⟩,a⟩;exact(Vy l.lg.fst).weak λb hb=>by simp[hb]
   ·
    have b7:Z.1=0:=by simpa using b6
    refine nU<|nJ<|ny<|ng<|nA<|nA<|nk<|nY<|ou [_,_] ⟨rfl,rfl,trivial⟩ ?_
    exact⟨.inr ⟨b7,_,_,_,_,_,rfl,l.left⟩,a⟩
  ·
   rw[if_pos dB]at Q;subst Q;refine nU<|nJ<|ny<|ng<|nA<|nA<|nk<|nY<|ou [_,_] ⟨rfl,rfl,trivial⟩ ?_
   exact⟨.inr ⟨rfl,_,_,_,_,_,rfl,l.left⟩,a⟩
end
end Go.Proofs.YtpaniebomegnbaaGreat
namespace Coup
open Go Go.RowKit
section
variable {P:Program}{ρ:Env}{w:World}{d:Option Nat}{ty:TypeId}{pos:String}{af:Array Edge}{gd:Option (Nat × Bool)}
end
end Coup
namespace Go.Proofs.YtpaniebomegnbaaGreat
open Go Go.RowKit Coup
end Go.Proofs.YtpaniebomegnbaaGreat
namespace Coup
open Go Go.RowKit
section
variable {P:Program}{ρ:Env}{w:World}{d:Option Nat}{ty:TypeId}{pos:String}{af:Array Edge}{gd:Option (Nat × Bool)}{K:Value->World->Prop}
theorem zqO{g tt k:Nat}{cs:List Value}(hr:row w g cs tt):(w.freeze ⟨g,k,none⟩ 1).heap[g]?=some (.cells cs.toArray tt (k,k+1))/\Only g w (w.freeze ⟨g,k,none⟩ 1):=by
 have a:w.heap[g]?=some (.cells cs.toArray tt):=hr;refine⟨?_,?_⟩
 .unfold World.freeze
  rw[if_neg iT];simp[ja,a]
 .unfold World.freeze
  rw[if_neg iT];refine⟨rfl,rfl,rfl,ig,λj c=>?_⟩;simp[ja,bT c]
theorem Gx {t e g n c tt:Nat} {x:Operand} {cs:List Value} (ht:P.underlying t=some (.slice e)) (he:P.underlying e=some (.int .u8)) (hx:ev ρ x= .slice (some ⟨g,0,none⟩) n c) (hr:row w g cs tt) (hn:cs.length=n) (hm:n<=maxLen)
  (h:∀ w',nM w' (some ⟨g,0,none⟩) n 1 cs->Only g w w'->K (.slice (some ⟨g,0,none⟩) n c) w'):Mk P ρ w ⟨d, .convert t t x,ty,pos,af,gd⟩ K:=by
 have e:w.heap[g]?=some (.cells cs.toArray tt):=hr;have f:w.shape? g=some (tt,cs.length):=by unfold World.shape?;rw[e];simp
 obtain⟨a,i⟩:=zqO (k:=cs.length) hr;have l:(convert t t (.slice (some ⟨g,0,none⟩) n c)).run P w= .ok (.slice (some ⟨g,0,none⟩) n c) (w.freeze ⟨g,cs.length,none⟩ 1):=by
  simp[convert,run_underlying ht,run_underlying he,markStringish,f]
 refine⟨_,_,?_,h _ ⟨by rw[hn,dD],hm,λm=>⟨g,0,rfl,?_,λj o=>?_⟩⟩ i⟩
 .simp only[execOp,hx,Sem.run_bind,l,Result.andThen_ok];rfl
 .exact(aX.1 a).1
 .unfold World.cell?
  rw[a];simp
theorem zqP {t t' e sz bytes:Nat} {s x:Operand} {m k c cap g0 o0:Nat} {xs news:List Value} {sp:Option Addr} {z:Value} (ht:P.underlying t=some (.slice e)) (ht':t'=t)
  (hi:(P.info? e).map (λi=>(i.zero,i.size,i.bytes))=some (some z,sz,bytes)) (hzs:z.cells.size=sz) (hsz:0<sz) (hs:ev ρ s= .slice (some ⟨g0,o0,none⟩) m cap) (hold:nM w (some ⟨g0,o0,none⟩) m sz xs)
  (hx:ev ρ x= .slice sp k c) (hsrc:nM w sp k sz news) (hcap:cap<m+k) (hk:0<k) (h63:m+k<=maxLen) (hbytes:(m+k)*bytes<=140737488355328)
  (h:∀ v' w',og w' w.heap.size e sz v' (m+k) (xs++news)->VD w w'->K v' w'):Mk P ρ w ⟨d, .call ⟨.builtin .append,#[s,x],#[t,t']⟩,ty,pos,af,gd⟩ K:=by
 subst ht';obtain⟨i,l,g⟩:=df.1 hi;simp only[fZ]at g;obtain⟨o,p,q⟩:=g;obtain⟨r,s,rfl,_⟩:=hsrc.some (eT hk hsz);obtain⟨v',w',hr,t,a⟩:=run_append_arg_grows (P:=P) (w:=w) t' ty e i z sz bytes ht l o p q hzs hsz ⟨g0,o0,none⟩ m cap xs hold.len (λj u f=>by rw[Addr.add_lit];exact hold.cell j f) ⟨r,s,none⟩ k c news hsrc.len
  (λj u f=>by rw[Addr.add_lit];exact hsrc.cell j f) hcap h63 hbytes
 refine⟨_,w',?_,h v' w' (Sb t) ⟨a.os,a.tape,a.output,a.size,λk hk=>a.block k hk ig⟩⟩;simp[execOp,resolve,invoke,builtin,hs,hx,hr,Result.andThen]
end
end Coup
namespace Go.Proofs.YtpaniebomegnbaaGreat
open Go Go.RowKit Coup
theorem Dj{D:Dk}{k:Nat}(h:tL D k)(a:Nat)(s:qz){j:Nat}(hj:j<D.V.length):qa (uC D (a:Int) s) j=if a=j then s else qa D j:=by
 have c:=(h.uC (a:Int) s).2.2 j hj;unfold qa;rw[c]
 by_cases e:a=j
 .rw[if_pos dB,if_pos e];simp[Ad]
 .rw[if_neg dB,if_neg e]
theorem Qk:∀ (R:List qz) {D:Dk} {k:Nat} (a:Nat),tL D k->(qQ D a R).2=true/\tL (qQ D a R).1 (k+R.length)/\
  ∀ j,j<D.V.length->qa (qQ D a R).1 j=if a<=j/\j<a+R.length then R.getD (j - a) sG else qa D j
 |[],D,k,a,h=>⟨rfl,h,λj c=>by rw[if_neg (by rw[aY];omega)];rfl⟩
 |s::R,D,k,a,h=>by
  obtain⟨e,o⟩:=Ia h.left h.dead;obtain⟨f,g,_⟩:=h.uC (a:Int) s;obtain⟨i,l,m⟩:=Qk R (a+1) f;rw[qQ,if_pos e];refine⟨i,by rw[aD,show k+(R.length+1)=k+1+R.length by omega];exact l,λj c=>?_⟩;rw[m j (by rw[g];exact c),Dj h a s c,aD]
  by_cases c1:a+1<=j/\j<a+1+R.length
  .rw[if_pos c1,if_pos dB,show j - a=(j - (a+1))+1 by omega,List.getD_cons_succ]
  .rw[if_neg c1]
   by_cases c2:a=j
   .rw[if_pos c2,if_pos dB,show j - a=0 by omega,List.getD_cons_zero]
   .rw[if_neg c2,if_neg dB]
theorem TW{D:Dk}(h:qM D=true){j:Nat}(hj:j<D.V.length):qa (sP D) j=qa D j:=by
 have a:=zrQ h hj;show Ad (pR (sP D) j)=_;rw[a];rfl
theorem zkM(R:List qz){D:Dk}{k:Nat}(a:Nat)(h:tL D k):(xU D a R).2=true/\tL (xU D a R).1 1/\(xU D a R).1.V.length=D.V.length/\
  ∀ j,j<D.V.length->qa (xU D a R).1 j=if a<=j/\j<a+R.length then R.getD (j - a) sG else qa D j:=by
 obtain⟨g,i,k⟩:=Qk R a h;have c:=Bp R D a;obtain⟨e,l⟩:=QO i;rw[xU,if_pos g];exact⟨e,l,by rw[Gh,c],λj f=>by rw[TW e (by rw[c];exact f),k j f]⟩
theorem Su{D:Dk}{k:Nat}(h:tL D k)(c s:Nat):xI D c s=true/\tL (uz D c s) 1/\(uz D c s).V.length=D.V.length/\
  ∀ j,j<D.V.length->qa (uz D c s) j=if j=0 then uG c s else qa D j:=by
 obtain⟨i,_⟩:=Ia h.left h.dead;obtain⟨k,a,_⟩:=h.uC 0 (uG c s);obtain⟨f,l⟩:=QO k;unfold xI uz;rw[i,if_pos rfl,fD];refine⟨f,l,by rw[Gh,a],λj g=>?_⟩;rw[TW f (by rw[a];exact g)];have:=Dj h 0 (uG c s) g;rw[show((0:Nat):Int)=0 from rfl]at this;rw[this]
 by_cases e:j=0
 .rw[if_pos e,if_pos e.symm]
 .rw[if_neg e,if_neg λh=>e h.symm]
theorem YJ{D:Dk}{k:Nat}(h:tL D k):∀ m j,j<D.V.length->qa (Bz D m) j=if j<m then sG else qa D j
 |0,j,hj=>by rw[if_neg dB];rfl
 |m+1,j,hj=>by
  obtain⟨a,f⟩:=Ut h m;rw[Xv,Dj a m sG (by rw[f];exact hj),YJ h m j hj]
  by_cases e:m=j
  .rw[if_pos e,if_pos dB]
  .rw[if_neg e]
   by_cases c:j<m
   .rw[if_pos c,if_pos dB]
   .rw[if_neg c,if_neg dB]
theorem zst{D:Dk}{k:Nat}(h:tL D k)(n:Nat):tL (yT D n) 1/\(yT D n).V.length=D.V.length/\
  ∀ j,j<D.V.length->qa (yT D n) j=if j=0 then uG 1 1 else if j<1+n then sG else qa D j:=by
 obtain⟨o,e⟩:=Ut h (1+n);obtain⟨p,a⟩:=QO o;have f:(sP (Bz D (1+n))).V.length=D.V.length:=by rw[Gh,e]
 obtain⟨g,i,k,l⟩:=Su a 1 1;have m:=(Ia a.left a.dead).1;have q:uz (sP (Bz D (1+n))) 1 1=yT D n:=by
  unfold xI at g;rw[m,fD]at g;rw[uz,m,if_pos rfl];rfl
 rw[q]at i k l;refine⟨i,by rw[k,f],λj c=>?_⟩;rw[l j (by rw[f];exact c),TW p (by rw[e];exact c),YJ h (1+n) j c]
theorem zqQ{f n:Nat}{l:List UInt8}(h:wC l n=false):uE f l n=[]:=by
 cases f with
 |zero=>rfl
 |succ f=>rw[uE,h];rfl
theorem zok{l:List UInt8}{n:Nat}(h:uk (pF l 0)=0):wC l n=false:=by
 cases hj:wC l n with
 |false=>rfl
 |true=>
  have:=(zkA (SY hj).2.1).1;omega
theorem Xw(a k:Nat):(pX a).take k=pX (min k a):=by simp[pX]
theorem Yy(a k:Nat):(pX a).drop k=pX (a - k):=by simp[pX]
theorem zqR:∀ k,qX (pX k)=0:=λk=>by
 induction k with
 |zero=>rfl
 |succ k ih=>
  have a:pX (k+1)=pX k++[0]:=by simp[pX,List.replicate_succ']
  rw[a];simp only[qX]at ih |-;rw[fG,ih];rfl
theorem zqS(a n:Nat):wC (pX a) n=false:=zok (by rw[uk,pF,Yy,Xw,Xw,zqR])
theorem zqT(s c k f a n:Nat):yC s c k (uE f (pX a) n)=[]:=by rw[zqQ (zqS a n)];rfl
theorem X_{D:Dk}:∀ {n:Nat},(∀ j,j<n->qa D (1+j)=sG)->Bn D n=pX (128*n)
 |0,_=>rfl
 |n+1,h=>by
  rw[V_,X_ λj a=>h j dB,h n dB,show 128*(n+1)=128*n+128 by omega];have e:sG=pX 128:=rfl;rw[e];unfold pX;exact gZ
theorem zmU{c s:Nat}(hc:c<18446744073709551616)(hs:s<18446744073709551616):sK (uG c s)=c/\ug (uG c s)=s:=by
 have a:rE.length=4:=rfl;have e:(256:Nat) ^ 8=18446744073709551616:=by decide
 refine⟨?_,?_⟩
 .rw[sK,uG,fE a,bN (rT _ _),SH,e,jc hc]
 .have f:(rE++(oH 8 c++(oH 8 s++pX 108))).drop 12=oH 8 s++pX 108:=by
   rw[<-aH,fE (by rw[aA,rT,a])]
  rw[ug,uG,f,bN (rT _ _),SH,e,jc hs]
theorem zsu(c s:Nat):Av (uG c s) sG=uG c s:=by
 have e:sG=pX 128:=rfl;have a:(rE++(oH 8 c++oH 8 s)).length=20:=by simp[rE,rT]
 have f:uG c s=(rE++(oH 8 c++oH 8 s))++pX 108:=by simp[uG,aH]
 rw[Av,e,f,jD,aQ (by rw[a];omega),a,Xw,Yy,aH]
 congr 1
theorem Hz{c s:Nat}(h1:1<=s)(h2:s<=c)(h3:c<=4611686018427387904):Ae (uG c s)=true:=by
 obtain⟨a,e⟩:=zmU (c:=c) (s:=s) dB dB;rw[Ae,a,e,zsu,decide_eq_true rfl,decide_eq_true h1,decide_eq_true h2,decide_eq_true h3];rfl
theorem zsv{D:Dk}{c s:Nat}{n:Int}(hf:Aw D.V.length n=true)(hr:qa D 0=uG c s)(h1:1<=s)(h2:s<=c)(h3:c<4611686018427387904):AL D n=0/\sK (qa D 0)=c/\ug (qa D 0)=s:=by
 obtain⟨a,e⟩:=zmU (c:=c) (s:=s) dB dB;rw[AL,if_pos hf,hr,if_pos (Hz h1 h2 dB),a,if_neg dB];exact⟨rfl,rfl,e⟩
theorem zmV{D:Dk}{G:Lg}{R:Rec}{k:Nat}(h:tL D k)(hd:G.dead=false)(hm:yM R=true)(hfit:G.at_+(wJ G R).length<=G.size)(hn:1+G.size<=D.V.length):
  uZ D G R=(0,(xU D (1+G.at_) (wJ G R)).1,{G with at_:=G.at_+(wJ G R).length,num:=G.num+1}):=by
 obtain⟨a,_⟩:=zkM (wJ G R) (1+G.at_) h;rw[uZ,hd,if_neg ig,if_neg (by rw[hm];simp),if_neg dB,a,if_pos rfl]
theorem zsw{n j:Nat}(h:j<n):qa (xe n) j=sG:=by
 show Ad (pR (xe n) j)=sG;have a:pR (xe n) j=[sG]:=by
  unfold pR xe;rw[bI,iR,if_pos h];rfl
 rw[a];rfl
theorem zsx(j:Nat):(ry uQ 4).getD j sG=sG:=by
 rw[bI]
 by_cases a:j<4
 .rw[XX uQ a,jr,uQ,iW,List.take_replicate,sG]
  congr 1
  omega
 .rw[bK (by rw[Hm];omega)];rfl
theorem ZV{D:Dk}{k s:Nat}(h:tL D k)(hz:∀ j,j<D.V.length->qa D j=sG):∀ m j,j<D.V.length->qa (Dz D s m) j=sG
 |0,j,hj=>hz j hj
 |m+1,j,hj=>by
  obtain⟨a,c⟩:=Rl (s:=s) h m;have e:=(Qk (ry uQ 4) (1+s+m*4) a).2.2 j (by rw[c];exact hj);rw[Dz,e,ZV h hz m j hj,zsx]
  split<;>rfl
def xX(pages s:Nat):Dk:=yT (Dz (xe (1+s+4*pages)) s pages) s
theorem CS{pages s:Nat}(h4:4<=s)(hs:s<=4000):vN (1+s+4*pages) s=pages:=by
 unfold vN;rw[if_neg dB,aW];omega
theorem Tf{pages s:Nat}(h4:4<=s)(hs:s<=4000)(hp:pages<=500):tL (xX pages s) 1/\(xX pages s).V.length=1+s+4*pages/\∀ j,j<1+s+4*pages->qa (xX pages s) j=if j=0 then uG 1 1 else sG:=by
 have c:=zms (n:=1+s+4*pages) dB;obtain⟨h,e⟩:=Rl (s:=s) c pages;rw[Oq]at e;obtain⟨i,f,g⟩:=zst h s;rw[e]at f g;refine⟨i,f,λj a=>?_⟩;have k:=ZV (s:=s) c (λj a=>zsw (by rw[Oq]at a;exact a)) pages j (by rw[Oq];exact a);rw[xX,g j a,k]
 split
 .rfl
 .split<;>rfl
theorem zpB{pages s:Nat}(h4:4<=s)(hs:s<=4000)(hp:pages<=500):AL (xX pages s) s=0/\sK (qa (xX pages s) 0)=1/\ug (qa (xX pages s) 0)=1/\xD (xX pages s) (yf (xX pages s) s)=[]:=by
 obtain⟨i,e,a⟩:=Tf h4 hs hp;obtain⟨f,g,h⟩:=zsv (D:=xX pages s) (c:=1) (s:=1) (n:=s) (by rw[e];exact decide_eq_true dB) (by rw[a 0 dB,if_pos rfl]) dB dB dB;refine⟨f,g,h,?_⟩;rw[xD,show(yf (xX pages s) s).size=s from aW s,X_ λj k=>by rw[a (1+j) dB,if_neg dB],zqT]
def EX(pages s fr:Nat):Pl:=⟨uz (xX pages s) 2 1,⟨2,1,s,0,0,false⟩,fr,xJ,xJ,[],false⟩
theorem zuO{pages s:Nat}(fr:Nat)(h4:4<=s)(hs:s<=4000)(hp:pages<=500):xI (xX pages s) (sK (qa (xX pages s) 0)+1) (ug (qa (xX pages s) 0))=true/\Ez (xX pages s) s fr=(0,EX pages s fr):=by
 obtain⟨e,h,i⟩:=Tf h4 hs hp;obtain⟨j,a,c,f⟩:=zpB h4 hs hp;have g:=Su e 2 1;rw[a,c];refine⟨g.1,?_⟩;unfold Ez wG;rw[f,a,c,if_pos aY]
 rfl
theorem Yd{pages s:Nat}(fr:Nat)(h4:4<=s)(hs:s<=4000)(hp:pages<=500):tL (EX pages s fr).D 1/\(EX pages s fr).D.V.length=1+s+4*pages/\(EX pages s fr).n=pages/\∀ j,j<1+s+4*pages->qa (EX pages s fr).D j=if j=0 then uG 2 1 else sG:=by
 obtain⟨f,g,h⟩:=Tf h4 hs hp;obtain⟨_,i,a,c⟩:=Su f 2 1;rw[g]at a c;refine⟨i,a,?_,λj e=>?_⟩
 .show vN (uz _ _ _).V.length s=pages
  rw[a,CS h4 hs]
 .show qa (uz _ _ _) j=_
  rw[c j e,h j e]
  split<;>rfl
theorem KV{pages s fr:Nat}(h4:4<=s)(hs:s<=4000)(hp:pages<=500)(hp4:4<=pages)(h2:2<=fr)(hm:fr<=100):xP (EX pages s fr):=by
 obtain⟨h,e,f,j⟩:=Yd fr h4 hs hp;exact⟨⟨ax _,(by show 1<=2;omega),(by show 2<=_;omega),h4,hs,aC _,ax _,(by rw[e];show 1+s<=_;omega)⟩,by rw[f];exact hp4,h2,hm,(λi b a=>nomatch a),(λi b a=>nomatch a),(λc g=>nomatch g),aC _⟩
structure tQ(P:Pl)(V:Nat->Pg)(k:Nat):Prop where
 ok:xP P
 al:tL P.D 1
 gd:P.G.dead=false
 de:P.dead=false
 ct:P.G.count<=k
 dn:∀ n b,P.di n=some b->V n=b
 cl:∀ c∈P.cl,∃ n:Nat,c.num=(n:Int)/\P.di n=none/\c.page=V n
 pg:∀ n,n<P.n->P.di n=none->vW P.D (1+P.G.size+n*4)=V n
 ln:∀ n,n<P.n->(V n).length=512
theorem zuP{R:Rec}{n:Int}{c:Ch}(h:R[sN R n]?=some c):c.num=n:=by
 have a:=(aL.1 h).1;have hp:decide ((R[sN R n]).num=n)=true:=iK (p:=λc:Ch=>decide (c.num=n)) (xs:=R) (w:=a);have e:=(aL.1 h).2;rw[e]at hp;exact of_decide_eq_true hp
namespace tQ
variable {P:Pl}{V:Nat->Pg}{k n:Nat}
theorem ask(h:tQ P V k)(hn:n<P.n):wQ P n=V n:=by
 unfold wQ
 split
 .exact(h.dn _ _ ‹_›).symm
 .rename_i e
  split
  .rename_i c a
   obtain⟨m,g,i,f⟩:=h.cl c (aO a);have j:=zuP a;have:m=n:=by omega
   rw[f,this]
  .exact h.pg n hn e
theorem up(h:tQ P V k){k2:Nat}(hk:k<=k2):tQ P V k2:=⟨h.ok,h.al,h.gd,h.de,ag h.ct hk,h.dn,h.cl,h.pg,h.ln⟩
theorem wH(h:tQ P V k)(hn:n<P.n):tQ (wH P n) V k:=by
 have hX:=h.ask hn;have f:xP (Go.Proofs.YtpaniebomegnbaaGreat.wH P n):=by
  have g:(wQ P n).length=512:=by rw[hX];exact h.ln n hn
  unfold Go.Proofs.YtpaniebomegnbaaGreat.wH
  split
  .exact h.ok
  .have a:=zsm h.ok.cl h.ok.cll n g
   exact⟨h.ok.lg,h.ok.n4,h.ok.fr2,h.ok.frm,h.ok.ch,h.ok.di,a.1,a.2⟩
 revert f
 unfold Go.Proofs.YtpaniebomegnbaaGreat.wH
 split
 .exact λ_=>h
 .rename_i i
  intro f;refine⟨f,h.al,h.gd,h.de,h.ct,h.dn,λc j=>?_,h.pg,h.ln⟩;have k:c∈without P.cl n\/c=⟨n,wQ P n⟩:=by
   have e:c∈frameC P.fr P.cl n (wQ P n):=j;unfold frameC at e
   split at e
   .have:=eP e
    rcases ay.1 this with a|a
    .exact .inl a
    .exact .inr<|aJ.1 a
   .rcases ay.1 e with a|a
    .exact .inl a
    .exact .inr<|aJ.1 a
  rcases k with a|rfl
  .exact h.cl c (dU.1 a).1
  .exact⟨n,rfl,i,hX⟩
theorem Qt(h:tQ P V k)(c:tK)(hc:∀ i b,c i=some b->b.length=512):tQ {P with ch:=c} V k:=
 ⟨⟨h.ok.lg,h.ok.n4,h.ok.fr2,h.ok.frm,hc,h.ok.di,h.ok.cl,h.ok.cll⟩,h.al,h.gd,h.de,h.ct,h.dn,h.cl,h.pg,h.ln⟩
theorem Hl(h:tQ P V k)(hn:n<P.n){X:Pg}(hX:X.length=512):tQ (Hl P n X) V k:=by
 refine(h.wH hn).Qt _ λi b hb=>?_
 unfold uW at hb
 split at hb
 .split at hb
  .cases hb
  .rw[<-bQ hb];exact hX
 .exact h.ok.ch i b hb
theorem EZ(h:tQ P V k)(hn:n<P.n):tQ (EZ P n) V k:=by
 unfold Go.Proofs.YtpaniebomegnbaaGreat.EZ
 split
 .exact h
 .exact h.wH hn
theorem yJ(h:tQ P V k)(hn:n<P.n):yJ P n=(P.ch n).getD (V n):=by
 unfold Go.Proofs.YtpaniebomegnbaaGreat.yJ
 split
 .rename_i b hb;rw[hb];rfl
 .rename_i hb;rw[hb];exact h.ask hn
end tQ
theorem Vn{D D':Dk}{a:Nat}(h:∀ i,i<4->qa D' (a+i)=qa D (a+i)):vW D' a=vW D a:=by
 unfold vW
 congr 1
 exact iq λi a=>h i (bZ.1 a)
theorem Yt{D:Dk}{a:Nat}{X:Pg}(hX:X.length=512)(h:∀ i,i<4->qa D (a+i)=(ry X 4).getD i sG):vW D a=X:=by
 have e:((List.range 4).map λi=>qa D (a+i))=ry X 4:=by
  refine dI λi=>?_
  by_cases c:i<4
  .rw[aV,eH c,dP,h i c,XX X c,bI,XX X c];rfl
  .rw[bK jY,bK (by rw[Hm];omega)]
 unfold vW;rw[e,Vt,aQ dB]
theorem XN(s:Nat):∀ (l:List (Nat × Pg)) {D:Dk} {k:Nat},tL D k->(tH s D l).2=true/\tL (tH s D l).1 (k+4*l.length)/\(∀ j,j<D.V.length->j<1+s->qa (tH s D l).1 j=qa D j)/\
  (∀ n,1+s+n*4+4<=D.V.length->(∀ p∈l,p.1≠n)->vW (tH s D l).1 (1+s+n*4)=vW D (1+s+n*4))
 |[],D,k,h=>⟨rfl,h,λ_ _ _=>rfl,λ_ _ _=>rfl⟩
 |p::l,D,k,h=>by
  obtain⟨m,c,a⟩:=Qk (ry p.2 4) (1+s+p.1*4) h;rw[Hm]at c a;obtain⟨o,r,t,u⟩:=XN s l c;have e:=Bp (ry p.2 4) D (1+s+p.1*4);rw[tH,if_pos m];refine⟨o,r.weak (by rw[aD];omega),λj f y=>?_,λn z g=>?_⟩
  .rw[t j (by rw[e];exact f) y,a j f,if_neg dB]
  .rw[u n (by rw[e];exact z) (λq A=>g q (aj _ A))]
   have B:=g p (aK ..);refine Vn λi C=>?_
   rw[a _ dB,if_neg dB]
theorem Za(s:Nat):∀ (l:List (Nat × Pg)) {D:Dk} {k:Nat},tL D k->(l.map (·.1)).Nodup->(∀ p∈l,p.2.length=512)->∀ p∈l,1+s+p.1*4+4<=D.V.length->vW (tH s D l).1 (1+s+p.1*4)=p.2
 |[],D,k,h,_,_=>λp hp=>nomatch hp
 |r::l,D,k,h,hnd,hl512=>λp hp g=>by
  obtain⟨o,a,j⟩:=Qk (ry r.2 4) (1+s+r.1*4) h;rw[Hm]at a j;have m:=Bp (ry r.2 4) D (1+s+r.1*4);rw[bi,cB]at hnd;rw[tH,if_pos o];rcases ak.1 hp with rfl|hp
  .rw[(XN s l a).2.2.2 p.1 (by rw[m];exact g) λq c e=>hnd.1 (by rw[<-e];exact iP (f:=(·.1)) c)]
   refine Yt (hl512 p (aK ..)) λi t=>?_
   rw[j _ dB,if_pos dB,show 1+s+p.1*4+i - (1+s+p.1*4)=i by omega]
  .exact Za s l a hnd.2 (λq c=>hl512 q (aj _ c)) p hp (by rw[m];exact g)
theorem Zb(c:tK):∀ (m a:Nat),((uo c a m).map (·.1)).Nodup
 |0,a=>fI
 |m+1,a=>by
  have f:=Zb c m (a+1);rw[uo]
  split
  .rw[bi,cB]
   refine⟨λg=>?_,f⟩;obtain⟨p,hp,e⟩:=bg.1 g;have:=Hu hp;have h:p.1=a:=e;omega
  .exact f
theorem Qs{c:tK}:∀ {m a i:Nat} {b:Pg},c i=some b->a<=i->i<a+m->(i,b)∈uo c a m
 |0,a,i,b,_,h1,h2=>by omega
 |m+1,a,i,b,h,h1,h2=>by
  rw[uo]
  by_cases e:a=i
  .subst e;rw[h];exact aK ..
  .have:=Qs (m:=m) (a:=a+1) h dB dB
   split
   .exact aj _ this
   .exact this
theorem tQ.settle{P:Pl}{V:Nat->Pg}{k:Nat}(h:tQ P V k)(hk:k<=1000000):(sM P).1=0/\tQ (sM P).2 V (k+1)/\(sM P).2.di=xJ/\(sM P).2.G=Ql P.G/\(sM P).2.ch=P.ch/\(sM P).2.n=P.n/\(sM P).2.fr=P.fr/\(sM P).2.D.V.length=P.D.V.length:=by
 have J:=h.ct;have K:=h.ok.lg.fit;obtain⟨w1,w2,L,r⟩:=XN P.G.size (uo P.di 0 P.n) h.al;have j:=Uq P.G.size (uo P.di 0 P.n) P.D;obtain⟨k,s⟩:=QO w2;obtain⟨t,u,M,y⟩:=Su s (P.G.count+1) (P.G.count+1);have l:(sM P).1=0:=by
  unfold sM vP;rw[if_pos w1,if_pos k];dsimp only;unfold yc;rw[if_neg (by rw[h.gd];simp),if_neg dB,if_pos t]
 obtain⟨k1,k2,k3,k4,k5,k6,N,O,Q,z⟩:=ZQ h.ok l;obtain⟨A,B,C,D,E,F,g⟩:=RV P;have o:(sM P).2.D=uz (sP (tH P.G.size P.D (uo P.di 0 P.n)).1) (P.G.count+1) (P.G.count+1):=z;have G:∀ n,n<P.n->vW (sM P).2.D (1+P.G.size+n*4)=V n:=λn f=>by
  have hr:=(Rj h.ok f).1;have H:vW (sM P).2.D (1+P.G.size+n*4)=vW (tH P.G.size P.D (uo P.di 0 P.n)).1 (1+P.G.size+n*4):=by
   rw[o];refine Vn λi R=>?_
   rw[y _ (by rw[Gh,j];omega),if_neg dB,TW k (by rw[j];omega)]
  rw[H];cases hd:P.di n with
  |some b=>
   have I:=Qs (m:=P.n) (a:=0) hd (aC _) dB;have:=Za P.G.size _ h.al (Zb P.di P.n 0) (λp hp=>h.ok.di _ _ (Hu hp).1) _ I (by dsimp only;omega);rw[this];exact(h.dn n b hd).symm
  |none=>
   rw[r n hr λp hp e=>by have:=(Hu hp).1;rw[e,hd]at this;cases this];exact h.pg n f hd
 refine⟨l,⟨k1,by rw[o];exact u,by rw[k4];exact k5,by rw[F];exact h.de,by rw[k4];show P.G.count+1<=_;omega,?_,?_,?_,λn f=>h.ln n (by rw[<-g];exact f)⟩,k3,k4,C,g,E,A⟩
 .intro n b hb;rw[k3]at hb;cases hb
 .intro c q
  rw[D]at q;obtain⟨n,c1,c2,c3⟩:=h.cl c q;exact⟨n,c1,by rw[k3];rfl,c3⟩
 .intro n f _
  rw[B];exact G n (by rw[<-g];exact f)
theorem XE(c:tK):∀ (m a:Nat) (P:Pl) (n:Nat),(su P ((uo c a m).map λp=>⟨p.1,p.2⟩)).di n=if a<=n/\n<a+m then(c n).or (P.di n)else P.di n
 |0,a,P,n=>by rw[if_neg dB];rfl
 |m+1,a,P,n=>by
  rw[uo];cases hc:c a with
  |some b=>
   have h:=XE c m (a+1) {P with di:=uW P.di a (some b),cl:=without P.cl (a:Int)} n;have e:su P (((a,b)::uo c (a+1) m).map λp=>(⟨p.1,p.2⟩:Ch))=su {P with di:=uW P.di a (some b),cl:=without P.cl (a:Int)} ((uo c (a+1) m).map λp=>⟨p.1,p.2⟩):=rfl;dsimp only;rw[e,h];dsimp only[uW]
   by_cases f:a+1<=n/\n<a+1+m
   .rw[if_pos f,if_neg (show¬n=a by omega),if_pos (show a<=n/\n<a+(m+1) by omega)]
   .rw[if_neg f]
    by_cases g:n=a
    .subst g;rw[if_pos rfl,if_pos dB,hc];rfl
    .rw[if_neg g,if_neg dB]
  |none=>
   dsimp only;rw[XE c m (a+1) P n]
   by_cases f:a+1<=n/\n<a+1+m
   .rw[if_pos f,if_pos dB]
   .rw[if_neg f]
    by_cases g:n=a
    .subst g;rw[if_pos dB,hc];rfl
    .rw[if_neg dB]
theorem YC:∀ (R:Rec) (P:Pl) (c:Ch),c∈(su P R).cl->c∈P.cl/\∀ r∈R,c.num≠r.num
 |[],P,c,a=>⟨a,λr hr=>nomatch hr⟩
 |r::R,P,c,a=>by
  obtain⟨g,h⟩:=YC R {P with di:=uW P.di r.num.toNat (some r.page),cl:=without P.cl r.num} c a;have f:=dU.1 g;refine⟨f.1,λq e=>?_⟩;rcases ak.1 e with rfl|e
  .have:=f.2
   simpa using this
  .exact h q e
def AB(P:Pl)(V:Nat->Pg):Nat->Pg:=λn=>if n<P.n then(P.ch n).getD (V n)else V n
theorem zsA(G:Lg){R:Rec}(h1:1<=R.length)(h2:R.length<=60):vO (R.length:Int)=((wJ G R).length:Int):=by
 rw[WI];unfold vO;rw[if_pos dB,aW,eF]
theorem Hr{P:Pl}(h1:1<=(qf P).length)(h2:(qf P).length<=60)(hn:P.n<=2048):yM (qf P)=true:=by
 rw[yM,aN];refine⟨decide_eq_true ⟨h1,h2⟩,dC.2 λc a=>?_⟩;obtain⟨p,hp,rfl⟩:=bg.1 a;have:=Hu hp;exact decide_eq_true (by show(0:Int)<=(p.1:Int)/\(p.1:Int)<2147483648;omega)
theorem zon{P:Pl}{V:Nat->Pg}{k:Nat}(h:tQ P V k)(hk:k<=1000000)(hn:P.n<=2048)(hR1:¬(qf P).length=0)(hR2:¬60<(qf P).length)(hfit:vO ((qf P).length:Int)<=((P.G.size - P.G.at_:Nat):Int)):
  (uZ P.D P.G (qf P)).1=0/\tQ {su (uI P (qf P)) (qf P)with ch:=xJ} (AB P V) k/\(uI P (qf P)).G={P.G with at_:=P.G.at_+(wJ P.G (qf P)).length,num:=P.G.num+1}/\(uI P (qf P)).D.V.length=P.D.V.length/\
   (uI P (qf P)).D=(xU P.D (1+P.G.at_) (wJ P.G (qf P))).1/\(uI P (qf P)).n=P.n:=by
 have g:=h.ok.lg;have M:=g.at_;have N:=zsA P.G (R:=qf P) dB dB;have z:P.G.at_+(wJ P.G (qf P)).length<=P.G.size:=by omega
 have O:=g.num;have Q:1<=(wJ P.G (qf P)).length:=by
  rw[WI];unfold qN qE;omega
 have r:=zmV h.al h.gd (Hr (P:=P) dB dB hn) z g.fit;obtain⟨S,E,s,F⟩:=zkM (wJ P.G (qf P)) (1+P.G.at_) h.al;obtain⟨t,o,u,T,G,y,H,I⟩:=OI (qf P) (uI P (qf P));have l:(uI P (qf P)).D=(xU P.D (1+P.G.at_) (wJ P.G (qf P))).1:=by unfold uI;rw[r]
 have m:(uI P (qf P)).G={P.G with at_:=P.G.at_+(wJ P.G (qf P)).length,num:=P.G.num+1}:=by unfold uI;rw[r]
 have p:(uI P (qf P)).n=P.n:=by unfold Pl.n;rw[l,m,s]
 have q:∀ n,(su (uI P (qf P)) (qf P)).di n=if n<P.n then(P.ch n).or (P.di n)else P.di n:=λn=>by
  have:=XE P.ch P.n 0 (uI P (qf P)) n;unfold qf at this |-;rw[this]
  by_cases f:n<P.n
  .rw[if_pos dB,if_pos f];rfl
  .rw[if_neg dB,if_neg f];rfl
 refine⟨by rw[r],⟨⟨?_,?_,?_,?_,(λi b hb=>nomatch hb),?_,?_,?_⟩,?_,?_,?_,?_,?_,?_,?_,λn f=>?_⟩,m,by rw[l,s],l,p⟩
 .show AQ (su _ _).D (su _ _).G
  rw[t,o,l,m];exact⟨g.s1,g.sc,g.cm,g.sz4,g.szm,z,by show P.G.num+1<=P.G.at_+_;omega,by rw[s];exact g.fit⟩
 .show 4<=(su _ _).n
  rw[y,p];exact h.ok.n4
 .show 2<=(su _ _).fr
  rw[u];exact h.ok.fr2
 .show(su _ _).fr<=100
  rw[u];exact h.ok.frm
 .intro i b hb
  have a:(su (uI P (qf P)) (qf P)).di i=some b:=hb;rw[q]at a
  split at a
  .cases e:P.ch i with
   |some x=>rw[e]at a;rw[<-bQ a];exact h.ok.ch i x e
   |none=>rw[e]at a;exact h.ok.di i b a
  .exact h.ok.di i b a
 .exact H h.ok.cl
 .show(su _ _).cl.length<=(su _ _).fr
  rw[u];exact ag I h.ok.cll
 .show tL (su _ _).D 1
  rw[t,l];exact E
 .show(su _ _).G.dead=false
  rw[o,m];exact h.gd
 .show(su _ _).dead=false
  rw[G];exact h.de
 .show(su _ _).G.count<=k
  rw[o,m];exact h.ct
 .intro n b hb
  have a:(su (uI P (qf P)) (qf P)).di n=some b:=hb;rw[q]at a;unfold AB
  split
  .rename_i f
   rw[if_pos f]at a;cases e:P.ch n with
   |some x=>rw[e]at a;exact bQ a
   |none=>rw[e]at a;exact h.dn n b a
  .rename_i f
   rw[if_neg f]at a;exact h.dn n b a
 .intro c e
  obtain⟨c1,c2⟩:=YC (qf P) (uI P (qf P)) c e;obtain⟨n,A,B,C⟩:=h.cl c c1;have D:n<P.n->P.ch n=none:=λf=>by
   cases hcn:P.ch n with
   |none=>rfl
   |some x=>
    have J:(⟨(n:Int),x⟩:Ch)∈qf P:=bg.2 ⟨(n,x),Qs hcn (aC _) dB,rfl⟩;exact absurd A<|c2 _ J
  refine⟨n,A,?_,?_⟩
  .show(su (uI P (qf P)) (qf P)).di n=none
   rw[q]
   split
   .rw[D ‹_›];exact B
   .exact B
  .unfold AB
   split
   .rw[D ‹_›];exact C
   .exact C
 .intro n f K
  have j:n<P.n:=by
   have:(su (uI P (qf P)) (qf P)).n=P.n:=by rw[y,p]
   rw[<-this];exact f
  have a:(su (uI P (qf P)) (qf P)).di n=none:=K;rw[q,if_pos j]at a;have hr:=(Rj h.ok j).1;show vW (su _ _).D (1+(su _ _).G.size+n*4)=_;rw[t,o,l,m];have L:vW (xU P.D (1+P.G.at_) (wJ P.G (qf P))).1 (1+P.G.size+n*4)=vW P.D (1+P.G.size+n*4):=Vn λi U=>by
   rw[F _ dB,if_neg dB]
  unfold AB;rw[if_pos j];cases e:P.ch n with
  |some x=>rw[e]at a;cases a
  |none=>
   rw[e]at a;show vW _ _=V n;dsimp only;rw[L];exact h.pg n j a
 .have j:n<P.n:=by
   have:(su (uI P (qf P)) (qf P)).n=P.n:=by rw[y,p]
   rw[<-this];exact f
  unfold AB;rw[if_pos j];cases e:P.ch n with
  |some x=>exact h.ok.ch n x e
  |none=>exact h.ln n j
theorem zm0:uQ.length=512:=bz ..
theorem FZ{pages s fr:Nat}(h4:4<=s)(hs:s<=4000)(hp:pages<=500)(hp4:4<=pages)(h2:2<=fr)(hm:fr<=100):tQ (EX pages s fr) (λ_=>uQ) 2:=by
 obtain⟨a,k,e,f⟩:=Yd fr h4 hs hp;refine⟨KV h4 hs hp hp4 h2 hm,a,rfl,rfl,ax _,(λn b g=>nomatch g),(λc h=>nomatch h),λn j _=>?_,λ_ _=>zm0⟩;rw[e]at j;refine Yt zm0 λi l=>?_
 show qa (EX pages s fr).D (1+s+n*4+i)=_;rw[f _ dB,if_neg dB,zsx]
section
variable {Y:VE}[nz Y]{lo:Nat}{L:List Nat}{w:World}
end
def k1(K:Pl)(X:Pg):Pl:=Hl K 1 X
def k2(K:Pl)(X:Pg):Pl:={k1 K X with ch:=xJ}
def k3(K:Pl)(X:Pg):Pl:=EZ (k2 K X) 1
def k4(K:Pl)(X:Pg):Pl:=Hl (k3 K X) 1 X
def k5(K:Pl)(X:Pg):Pl:={su (uI (k4 K X) (qf (k4 K X))) (qf (k4 K X))with ch:=xJ}
def k6(K:Pl)(X:Pg):Pl:=EZ (k5 K X) 1
section
variable {K:Pl}{X Z:Pg}
structure ZL(K:Pl)(X Z:Pg):Prop where
 i:tQ K (λ_=>Z) 2
 n:K.n=5
 g:K.G=⟨2,1,12,0,0,false⟩
 di:K.di=xJ
 xl:X.length=512
 xz:X≠Z
namespace ZL
end ZL
end
def yZ(P:Pl)(n:Int):Prop:=0<=n/\n<(P.n:Int)
instance(P:Pl)(n:Int):Decidable (yZ P n):=by unfold yZ;exact inferInstance
def BK(P:Pl)(n:Int):Int:=if yZ P n then 0 else 2
def gX(P:Pl)(V:Nat->Pg)(n:Int):Pg:=if yZ P n then(P.ch n.toNat).getD (V n.toNat)else uQ
def gP(P:Pl)(n:Int):Pl:=if yZ P n then EZ P n.toNat else P
def pP(P:Pl)(n:Int)(X:Pg):Pl:=if yZ P n then Hl P n.toNat X else P
theorem zuQ:bv uQ=zP:=by rw[uQ,bv,fP];rfl
theorem Jk{P:Pl}(h:P.dead=false)(n:Int):yg P n=BK P n:=by
 unfold yg BK yZ;rw[h,if_neg ig]
namespace tQ
variable {P:Pl}{V:Nat->Pg}{k:Nat}
theorem gP(h:tQ P V k)(n:Int):tQ (gP P n) V k:=by
 unfold Go.Proofs.YtpaniebomegnbaaGreat.gP
 split
 .rename_i a;exact h.EZ (by unfold yZ at a;omega)
 .exact h
theorem pP(h:tQ P V k)(n:Int){X:Pg}(hX:X.length=512):tQ (pP P n X) V k:=by
 unfold Go.Proofs.YtpaniebomegnbaaGreat.pP
 split
 .rename_i a;exact h.Hl (by unfold yZ at a;omega) hX
 .exact h
end tQ
section
variable {Y:VE}[nz Y]{q lo:Nat}{L:List Nat}{P:Pl}{V:Nat->Pg}{k:Nat}{w:World}
omit [nz Y] in
theorem z_n(h:Two (PZ q P) Y lo L w):P.n<=2048:=by
 obtain⟨g,x,mc,md,cv,a⟩:=NE h;exact a.Eh.1
theorem UW(h:Two (PZ q P) Y lo L w)(hi:tQ P V k)(n:Int):CQ 118 [VA q,VB n] w (λv w'=>v= .tuple #[.agg (bv (gX P V n)).toArray,VB (BK P n)]/\Two (PZ q (gP P n)) Y lo L w'/\nC lo L w w'):=by
 by_cases a:yZ P n
 .have i:=a
  unfold yZ at i;obtain⟨m,rfl⟩:∃ m:Nat,n=m:=⟨n.toNat,dB⟩;unfold gX BK gP;rw[if_pos a,if_pos a,if_pos a,aW,<-hi.yJ dB];exact Xe h λg x mc md cv c=>LM c hi.ok hi.de m dB
 .unfold gX gP
  rw[if_neg a,if_neg a,zuQ];obtain⟨g,x,mc,md,cv,c⟩:=NE h;have hr:=Jk hi.de n;have j:yg P n≠0:=by rw[hr];unfold BK;rw[if_neg a];omega
  have e:=Qn c hi.ok.lg.szm n j;rw[hr]at e;exact e.to λv w' ⟨k,f⟩=>⟨k,h.new f,nC.of_below f⟩
theorem Wl(h:Two (PZ q P) Y lo L w)(hi:tQ P V k)(n:Int){X:Pg}(hX:X.length=512):CQ 71 [VA q,VB n, .agg (bv X).toArray] w (λv w'=>v=VB (BK P n)/\Two (PZ q (pP P n X)) Y lo L w'/\nC lo L w w'):=by
 by_cases a:yZ P n
 .have i:=a
  unfold yZ at i;obtain⟨m,rfl⟩:∃ m:Nat,n=m:=⟨n.toNat,dB⟩;unfold BK pP;rw[if_pos a,if_pos a,aW];exact Xe h λg x mc md cv c=>MX c hi.ok hi.de m dB X hX
 .unfold pP
  rw[if_neg a];obtain⟨g,x,mc,md,cv,c⟩:=NE h;have hr:=Jk hi.de n;have j:yg P n≠0:=by rw[hr];unfold BK;rw[if_neg a];omega
  have e:=QZ c hi.ok.lg.szm n X j;rw[hr]at e;exact e.to λv w' ⟨k,f⟩=>⟨k,h.new f,nC.of_below f⟩
theorem Ir(h:Two (PZ q P) Y lo L w)(hi:tQ P V k):CQ 32 [VA q] w (λv w'=>v=VB (uO P).1/\Two (PZ q (uO P).2) Y lo L w'/\nC lo L w w'):=
 Xe h λg x mc md cv a=>zsq a hi.ok hi.de (yD hi.al.short dB)
end
def XV(P:Pl)(V:Nat->Pg):Nat->Pg:=if(uO P).1=0 then AB P V else V
theorem zsB{P:Pl}{V:Nat->Pg}(h:(qf P).length=0):AB P V=V:=by
 funext n
 unfold AB
 split
 .rename_i c
  cases hc:P.ch n with
  |none=>rfl
  |some x=>
   have a:(⟨(n:Int),x⟩:Ch)∈qf P:=bg.2 ⟨(n,x),Qs hc (aC _) dB,rfl⟩;rw[bH h]at a;cases a
 .rfl
theorem tQ.zJ{P:Pl}{V:Nat->Pg}{k:Nat}(h:tQ P V k)(hk:k<=900000)(hn:P.n<=2048):tQ (uO P).2 (XV P V) (k+1)/\(uO P).2.n=P.n/\(uO P).2.fr=P.fr/\
  ((qf P).length<=60->vO ((qf P).length:Int)<=(P.G.size:Int)->(uO P).1=0)/\((uO P).1=0->0<(qf P).length->(uO P).2.ch=xJ):=by
 unfold XV
 by_cases a:(qf P).length=0
 .have e:uO P=(0,P):=by unfold uO;rw[if_pos a]
  rw[e,if_pos rfl,zsB a];exact⟨h.up dB,rfl,rfl,λ_ _=>rfl,λ_ c=>dB⟩
 by_cases f:60<(qf P).length
 .have e:uO P=(3,P):=by unfold uO;rw[if_neg a,if_pos f]
  rw[e,if_neg ig];exact⟨h.up dB,rfl,rfl,λc _=>dB,λc=>by simp at c⟩
 by_cases j:(P.G.size:Int)<vO ((qf P).length:Int)
 .have e:uO P=(8,P):=by unfold uO;rw[if_neg a,if_neg f,if_pos j]
  rw[e,if_neg ig];exact⟨h.up dB,rfl,rfl,λ_ c=>dB,λc=>by simp at c⟩
 have p:(uA P).1=0/\tQ (uA P).2 V (k+1)/\qf (uA P).2=qf P/\vO ((qf P).length:Int)<=(((uA P).2.G.size - (uA P).2.G.at_:Nat):Int)/\(uA P).2.ch=P.ch/\(uA P).2.n=P.n/\(uA P).2.fr=P.fr:=by
  unfold uA
  split
  .obtain⟨q,r,F,s,l,m,t,G⟩:=h.settle dB
   refine⟨q,r,by unfold qf;rw[l,m],?_,l,m,t⟩;rw[s];show _<=((P.G.size - 0:Nat):Int);omega
  .rename_i hr
   exact⟨rfl,h.up dB,rfl,Int.not_lt.1 hr,rfl,rfl,rfl⟩
 obtain⟨u,y,g,z,A,i,B⟩:=p;have o:=zon y dB (by rw[i];exact hn) (by rw[g];exact a) (by rw[g];exact f) (by rw[g];exact z);rw[g]at o;obtain⟨c1,c2,c3,H,I,C⟩:=o;have e:uO P=(0,{su (uI (uA P).2 (qf P)) (qf P)with ch:=xJ}):=by
  unfold uO;rw[if_neg a,if_neg f,if_neg j,if_pos u,if_pos c1]
 have ev:AB (uA P).2 V=AB P V:=by unfold AB;rw[A,i]
 rw[e,if_pos rfl,<-ev];obtain⟨J,K,D,L,M,E,N,O⟩:=OI (qf P) (uI (uA P).2 (qf P));refine⟨c2,?_,?_,λ_ _=>rfl,λ_ _=>rfl⟩
 .show(su _ _).n=P.n
  rw[E,C,i]
 .show(su _ _).fr=P.fr
  rw[D];exact B
structure Jm(P Q:Pl):Prop where
 D:Q.D=P.D
 G:Q.G=P.G
 ch:Q.ch=P.ch
 di:Q.di=P.di
 de:Q.dead=P.dead
namespace Jm
variable {P Q:Pl}
end Jm
end Go.Proofs.YtpaniebomegnbaaGreat
namespace Coup
open Go Go.RowKit
def ul(A:Value->World->Prop)(B:List PanicEntry->World->Prop):Ending->World->Prop
 | .returned v,w=>A v w
 | .panicked c,w=>B c w
 | .outgrown,_=>False
theorem _root_.Go.Calls.toP{P:Program}{f:FuncId}{args:Array Value}{w:World}{R A:Value->World->Prop}{B:List PanicEntry->World->Prop}(h:Calls P f args w (qb R))(hr:∀ v w',R v w'->A v w'):Calls P f args w (ul A B):=
 h.mono λe w' ⟨v,a,c⟩=>by subst a;exact hr v w' c
theorem _root_.Go.Calls.BJ{P:Program}{f:FuncId}{args:Array Value}{w:World}{A A':Value->World->Prop}{B B':List PanicEntry->World->Prop}(h:Calls P f args w (ul A B))(hr:∀ v w',A v w'->A' v w')(hb:∀ c w',B c w'->B' c w'):Calls P f args w (ul A' B'):=
 h.mono λe w' h=>by
  cases e with
  |returned v=>exact hr v w' h
  |panicked c=>exact hb c w' h
  |outgrown=>exact h
section
variable {md:Option Nat->Prop}{P:Program}{n:Nat}{Q:Post}{ρ:Env}{w:World}
theorem zsC{o:Oper}{r:Next}{w':World}(hr:(execOp (ev ρ) o).run P w= .ok r w')(hd:∀ d,r≠ .defer d):∀ c,o.op≠ .defer c:=by
 intro c a;have e:(execOp (ev ρ) o).run P w=((do pure (.defer (<-resolve (ev ρ) c o.type))):Sem Next).run P w:=by simp only[execOp,a]
 rw[e]at hr;simp only[Sem.run_bind]at hr;cases hq:(resolve (ev ρ) c o.type).run P w with
 |ok d w'=>rw[hq]at hr;cases hr;exact hd _ rfl
 |halt x w'=>rw[hq]at hr;cases hr
theorem Hy {o:Oper} {K:Env->World->Prop} {Kp:List PanicEntry->World->Prop} {f:FuncId} {vl:List Value} {A:Value->World->Prop} {B:List PanicEntry->World->Prop} (hr:(execOp (ev ρ) o).run P w= .ok (.enter f vl.toArray) w)
  (hc:Calls P f vl.toArray w (ul A B)) (hp:∀ c w',B c w'->Kp c w') (h:∀ v w',A v w'->K (qD ρ o.dst v) w'):AX P o K Kp ρ w:=by
 refine⟨zsC hr ig,?_⟩;rw[hr];refine hc.mono λe w' a=>?_
 cases e with
 |returned v=>exact h v w' a
 |panicked c=>exact hp c w' a
 |outgrown=>exact a
theorem wN {ops:Array Oper} {rest:List Oper} {o:Oper} (hg:o.guard=none) {f:FuncId} {vl:List Value} {A:Value->World->Prop} {B:List PanicEntry->World->Prop} (hr:(execOp (ev ρ) o).run P w= .ok (.enter f vl.toArray) w)
 (hc:Calls P f vl.toArray w (ul A B)) (hp:∀ c w',B c w'->Q (.panic c) ρ w') (h:∀ v w',A v w'->WR md P n ops rest Q (qD ρ o.dst v) w'):WR md P n ops (o::rest) Q ρ w:=CB hg (Hy hr hc hp h)
def pe(v:Value):List PanicEntry:=[{v,recovered:=false}]
theorem zpC{ops:Array Oper}{rest:List Oper}{d:Option Nat}{x:Operand}{ty:TypeId}{pos:String}{af:Array Edge}{t:TypeId}{v:Value}(hx:ev ρ x= .iface t v)(h:Q (.panic (pe (.iface t v))) ρ w):WR md P n ops (⟨d, .panic x,ty,pos,af,none⟩::rest) Q ρ w:=by
 refine CB rfl ⟨ig,?_⟩;have hr:(execOp (ev ρ) ⟨d, .panic x,ty,pos,af,none⟩).run P w= .halt (.panic (.iface t v)) w:=by
  simp only[execOp,hx]
  rfl
 rw[hr];exact h
def Bc(P:Program)(rs:List ResultVar)(A:Value->World->Prop)(B:List PanicEntry->World->Prop)(ρ:Env):List Dm->FrameMode->World->Prop
 |[], .returning,w=>∃ vs,xA P w ρ rs vs/\A (pack vs) w
 |[], .panicking c,w=>B c w
 |[], .run,_=>False
 | .m D::ms,u,w=>u≠ .run/\w.heap[D]?=some (.deferred (some []))/\Bc P rs A B ρ ms u (w.putObj D (.deferred none))
 | .fn g cap args::ms,u,w=>u≠ .run/\vC P g=true/\CallsDIn Fence.wide 8 P g (args++cap).toArray u w fun
  | .returned _,a,w'=>Bc P rs A B ρ ms (settle a) w'
  | .panicked c,a,w'=>Bc P rs A B ρ ms (raised a c) w'
  | .outgrown,_,_=>False
def MV(P:Program)(rs:List ResultVar)(A:Value->World->Prop)(B:List PanicEntry->World->Prop):Post
 | .normal,ρ,w=>Bc P rs A B ρ ρ.ms .returning w
 | .ret,ρ,w=>Bc P rs A B ρ ρ.ms .returning w
 | .panic c,ρ,w=>Bc P rs A B ρ ρ.ms (.panicking c) w
 |_,_,_=>False
theorem CO{g:Nat}{vl:List Value}(h:vC P g=true):(callFunc g vl.toArray).run P w= .ok (.enter g vl.toArray) w:=by
 unfold vC at h;cases hfn:P.funcs[g]? with
 |none=>simp[hfn]at h
 |some f=>
  rw[hfn]at h;simp only[aN,ed]at h;cases hb:f.body with
  |none=>simp[hb]at h
  |some c=>
   have a:¬f.name= "runtime.NumGoroutine" :=by simpa using h.1
   simp[callFunc,program,Sem.run,hfn,a,hb,Result.andThen]
theorem xg {f:FuncId} {fn:Func} {c:Code} {rs:List ResultVar} {args:List Value} {A:Value->World->Prop} {B:List PanicEntry->World->Prop}
  (hf:P.funcs[f]?=some fn) (hb:fn.body=some c) (hr:fn.results=rs.toArray) (hn:fn.ntmps=n) (hok:codeOk n c=true) (hl:Nat.ble args.length n=true)
  (h:W (λrd=>rd=none) P n c (MV P rs A B) (Ib args) w):Calls P f args.toArray w (ul A B):=by
 have s:args.length<=n:=iG hl;refine(callsIn_wide (n:=9)).1 (callsIn_of_wp_marks hf hb trivial ?_ rfl);have t:=Sz (n:=n) args fn.ntmps hn s;refine wpIn_mono (h hok none _ rfl t) ?_;rintro e p w' ⟨y,q,a⟩;have key:∀ (j:List Dm) (u:FrameMode) (w:World),Bc P rs A B y j u w->LeavesInM Fence.wide 9 P fn p.tmps (ul A B) (j.map Dm.d) u w:=by
  intro j
  induction j with
  |nil=>
   intro u w f;cases u with
   |run=>exact f.elim
   |returning=>
    obtain⟨vs,k,o⟩:=f;exact⟨_,Og hr q.t k,o⟩
   |panicking ch=>exact f
  |cons D j ih=>
   intro u w f;cases D with
   |m D=>
    obtain⟨a,k,o⟩:=f;exact⟨a, .inl ⟨D,_,rfl,run_takeDeferred k,ih _ _ o⟩⟩
   |fn g cap args=>
    obtain⟨a,k,o⟩:=f;refine⟨a, .inr ⟨(λz=>nomatch z),_,_,g,(args++cap).toArray,rfl,?_,λ_ _=>trivial,o.mono ?_⟩⟩
    .have e:args.toArray++cap.toArray=(args++cap).toArray:=by simp
     simp only[Dm.d,invoke,e];exact CO k
    .intro e C w' r
     cases e with
     |returned v=>exact ih _ _ r
     |panicked c=>exact ih _ _ r
     |outgrown=>exact r.elim
 cases e with
 |normal=>show LeavesInM _ _ _ _ _ _ p.defers _ _;rw[q.d];exact key _ _ _ a
 |ret=>show LeavesInM _ _ _ _ _ _ p.defers _ _;rw[q.d];exact key _ _ _ a
 |exit i=>exact a.elim
 |goto l=>exact a.elim
 |panic c=>show LeavesInM _ _ _ _ _ _ p.defers _ _;rw[q.d];exact key _ _ _ a
 |outgrown=>exact a.elim
theorem FQ{rs:List ResultVar}{A:Value->World->Prop}{B:List PanicEntry->World->Prop}(vs:List Value)(h:xA P w ρ rs vs)(hR:A (pack vs) w)(hm:ρ.ms=[]:=by rfl):MV P rs A B .normal ρ w:=by
 show Bc P rs A B ρ ρ.ms _ w;rw[hm];exact⟨vs,h,hR⟩
theorem wY{rs:List ResultVar}{A:Value->World->Prop}{B:List PanicEntry->World->Prop}{c:List PanicEntry}(hR:B c w)(hm:ρ.ms=[]:=by rfl):MV P rs A B (.panic c) ρ w:=by
 show Bc P rs A B ρ ρ.ms _ w;rw[hm];exact hR
theorem WV {ops:Array Oper} {rest:List Oper} {x:Operand} {al:List Operand} {vl cl:List Value} {ats:Array Nat} {ty:TypeId} {pos:String} {af:Array Edge} {g:Nat} (hmd:∀ rd,md rd->rd=none)
  (hx:ev ρ x= .func (.func g) #[] cl.toArray) (hv:al.map (ev ρ)=vl) (h:WR md P n ops rest Q ⟨ρ.f, .fn g cl vl::ρ.ms⟩ w):WR md P n ops (⟨none, .defer ⟨.value x,al.toArray,ats⟩,ty,pos,af,none⟩::rest) Q ρ w:=by
 intro e rd a i c;obtain rfl:=hmd rd i;simp only[gu,aN]at e;refine wpListIn_plain rfl λK' j=>?_
 refine⟨λf _=>JN none f,?_⟩;have k:al.toArray.map (ev ρ)=vl.toArray:=by rw[<-hv];simp
 have hr:(execOp (ev ρ) ⟨none, .defer ⟨.value x,al.toArray,ats⟩,ty,pos,af,none⟩).run P w= .ok (.defer (Dm.d (.fn g cl vl))) w:=by
  simp only[execOp,resolve,k,hx,Deferred.ofValue,Dm.d];simp[Result.andThen,Sem.run_bind,Sem.run_pure]
 show Oper.uponIn _ _ _ _ _ _ _ ((Oper.semAt (fr none).round a.eval _).run P w);rw[J_,Oper.semAt_none,c.ev,hr,Oper.uponIn_defer];exact j _ _<|h e.2 none _ i ⟨by simp[Act.put,c.d],c.s,c.t⟩
def DW(P:Program)(rs:List ResultVar)(A:Value->World->Prop):Post
 | .normal,ρ,w=>ρ.ms=[]/\∃ vs,xA P w ρ rs vs/\A (pack vs) w
 | .ret,ρ,w=>ρ.ms=[]/\∃ vs,xA P w ρ rs vs/\A (pack vs) w
 |_,_,_=>False
theorem Te{rs:List ResultVar}{A:Value->World->Prop}(vs:List Value)(h:xA P w ρ rs vs)(hR:A (pack vs) w)(hm:ρ.ms=[]:=by rfl):DW P rs A .normal ρ w:=⟨hm,vs,h,hR⟩
theorem G_ {f:FuncId} {fn:Func} {id d e:Nat} {ats:Array Nat} {ty1 ty2:TypeId} {pos1 pos2:String} {af1 af2:Array Edge} {rest:Code} {rs:List ResultVar} {args:List Value} {A:Value->World->Prop} {u u2:FrameMode} {x:Value}
  (hf:P.funcs[f]?=some fn) (hb:fn.body=some (.seq (.region id #[⟨some d, .call ⟨.builtin .recover,#[],ats⟩,ty1,pos1,af1,none⟩,⟨some e, .assign (.tmp d),ty2,pos2,af2,none⟩] false) rest)) (hr:fn.results=rs.toArray) (hn:fn.ntmps=n)
  (hok:codeOk n rest=true) (hd:Nat.blt d n=true) (he:Nat.blt e n=true) (hl:Nat.ble args.length n=true)
  (hu:∀ (c₀:Frame) (cs:List Frame),c₀.mode=u->recoverD (c₀::cs)=some (x,{c₀ with mode:=u2}::cs)\/(recoverD (c₀::cs)=none/\u2=u/\x= .nilIface))
  (h:W (λrd=>rd=none) P n rest (DW P rs A) (up (up (Ib args) d x) e x) w):CallsDIn Fence.wide 8 P f args.toArray u w (λen u' w'=>u'=u2/\qb A en w'):=by
 have I:args.length<=n:=iG hl;have y:=Sz (n:=n) args fn.ntmps hn I;refine callsDIn_of_wpSIn hf hb trivial λc₀ cs D=>wpSIn_seq (wpSIn_region ?_)
 have E:∀ (o:List Frame),o={c₀ with mode:=u2}::cs->∀ r,Ag n r (up (up (Ib args) d x) e x)->rest.wpSIn Fence.wide 8 P (bodyPostS P fn c₀ cs λen u' w'=>u'=u2/\qb A en w') r o w:=by
  rintro o rfl r J;refine wpSIn_of_wpIn rfl ?_;have K:=h hok none r rfl J;have L:rest.wpIn Fence.wide 8 P (lift n (DW P rs A)) r w:=λb k cs M hb hr=>K b k cs M hb (room_wide _)
  refine wpIn_mono L ?_;rintro en a3 w2 ⟨a4,p,q⟩;cases en with
  |normal=>
   obtain⟨z,vs,B,C⟩:=q;exact⟨by rw[p.d,z];rfl,u2,rfl,_,Og hr p.t B,rfl,_,rfl,C⟩
  |ret=>
   obtain⟨z,vs,B,C⟩:=q;exact⟨by rw[p.d,z];rfl,u2,rfl,_,Og hr p.t B,rfl,_,rfl,C⟩
  |exit i=>exact q.elim
  |goto l=>exact q.elim
  |panic c=>exact q.elim
  |outgrown=>exact q.elim
 have F:d<n:=by simpa using hd
 have N:e<n:=by simpa using he
 generalize ({tmps:=args.toArray++Array.replicate (fn.ntmps - args.toArray.size) undef,defers:=[]}:Act)=a at y |-;have G:∀ v,Ag n ((a.put (some d) v).put (some e) v) (up (up (Ib args) d v) e v):=λv=>
  (y.put (some d) (λk s=>by cases s;exact F) v).put (some e) (λk s=>by cases s;exact N) v
 have O:∀ v,(a.put (some d) v).eval (.tmp d)=v:=λv=>by
  have p:=(y.put (some d) (λk s=>by cases s;exact F) v).t d;show(a.put (some d) v).tmps.getD d undef=v;rw[p];exact Je _ _ _
 have Q:(execOp a.eval ⟨some d, .call ⟨.builtin .recover,#[],ats⟩,ty1,pos1,af1,none⟩).run P w= .ok .recover w:=rfl;have R:∀ v,(execOp (a.put (some d) v).eval ⟨some e, .assign (.tmp d),ty2,pos2,af2,none⟩).run P w= .ok (.value v) w:=λv=>by
  show Result.ok (Next.value ((a.put (some d) v).eval (.tmp d))) w=_;rw[O]
 have key:∀ (g m:Oper),Region.wanted g (λj=>yielded #[g,m] a.tmps j)=true->(∀ v,Region.wanted m (λj=>yielded #[g,m] (a.put (some d) v).tmps j)=true)->g.dst=some d->m.dst=some e->
   (execOp a.eval g).run P w= .ok .recover w->(∀ v,(execOp (a.put (some d) v).eval m).run P w= .ok (.value v) w)->
   wpOpsSIn Fence.wide 8 P #[g,m] (Exit.thenS (rest.wpSIn Fence.wide 8 P (bodyPostS P fn c₀ cs λen u' w'=>u'=u2/\qb A en w')) (bodyPostS P fn c₀ cs λen u' w'=>u'=u2/\qb A en w')) [0,1] a (c₀::cs) w:=by
  intro g m w1 w2 S T U V;have X:(#[g,m]:Array Oper)[0]?=some g:=rfl;have Y:(#[g,m]:Array Oper)[1]?=some m:=rfl;simp only[wpOpsSIn,X,Y];refine⟨λ_ _=>trivial,?_⟩;have Z:Region.wanted g (yielded #[g,m] a.tmps)=true:=w1;simp only[Z,if_true,U];have H:∀ v o,rest.wpSIn Fence.wide 8 P (bodyPostS P fn c₀ cs λen u' w'=>u'=u2/\qb A en w') ((a.put (some d) v).put (some e) v) o w->
    (∀ f,m.about P w (a.put g.dst v).eval=some f->Fence.wide.fn f)/\(if Region.wanted m (yielded #[g,m] (a.put g.dst v).tmps)=true then
     (match (execOp (a.put g.dst v).eval m).run P w with
     | .ok .recover w'=>
      (match recoverD o with
      |some (v',cs'')=>Exit.thenS (rest.wpSIn Fence.wide 8 P (bodyPostS P fn c₀ cs λen u' w'=>u'=u2/\qb A en w')) (bodyPostS P fn c₀ cs λen u' w'=>u'=u2/\qb A en w') .normal ((a.put g.dst v).put m.dst v') cs'' w'
      |none=>Exit.thenS (rest.wpSIn Fence.wide 8 P (bodyPostS P fn c₀ cs λen u' w'=>u'=u2/\qb A en w')) (bodyPostS P fn c₀ cs λen u' w'=>u'=u2/\qb A en w') .normal ((a.put g.dst v).put m.dst .nilIface) o w')
     | .ok (.value v') w'=>Exit.thenS (rest.wpSIn Fence.wide 8 P (bodyPostS P fn c₀ cs λen u' w'=>u'=u2/\qb A en w')) (bodyPostS P fn c₀ cs λen u' w'=>u'=u2/\qb A en w') .normal ((a.put g.dst v).put m.dst v') o w'
     | .ok .skip w'=>Exit.thenS (rest.wpSIn Fence.wide 8 P (bodyPostS P fn c₀ cs λen u' w'=>u'=u2/\qb A en w')) (bodyPostS P fn c₀ cs λen u' w'=>u'=u2/\qb A en w') .normal ((a.put g.dst v).put m.dst undef) o w'
     | .halt (.panic v') w'=>Exit.thenS (rest.wpSIn Fence.wide 8 P (bodyPostS P fn c₀ cs λen u' w'=>u'=u2/\qb A en w')) (bodyPostS P fn c₀ cs λen u' w'=>u'=u2/\qb A en w') (.panic [{v:=v',recovered:=false}]) (a.put g.dst v) o w'
     |_=>False)
     else Exit.thenS (rest.wpSIn Fence.wide 8 P (bodyPostS P fn c₀ cs λen u' w'=>u'=u2/\qb A en w')) (bodyPostS P fn c₀ cs λen u' w'=>u'=u2/\qb A en w') .normal ((a.put g.dst v).put m.dst undef) o w):=by
   intro v o a0;refine⟨λ_ _=>trivial,?_⟩;have a1:Region.wanted m (yielded #[g,m] (a.put (some d) v).tmps)=true:=w2 v;rw[S];simp only[a1,if_true,V,T];exact a0
  rcases hu c₀ cs D with u|⟨u,rfl,rfl⟩
  .simp only[u]
   exact H _ _<|E _ rfl _<|G _
  .simp only[u]
   have a2:∀ u2,c₀.mode=u2->c₀::cs={c₀ with mode:=u2}::cs:=λu2 h=>by subst h;rfl
   have t:=H .nilIface (c₀::cs) (E (c₀::cs) (a2 _ D) _ (G _));simp only[u]at t;exact t
 exact key _ _ rfl (λ_=>rfl) rfl rfl Q R
theorem Ep(v:Value)(c₀:Frame)(cs:List Frame)(h:c₀.mode= .panicking (pe v)):recoverD (c₀::cs)=some (v,{c₀ with mode:=.panicking [{v,recovered:=true}]}::cs):=by
 simp only[recoverD,h,pe]
theorem Cn(c₀:Frame)(cs:List Frame)(h:c₀.mode= .returning):recoverD (c₀::cs)=none:=by
 simp only[recoverD,h]
end
def zV(P:Program)(gf:Nat)(lb:List Value)(xs:List (List Value))(ks:List Nat)(X:VE)(lo:Nat)(w:World):Prop:=
 ∀ {α:Type} (Y:VE) [nz Y] (E:α->List Nat) (l:Nat) (J:Nat->α->World->Prop) (Jx:World->Prop) (W:World) (L:List Nat),
  (∀ b∈ks,b∈L/\W.heap[b]?=w.heap[b]?)->(∀ k a W W',J k a W->nC lo (E a++L) W W'->J k a W')->(∀ W W',Jx W->VD W W'->Jx W')->(∀ k a W,J k a W->∀ b∈E a,b∉ks)->
  (∀ k v a W1 c,xs[k]?=some v->(∀ b∈c,b∈ks\/W.heap.size<=b)->(∀ b∈E a,b∉c)->Two X Y lo (c++(E a++L)) W1->J k a W1->Ny P l v W1 λe W'=>(e= .returned (.bool true)/\(∃ f,Two X Y lo (c++(E f++L)) W'/\J (k+1) f W')/\(∀ b∈c,W'.heap[b]?=W1.heap[b]?)/\W1.heap.size<=W'.heap.size)\/(e= .returned (.bool false)/\Jx W'))->
  ∀ a,Two X Y lo (E a++L) W->J 0 a W->Calls P gf (.func (.yield l) #[] #[]::lb).toArray W (qb λ_ W'=>(∃ f,Two X Y lo (E f++L) W'/\J xs.length f W')\/Jx W')
def DX{τ:Type}(P:Program)(gf:Nat)(lb:List Value)(m:Nat)(V:τ->Nat->List Value->World->List Nat->List Nat->List Nat->Prop)(T0:τ->Nat->World->Prop)(ks:List Nat)(X:VE)(lo:Nat)(w:World):Prop:=
 ∀ {α:Type} (Y:VE) [nz Y] (E:α->List Nat) (l:Nat) (J:τ->Nat->α->World->Prop) (Jx:World->Prop) (W:World) (L:List Nat),
  (∀ b∈ks,b∈L/\W.heap[b]?=w.heap[b]?)->(∀ t k a W W',J t k a W->nC lo (E a++L) W W'->J t k a W')->(∀ W W',Jx W->VD W W'->Jx W')->(∀ t k a W,J t k a W->∀ b∈E a,b∉ks)->
  (∀ t k v a W1 c Fr,k<m->V t k v W1 c Fr (E a)->(∀ b∈c,b∈ks\/W.heap.size<=b)->(∀ b∈Fr,W.heap.size<=b/\b∉c/\b∉E a)->Two X Y lo (Fr++(c++(E a++L))) W1->J t k a W1->Ny P l v W1 λe W'=>(e= .returned (.bool true)/\(∃ f,Two X Y lo (c++(E f++L)) W'/\J t (k+1) f W')/\(∀ b∈c,W'.heap[b]?=W1.heap[b]?)/\W1.heap.size<=W'.heap.size)\/(e= .returned (.bool false)/\Jx W'))->
  ∀ a,Two X Y lo (E a++L) W->(∀ t W',T0 t W.heap.size W'->nC lo (E a++L) W W'->J t 0 a W')->Calls P gf (.func (.yield l) #[] #[]::lb).toArray W (qb λ_ W'=>(∃ t f,Two X Y lo (E f++L) W'/\J t m f W')\/Jx W')
def CX{τ:Type}(P:Program)(gf:Nat)(lb:List Value)(m:Nat)(V:τ->Nat->List Value->World->List Nat->List Nat->Prop)(T0:τ->Nat->World->Prop)(ks:List Nat)(X:VE)(lo:Nat)(w:World):Prop:=
 ∀ {α:Type} (Y:VE) [nz Y] (E:α->List Nat) (l:Nat) (J:τ->Nat->α->World->Prop) (Jx:World->Prop) (W:World) (L:List Nat),
  (∀ b∈ks,b∈L/\W.heap[b]?=w.heap[b]?)->(∀ t k a W W',J t k a W->nC lo (E a++L) W W'->J t k a W')->(∀ W W',Jx W->VD W W'->Jx W')->(∀ t k a W,J t k a W->∀ b∈E a,b∉ks)->
  (∀ t k v a W1 c,k<m->V t k v W1 c (E a)->(∀ b∈c,b∈ks\/W.heap.size<=b)->Two X Y lo (c++(E a++L)) W1->J t k a W1->Ny P l v W1 λe W'=>(e= .returned (.bool true)/\(∃ f,Two X Y lo (c++(E f++L)) W'/\J t (k+1) f W')/\(∀ b∈c,W'.heap[b]?=W1.heap[b]?)/\W1.heap.size<=W'.heap.size)\/(e= .returned (.bool false)/\Jx W'))->
  ∀ a,Two X Y lo (E a++L) W->(∀ t W',T0 t W.heap.size W'->nC lo (E a++L) W W'->J t 0 a W')->Calls P gf (.func (.yield l) #[] #[]::lb).toArray W (qb λ_ W'=>(∃ t f,Two X Y lo (E f++L) W'/\J t m f W')\/Jx W')
theorem zV.v{P:Program}{gf:Nat}{lb:List Value}{xs:List (List Value)}{ks:List Nat}{X:VE}{lo:Nat}{w:World}(h:zV P gf lb xs ks X lo w):CX (τ:=Unit) P gf lb xs.length (λ_ k v _ Lx Ea=>xs[k]?=some v/\∀ b∈Ea,b∉Lx) (λ_ _ _=>True) ks X lo w:=
 λY _ E l J Jx W L f g i j m a c o=>(h Y E l (J ()) Jx W L f (g ()) i (j ()) (λk v a W1 Lx e p q c r=>m () k v a W1 Lx (aL.1 e).1 ⟨e,q⟩ p c r) a c (o () W trivial (nC.refl _ _ _))).to λ_ W' h=>h.imp (fun⟨s,h⟩=>⟨(),s,h⟩) id
theorem CX.w{τ:Type}{P:Program}{gf:Nat}{lb:List Value}{m:Nat}{V:τ->Nat->List Value->World->List Nat->List Nat->Prop}{T0:τ->Nat->World->Prop}{ks:List Nat}{X:VE}{lo:Nat}{w:World}(h:CX P gf lb m V T0 ks X lo w):DX P gf lb m (λt k v W Lx Fr Ea=>Fr=[]/\V t k v W Lx Ea) T0 ks X lo w:=
 λY _ E l J Jx W L e f g i j a c m=>h Y E l J Jx W L e f g i (λt k v a W1 Lx o p q c r=>j t k v a W1 Lx [] o ⟨rfl,p⟩ q ig c r) a c m
theorem zhA{lo n b:Nat}{L:List Nat}(h1:lo<=b)(h2:b∉L)(h3:b<n):b∈EO lo L n:=dU.2 ⟨bZ.2 h3,decide_eq_true λa=>a.elim (λa=>dB) h2⟩
theorem EA{w:World}{D:Nat}(o:Obj):Only D w (w.putObj D o):=⟨rfl,rfl,rfl,ig,λ_ a=>World.putObj_heap_other a⟩
theorem Two.Dc{X Y:VE}[hX:nz X][hY:nz Y]{lo:Nat}{L M:List Nat}{w w':World}(h:Two X Y lo L w)(hb:VD w w')(hM:∀ b∈M,w.heap.size<=b/\b<w'.heap.size):Two X Y lo (M++L) w':=by
 obtain⟨⟨B,C,e,f,c,g⟩,i,j⟩:=h;refine⟨⟨B,C,hX.nD e (M:=[]) (Kp.of_below hb) ig,hY.nD f (M:=[]) (Kp.of_below hb) ig,λb hb=>⟨(c b hb).1,(c b hb).2.1,λa=>?_⟩,λb hb=>⟨(g b hb).1,λa=>?_⟩⟩,ag i hb.size,λb a=>?_⟩
 .rcases ay.1 a with a|a
  .have:=hX.lt e b hb;have:=(hM b a).1;omega
  .exact(c b hb).2.2 a
 .rcases ay.1 a with a|a
  .have:=hY.lt f b hb;have:=(hM b a).1;omega
  .exact(g b hb).2 a
 .rcases ay.1 a with a|a
  .exact(hM b a).2
  .exact ae (j b a) hb.size
theorem Two.Mg{X Y:VE}[hX:nz X][hY:nz Y]{lo base e sz m:Nat}{L:List Nat}{w w':World}{u v:Value}{xs:List Value}(h:Two X Y lo L w)(hu:∀ b∈u.ownBlock.toList,b∈L)(hg:w.grownBy w' u.ownBlock)(hf:∀ b,v.ownBlock=some b->u.ownBlock=some b\/w.heap.size<=b)(hv:og w' base e sz v m xs):Two X Y lo (v.ownBlock.toList++L) w':=by
 have f:=Kp.rU hg;obtain⟨⟨B,C,i,j,c,g⟩,k,l⟩:=h;refine⟨⟨B,C,hX.nD i f λb hb a=>(c b hb).2.2 (hu b a),hY.nD j f λb hb a=>(g b hb).2 (hu b a),λb hb=>⟨(c b hb).1,(c b hb).2.1,λa=>?_⟩,λb hb=>⟨(g b hb).1,λa=>?_⟩⟩,ag k f.size,λb a=>?_⟩
 .rcases ay.1 a with a|a
  .rcases hf b (ah.1 a)with e|e
   .exact(c b hb).2.2 (hu b (ah.2 e))
   .have:=hX.lt i b hb;omega
  .exact(c b hb).2.2 a
 .rcases ay.1 a with a|a
  .rcases hf b (ah.1 a)with e|e
   .exact(g b hb).2 (hu b (ah.2 e))
   .have:=hY.lt j b hb;omega
  .exact(g b hb).2 a
 .rcases ay.1 a with a|a
  .exact(hv.lt b (ah.1 a)).2
  .exact ae (l b a) f.size
structure AP(w:World)(D:Nat):Prop where
 d:w.heap[D]?=some (.deferred (some []))
namespace AP
variable {w w':World}{D:Nat}
theorem lt(h:AP w D):D<w.heap.size:=(aX.1 h.d).1
theorem nD{M:List Nat}(h:AP w D)(k:Kp M w w')(hM:D∉M):AP w' D:=⟨(k.block D h.lt hM).trans h.d⟩
theorem new(h:AP w D)(hb:VD w w'):AP w' D:=⟨(hb.block D h.lt).trans h.d⟩
theorem only{g:Nat}(h:AP w D)(ho:Only g w w')(hg:D≠g):AP w' D:=⟨(ho.block D hg).trans h.d⟩
end AP
def DF{α:Type}(lw:Nat)(ds:List Nat)(lo:Nat)(L Lx:List Nat)(X Y:VE)(E:α->List Nat)(I:Nat->α->World->Prop)(Ix:Code->World->Prop)(k:Nat)(W2:World):Post
 | .normal,_,W'=>nC lo (lw::(ds++Lx)) W2 W'/\∃ a,Two X Y lo (Lx++(E a++lw::(ds++L))) W'/\I (k+1) a W'
 | .ret,_,W'=>nC lo (lw::(ds++Lx)) W2 W'/\Ix .ret W'
 | .exit id,_,W'=>nC lo (lw::(ds++Lx)) W2 W'/\Ix (.exit id) W'
 |_,_,_=>False
def XG(P:Program)(w:World)(lw:Nat)(ds:List Nat)(rd:Option Nat):Prop:=∃ dfr,∀ (fn:FuncId) (tmps:Array Value) (ps:Array Tmp) (assign body:Code),∃ W1,
 (Instr.enterLoop fn tmps ps assign body rd).run P w= .ok (lw,ds.map SB) W1/\W1.heap[lw]?=some (.loop {state:=.ready,pending:=none,fn,tmps,params:=ps,assign,body,defers:=dfr})/\
 (∀ D∈ds,W1.heap[D]?=some (.deferred (some [])))/\VD w W1/\W1.heap.size=lw+1/\(∀ b∈lw::ds,w.heap.size<=b/\b<lw+1)/\lw∉ds
theorem RX(P:Program)(w:World):XG P w (w.heap.size+1) [w.heap.size] none:=by
 refine⟨w.heap.size,λfn tmps ps assign body=>⟨_,run_enterLoop_outer _ _ _ _ _,?_,λD a=>?_,?_,ig,(λb hb=>by simp only[ak,bq,or_false]at hb;omega),ig⟩⟩
 .have:=World.alloc_heap_new (w.alloc (.deferred (some []))) (.loop {state:=.ready,pending:=none,fn,tmps,params:=ps,assign,body,defers:=w.heap.size});rwa [World.size_alloc]at this
 .rw[aJ.1 a]
  exact(Below.heap_alloc _ _ _ ig).trans (World.alloc_heap_new w _)
 .exact((Below.refl _ w).alloc (ax _) _).alloc ig _
theorem zuR{A L:List Nat}{a:Nat}:∀ i∈A++L,i∈A++a::L:=λi a=>by
 simp only[ay,ak]at a |-;exact a.imp id .inr
section
variable {md:Option Nat->Prop}{P:Program}{n:Nat}{Q:Post}{ρ:Env}{w:World}
theorem XA {g:Operand} {ps:List Nat} {assign body:Code} {gf:Nat} {lb:List Value} {m:Nat} {τ:Type} {V:τ->Nat->List Value->World->List Nat->List Nat->List Nat->Prop} {T0:τ->Nat->World->Prop} {ks L:List Nat} {X:VE} {lo:Nat} {α:Type} {Y:VE} [hX:nz X] [hYT:nz Y] (E:α->List Nat) (lw:Nat) (ds:List Nat)
  (hmd:∀ rd,md rd->XG P w lw ds rd) (hg:ev ρ g= .func (.func gf) #[] lb.toArray) (hcan:vC P gf=true) (hseq:DX P gf lb m V T0 ks X lo w) (hps:∀ t k v W Lx Fr Ea,V t k v W Lx Fr Ea->v.length=ps.length) (hpn:ps.all (Nat.blt · n)=true) (hnd:ps.Nodup)
  (hks:∀ b∈ks,b∈L) (I:τ->Nat->α->World->Prop) (Ix:Code->World->Prop)
  (hI:∀ t k a W W',I t k a W->nC lo (E a++lw::(ds++L)) W W'->I t k a W') (hIo:∀ t k a W W',I t k a W->Only lw W W'->I t k a W')
  (hIx:∀ c W W',Ix c W->VD W W'->Ix c W') (hIxo:∀ c W W',Ix c W->Only lw W W'->Ix c W') (hE:∀ t k a W,I t k a W->∀ b∈E a,b∉ks) (a0:α) (hT0:Two X Y lo (E a0++L) w) (h0:∀ t W',T0 t (lw+1) W'->nC lo (E a0++lw::(ds++L)) w W'->I t 0 a0 W')
  (round:∀ t k v a W1 Lx Fr,k<m->V t k v W1 Lx Fr (E a)->(∀ b∈Lx,b∈ks\/lw<b)->(∀ b∈Fr,lw<b/\b∉Lx/\b∉E a)->Two X Y lo (Fr++(Lx++(E a++lw::(ds++L)))) W1->I t k a W1->lw<W1.heap.size->W (λrd=>rd=some lw) P n assign
   (λe ρ' W'=>e= .normal/\VD W1 W'/\∀ W2,Only lw W' W2->(∃ r,W2.heap[lw]?=some (.loop r))->W (λrd=>rd=some lw) P n body (DF lw ds lo L Lx X Y E (I t) Ix k W2) ρ' W2) (zy ρ.f ps v) W1)
  (hdone:∀ t a W,Two X Y lo (E a++(ds++L)) W->I t m a W->(∀ D∈ds,W.heap[D]?=some (.deferred (some [])))->Q .normal ⟨ρ.f,ds.map Dm.m++ρ.ms⟩ W)
  (hstop:∀ c W',Ix c W'->(∀ D∈ds,W'.heap[D]?=some (.deferred (some [])))->codeOk n c=true/\W md P n c Q ⟨ρ.f,ds.map Dm.m++ρ.ms⟩ W'):
  W md P n (.rangeFunc g ps.toArray assign body) Q ρ w:=by
 intro T rd a a4 q;obtain⟨c4,c5⟩:=hmd rd a4;simp only[codeOk,aN]at T;have c6:∀ p,p∈ps->p<n:=λp hp=>by have:=dC.1 hpn p hp;simpa using this
 refine wpIn_rangeFunc ?_;intro fn e9;obtain⟨W1,c7,N,a5,U,a6,c8,c9⟩:=c5 fn a.tmps ps.toArray assign body;obtain⟨h,r⟩:∃ h:LoopState->Option Code->Loop,h=λst pe=>{state:=st,pending:=pe,fn,tmps:=a.tmps,params:=ps.toArray,assign,body,defers:=c4}:=⟨_,rfl⟩
 replace N:W1.heap[lw]?=some (.loop (h .ready none)):=by rw[r];exact N
 have a7:∀ b∈lw::ds,w.heap.size<=b/\b<W1.heap.size:=λb hb=>by rw[a6];exact c8 b hb
 have d0:Two X Y lo (E a0++lw::(ds++L)) W1:=(hT0.Dc U a7).weak λb hb=>by
  simp only[ay,ak]at hb |-;rcases hb with l|l|l|l
  .exact .inr<|.inl l
  .exact .inl<|.inl l
  .exact .inl<|.inr l
  .exact .inr<|.inr l
 have d1:nC lo (E a0++lw::(ds++L)) w W1:=nC.of_below U;have a8:∀ b∈L,b<w.heap.size:=λb hb=>hT0.lt b jX
 have d2:a.eval g= .func (.func gf) #[] lb.toArray:=by rw[q.ev];exact hg
 have O:∀ D∈ds,D≠lw:=λD f e=>c9 (e▸f)
 refine⟨lw,ds.map SB,W1,{target:=.fn (.func gf) lb.toArray,args:=#[.func (.yield lw) #[] #[]]},W1,gf,(.func (.yield lw) #[] #[]::lb).toArray,W1,?_,?_,λd3 _=>JN rd d3,?_,λa9=>by(rw[NS]at a9;cases a9),?_⟩
 .rw[J_];exact c7
 .simp only[resolve,rangeCall,d2]
  simp[Deferred.ofValue,Act.eval]
 .have e:#[Value.func (.yield lw) #[] #[]]++lb.toArray=(.func (.yield lw) #[] #[]::lb).toArray:=by simp
  simp only[invoke,e];exact CO hcan
 .refine TN ((hseq Y E lw (λt k a W=>I t k a W/\W.heap[lw]?=some (.loop (h .ready none))/\(∀ D∈ds,W.heap[D]?=some (.deferred (some []))))
   (λW=>∃ c,Ix c W/\W.heap[lw]?=some (.loop (h .done (some c)))/\(∀ D∈ds,W.heap[D]?=some (.deferred (some [])))) W1 (lw::(ds++L)) ?_ ?_ ?_ ?_ ?_ a0 d0 (λt W' d4 m=>⟨h0 t W' (by rw[<-a6];exact d4) (d1.ll m λ_ l=>l),by rw[m.block _ (aX.1 N).1 (.inr ig)];exact N,λD f=>by rw[m.block _ (aX.1 (a5 D f)).1 (.inr lh)];exact a5 D f⟩)).mono ?_)
  .intro b hb
   exact⟨by simp[hks b hb],U.block b (a8 b (hks b hb))⟩
  .rintro t k a A B ⟨i,o,y⟩ z
   exact⟨hI t k a A B i z,by rw[z.block _ (aX.1 o).1 (.inr ig)];exact o,λD f=>by rw[z.block _ (aX.1 (y D f)).1 (.inr lh)];exact y D f⟩
  .rintro A B ⟨c,i,o,y⟩ z
   exact⟨c,hIx c A B i z,by rw[z.block _ (aX.1 o).1];exact o,λD f=>by rw[z.block _ (aX.1 (y D f)).1];exact y D f⟩
  .rintro t k a A ⟨i,_⟩;exact hE t k a A i
  .rintro t k v d5 W Lx Fr d6 b0 b1 b2 Q ⟨H,m,G⟩
   have b3:lw<W.heap.size:=(aX.1 m).1;have d7:=hps t k v W Lx Fr _ b0;have V:=run_yield (P:=P) (args:=v.toArray) m (by rw[r];simpa using d7);rw[r]at V;refine⟨fn,_,assign,body,V,?_⟩;clear V;refine roundIn_of_wpIn (F:=Fence.wide) (n:=0) trivial ?_;have d8:Ag n {tmps:=(ps.toArray.zip v.toArray).foldl (λt (p,u)=>t.setIfInBounds p u) a.tmps,defers:=[]} (zy ρ.f ps v):=by
    have:=zrm q ps v a.tmps q.s q.t c6 hnd;rw[<-ji,Array.toList_zip];exact this
   have d9:=round t k v d5 W Lx Fr d6 b0 (λb hb=>(b1 b hb).imp id λl=>dB) (λb hb=>⟨by have:=(b2 b hb).1;omega,(b2 b hb).2⟩) Q H b3 T.1 (some lw) _ rfl d8;have e0:assign.wpIn (Fence.wide.inRound lw) 0 P _ _ W:=λb Z cs i o y=>d9 b Z cs i o (room_wide _)
   refine wpIn_mono e0 ?_;rintro e b4 Wa ⟨ρ',i,rfl,R,e1⟩;show ∃ w2,_;have b5:Wa.heap[lw]?=some (.loop (h .ready none)):=by rw[R.block _ b3];exact m
   have e2:∀ D∈ds,Wa.heap[D]?=some (.deferred (some [])):=λD f=>by rw[R.block _ (aX.1 (G D f)).1];exact G D f
   have e3:=(aX.1 b5).1;refine⟨_,run_beginRound b5 (by rw[r]),?_⟩;obtain⟨W2,S⟩:∃ W2,W2=Wa.putObj lw (.loop {h .ready none with state:=.busy}):=⟨_,rfl⟩;have a1:W2.heap[lw]?=some (.loop {h .ready none with state:=.busy}):=by rw[S];exact World.putObj_heap_same e3
   have b6:∀ D∈ds,W2.heap[D]?=some (.deferred (some [])):=λD f=>by rw[S];exact(World.putObj_heap_other (O D f)).trans (e2 D f)
   have a2:Only lw Wa W2:=by rw[S];exact EA _
   rw[<-S];have e4:=e1 W2 a2 ⟨_,a1⟩ T.2 (some lw) b4 rfl i;have e5:body.wpIn (Fence.wide.inRound lw) 0 P _ b4 W2:=λb Z cs i o y=>e4 b Z cs i o (room_wide _)
   refine wpIn_mono e5 ?_;have fin:∀ (j:Option Code) (W3:World),nC lo (lw::(ds++Lx)) W2 W3->
     (Instr.endRound lw j).run P W3= .ok (.bool j.isNone) (W3.putObj lw (.loop (h (if j.isNone then .ready else .done) j)))/\
     Only lw W3 (W3.putObj lw (.loop (h (if j.isNone then .ready else .done) j)))/\
     (W3.putObj lw (.loop (h (if j.isNone then .ready else .done) j))).heap[lw]?=some (.loop (h (if j.isNone then .ready else .done) j))/\
     (∀ D∈ds,(W3.putObj lw (.loop (h (if j.isNone then .ready else .done) j))).heap[D]?=some (.deferred (some []))):=λj W3 b7=>by
    have b8:W3.heap[lw]?=some (.loop {h .ready none with state:=.busy}):=by rw[b7.block _ (aX.1 a1).1 (.inr ig)];exact a1
    have e6:∀ D∈ds,W3.heap[D]?=some (.deferred (some [])):=λD f=>by rw[b7.block _ (aX.1 (b6 D f)).1 (.inr lh)];exact b6 D f
    have:=run_endRound (P:=P) j b8;rw[r]at this |-;exact⟨this,EA _,World.putObj_heap_same (aX.1 b8).1,λD f=>(World.putObj_heap_other (O D f)).trans (e6 D f)⟩
   rintro e f0 W3 ⟨f1,_,hp⟩;cases e with
   |normal=>
    obtain⟨C,a3,J,e7⟩:=hp;obtain⟨hr,s,K,M⟩:=fin none W3 C;have f2:=R.size;have f3:=C.size;have f4:=a2.size;have f5:=s.size;refine⟨_,_,hr, .inl ⟨rfl,⟨a3,J.only s (.inr ig),hIo _ _ _ _ _ e7 s,K,M⟩,λb hb=>?_,dB⟩⟩;have e8:=Q.lt b jX;have b9:b≠lw:=by
     have i:=a7 lw ig;rcases b1 b hb with l|l
     .have:=a8 b (hks b l);omega
     .omega
    rw[s.block b b9,C.block b dB (.inr jX),a2.block b b9,R.block b e8]
   |ret=>
    obtain⟨C,J⟩:=hp;obtain⟨hr,s,K,M⟩:=fin (some .ret) W3 C;exact⟨_,_,hr, .inr ⟨rfl, .ret,hIxo _ _ _ J s,K,M⟩⟩
   |exit id=>
    obtain⟨C,J⟩:=hp;obtain⟨hr,s,K,M⟩:=fin (some (.exit id)) W3 C;exact⟨_,_,hr, .inr ⟨rfl, .exit id,hIxo _ _ _ J s,K,M⟩⟩
   |goto t=>exact hp.elim
   |panic ch=>exact hp.elim
   |outgrown=>exact hp.elim
  .rintro e W2 ⟨v,rfl,(⟨t,a3,Q,H,m,G⟩|⟨c,H,m,G⟩)⟩
   .refine⟨none,_,by have:=run_endLoop (P:=P) m (by rw[r];simp);rw[r]at this;exact this,?_⟩
    refine⟨⟨ρ.f,ds.map Dm.m++ρ.ms⟩,⟨by simp[q.d,Dm.d,Function.comp_def],q.s,q.t⟩,hdone t a3 _ ((Q.only (EA _) (.inr ig)).weak zuR) (hIo _ _ _ _ _ H (EA _)) (λD f=>(World.putObj_heap_other (O D f)).trans (G D f))⟩
   .refine⟨some c,_,by have:=run_endLoop (P:=P) m (by rw[r];simp);rw[r]at this;exact this,?_⟩
    obtain⟨i,o⟩:=hstop c _ (hIxo _ _ _ H (EA _)) (λD f=>(World.putObj_heap_other (O D f)).trans (G D f));exact o i rd _ a4 ⟨by simp[q.d,Dm.d,Function.comp_def],q.s,q.t⟩
theorem Zo {g:Operand} {ps:List Nat} {assign body:Code} {gf:Nat} {lb:List Value} {m:Nat} {τ:Type} {V:τ->Nat->List Value->World->List Nat->List Nat->Prop} {T0:τ->Nat->World->Prop} {ks L:List Nat} {X:VE} {lo:Nat} {α:Type} {Y:VE} [hX:nz X] [hYT:nz Y] (E:α->List Nat) (lw:Nat) (ds:List Nat)
  (hmd:∀ rd,md rd->XG P w lw ds rd) (hg:ev ρ g= .func (.func gf) #[] lb.toArray) (hcan:vC P gf=true) (hseq:CX P gf lb m V T0 ks X lo w) (hps:∀ t k v W Lx Ea,V t k v W Lx Ea->v.length=ps.length) (hpn:ps.all (Nat.blt · n)=true) (hnd:ps.Nodup)
  (hks:∀ b∈ks,b∈L) (I:τ->Nat->α->World->Prop) (Ix:Code->World->Prop)
  (hI:∀ t k a W W',I t k a W->nC lo (E a++lw::(ds++L)) W W'->I t k a W') (hIo:∀ t k a W W',I t k a W->Only lw W W'->I t k a W')
  (hIx:∀ c W W',Ix c W->VD W W'->Ix c W') (hIxo:∀ c W W',Ix c W->Only lw W W'->Ix c W') (hE:∀ t k a W,I t k a W->∀ b∈E a,b∉ks) (a0:α) (hT0:Two X Y lo (E a0++L) w) (h0:∀ t W',T0 t (lw+1) W'->nC lo (E a0++lw::(ds++L)) w W'->I t 0 a0 W')
  (round:∀ t k v a W1 Lx,k<m->V t k v W1 Lx (E a)->(∀ b∈Lx,b∈ks\/lw<b)->Two X Y lo (Lx++(E a++lw::(ds++L))) W1->I t k a W1->lw<W1.heap.size->W (λrd=>rd=some lw) P n assign
   (λe ρ' W'=>e= .normal/\VD W1 W'/\∀ W2,Only lw W' W2->(∃ r,W2.heap[lw]?=some (.loop r))->W (λrd=>rd=some lw) P n body (DF lw ds lo L Lx X Y E (I t) Ix k W2) ρ' W2) (zy ρ.f ps v) W1)
  (hdone:∀ t a W,Two X Y lo (E a++(ds++L)) W->I t m a W->(∀ D∈ds,W.heap[D]?=some (.deferred (some [])))->Q .normal ⟨ρ.f,ds.map Dm.m++ρ.ms⟩ W)
  (hstop:∀ c W',Ix c W'->(∀ D∈ds,W'.heap[D]?=some (.deferred (some [])))->codeOk n c=true/\W md P n c Q ⟨ρ.f,ds.map Dm.m++ρ.ms⟩ W'):
  W md P n (.rangeFunc g ps.toArray assign body) Q ρ w:=
 XA (V:=λt k v W Lx Fr Ea=>Fr=[]/\V t k v W Lx Ea) (T0:=T0) (X:=X) (Y:=Y) (m:=m) (lo:=lo) (L:=L) E lw ds hmd hg hcan (CX.w hseq) (λt k v W Lx Fr Ea e=>hps t k v W Lx Ea e.2) hpn hnd hks I Ix hI hIo hIx hIxo hE a0 hT0 h0 (λt k v a W1 Lx Fr f c g _ h i j=>by
  obtain⟨rfl,c⟩:=c;exact round t k v a W1 Lx f c g h i j) hdone hstop
def Mo{α:Type}(D lo:Nat)(L Lx:List Nat)(X Y:VE)(E:α->List Nat)(I:Nat->α->World->Prop)(Ix:Code->World->Prop)(k:Nat)(W2:World):Post
 | .normal,_,W'=>nC lo ((D+1)::D::Lx) W2 W'/\∃ a,Two X Y lo (Lx++(E a++(D+1)::D::L)) W'/\I (k+1) a W'
 | .ret,_,W'=>nC lo ((D+1)::D::Lx) W2 W'/\Ix .ret W'
 | .exit id,_,W'=>nC lo ((D+1)::D::Lx) W2 W'/\Ix (.exit id) W'
 |_,_,_=>False
theorem zm1 {g:Operand} {ps:List Nat} {assign body:Code} {gf:Nat} {lb:List Value} {xs:List (List Value)} {ks L:List Nat} {X:VE} {lo:Nat} {α:Type} {Y:VE} [hX:nz X] [hYT:nz Y] (E:α->List Nat) (D:Nat) (hD:w.heap.size=D)
  (hmd:∀ rd,md rd->rd=none) (hg:ev ρ g= .func (.func gf) #[] lb.toArray) (hcan:vC P gf=true) (hseq:zV P gf lb xs ks X lo w) (hps:∀ v,v∈xs->v.length=ps.length) (hpn:ps.all (Nat.blt · n)=true) (hnd:ps.Nodup)
  (hks:∀ b∈ks,b∈L) (I:Nat->α->World->Prop) (Ix:Code->World->Prop)
  (hI:∀ k a W W',I k a W->nC lo (E a++(D+1)::D::L) W W'->I k a W') (hIo:∀ k a W W',I k a W->Only (D+1) W W'->I k a W')
  (hIx:∀ c W W',Ix c W->VD W W'->Ix c W') (hIxo:∀ c W W',Ix c W->Only (D+1) W W'->Ix c W') (hE:∀ k a W,I k a W->∀ b∈E a,b∉ks) (a0:α) (hT0:Two X Y lo (E a0++L) w) (h0:I 0 a0 w)
  (round:∀ l k v a W1 Lx,xs[k]?=some v->(∀ b∈Lx,b∈ks\/D+2<=b)->(∀ b∈E a,b∉Lx)->Two X Y lo (Lx++(E a++(D+1)::D::L)) W1->I k a W1->D+2<=W1.heap.size->W (λrd=>rd=some l) P n assign
   (λe ρ' W'=>e= .normal/\VD W1 W'/\∀ W2,Only (D+1) W' W2->W (λrd=>rd=some l) P n body (Mo D lo L Lx X Y E I Ix k W2) ρ' W2) (zy ρ.f ps v) W1)
  (hdone:∀ a W,Two X Y lo (E a++D::L) W->I xs.length a W->W.heap[D]?=some (.deferred (some []))->Q .normal ⟨ρ.f, .m D::ρ.ms⟩ W)
  (hstop:∀ c W',Ix c W'->W'.heap[D]?=some (.deferred (some []))->codeOk n c=true/\W md P n c Q ⟨ρ.f, .m D::ρ.ms⟩ W'):
  W md P n (.rangeFunc g ps.toArray assign body) Q ρ w:=by
 subst hD;refine Zo (τ:=Unit) (V:=λ_ k v _ Lx j=>xs[k]?=some v/\∀ b∈j,b∉Lx) (T0:=λ_ _ _=>True) E (w.heap.size+1) [w.heap.size] (λrd g=>by rw[hmd rd g];exact RX P w) hg hcan (zV.v hseq) (λ_ k v _ _ _ g=>hps v (aO g.1)) hpn hnd hks (λ_=>I) Ix (λ_=>hI) (λ_=>hIo) hIx hIxo (λ_=>hE) a0 hT0 (λ_ W' _ l=>hI 0 a0 w W' h0 l)
  (λ_ k v a W1 Lx _ i m o p q=>?_) (λ_ a W e f h=>hdone a W e f (h _ ig)) (λc W' e f=>hstop c W' e (f _ ig))
 exact Ci (round (w.heap.size+1) k v a W1 Lx i.1 m i.2 o p q) λ_ _ _ ⟨e,f,h⟩=>⟨e,f,λW2 r _=>h W2 r⟩
end
end Coup
namespace Go.Proofs.YtpaniebomegnbaaGreat
open Go Go.RowKit Coup
theorem Dh(n:Nat)(w:World):CQ 189 [VB (n:Int)] w (λv w'=>∃ g,v= .slice (some ⟨g,0,none⟩) 4 4/\row w' g (bv (oH 4 n)) 5/\w.heap.size<=g/\VD w w'):=by
 obtain⟨g,r,h,j⟩:=zkC (n:Int);have f:=h dB;rw[aW]at f;have a:=Below.refl w.heap.size w;refine nZ (rs:=[.tmp 2]) (n:=15) Tryz.func189 rfl rfl Tryz.ntmps189 dA rfl<|ny<|oG<|ng<|mZ (xm rfl rfl dB rfl)<|mZ (rP (k:=.u8) dA dA rfl rfl)<|ng<|mZ (xm rfl rfl dB rfl)<|mZ (rP (k:=.u8) dA dA rfl rfl)<|ng<|mZ (xm rfl rfl dB rfl)<|mZ (rP (k:=.u8) dA dA rfl rfl)<|ng<|mZ (rP (k:=.u8) dA dA rfl rfl)<|nK<|Jp (e:=5) [(0, .int .u8 (IntKind.u8.wrap ((n:Int).fdiv (2 ^ (min (24:Int).toNat IntKind.i64.bits))))),(1, .int .u8 (IntKind.u8.wrap ((n:Int).fdiv (2 ^ (min (16:Int).toNat IntKind.i64.bits))))),(2, .int .u8 (IntKind.u8.wrap ((n:Int).fdiv (2 ^ (min (8:Int).toNat IntKind.i64.bits))))),(3, .int .u8 (IntKind.u8.wrap (n:Int)))] [.int .u8 0] 1 dA dA rfl dB dB (by intro i l;rcases i with _|_|_|_|i<;>first |(simp[Value.cells];done)|(exfalso;simp only[aD,aY]at l;omega)) kY<|λm o p c q=>?_
 replace a:=a.acc q;replace c:row o m (bv g) 5:=by rw[<-j];exact c
 refine lZ ?_;have s:=p;exact⟨_,rfl,by rw[<-f];exact c,dB,a⟩
theorem PU(p:Option Addr)(n c:Nat)(l:List UInt8)(w:World)(h:nM w p n 1 (bv l))(hn:n<=7):CQ 203 [.slice p n c] w (λv w'=>v=VB (qX l)/\w=w'):=by
 have m:l.length=n:=by simpa [oL]using h.len
 refine nZ (rs:=[.tmp 2]) (n:=18) Tryz.func203 rfl rfl Tryz.ntmps203 dA rfl<|ny<|nA<|nk<|nI<|ny<|ng<|mZ (oV (e:=5) (sz:=1) dA rfl rfl)<|ng<|nk<|pE ?_
 refine qY (α:=Nat) 0 (λk=>[(2,VB (qX (l.take k):Nat)),(7,VB (k:Nat)),(6,VB (n:Int)),(5, .slice p n c)]) (λk w'=>k<=n/\w=w') (λk=>n - k)
   VF ⟨aC _,rfl⟩ ?_
 rintro k f q ⟨r,rfl⟩;refine ny<|mZ (pI rfl rfl)<|nk<|nI<|oZ rfl (λj=>?_)<|λj=>?_
 ·
  refine lN ?_;have a:∃ x,l[k]?=some x:=⟨_,aG dB⟩;obtain⟨x,i⟩:=a;have a:=h.some dB;obtain⟨g,o,rfl,s⟩:=a;have t:qX (l.take k)<2 ^ 48:=Ck _ 6 kJ;have hb:=x.toNat_lt;refine nO<|mZ (uX (e:=5) dA rfl rfl k dB dB)<|mZ (oK rfl (Ld.sl1 h dA (show(bv l)[k]?=some (.int .u8 (x.toNat:Int)) by rw[ES,i];rfl)))<|nA<|nk<|nO<|ng<|mZ (Qw rfl rfl dB (show IntKind.i64.wrap (((qX (l.take k):Nat):Int)*2 ^ (min (8:Int).toNat IntKind.i64.bits))=((256*qX (l.take k):Nat):Int) by rw[show(2:Int) ^ (min (8:Int).toNat IntKind.i64.bits)=256 from rfl,nV dB];omega))<|ng<|mZ (rP (k:=.i64) dA dA rfl (Coup.nV dB))<|mZ (OT rfl rfl ((RB 8 (qX (l.take k):Nat) dB dB dB dB).trans (show _=((qX (l.take (k+1)):Nat):Int) by rw[RF l k x i];omega)))<|nA<|oI<|pO<|nJ<|nO<|mZ (oJ rfl rfl (Coup.nV dB))<|ng<|oI<|oM ⟨k+1,dB,⟨rfl,by go_num,rfl,rfl,rfl⟩,dB,rfl⟩
 ·
  refine qL<|qK<|rq<|qO<|nJ<|ny<|ng<|nA<|nk<|nY<|ou [_] ⟨rfl,trivial⟩<|⟨?_,rfl⟩
  rw[aQ dB]
  rfl
def xN(e:Int):Value:=.iface 207 (.agg #[VB e])
theorem Eg(w:World):CQ 75 [VB 0] w (λv w'=>v= .tuple #[]/\w=w'):=by
 refine nZ (rs:=[]) (n:=7) Tryz.func75 rfl rfl Tryz.ntmps75 dA rfl<|ny<|ng<|mZ (pJ rfl rfl)<|nk<|qg rfl (iT)<|nU<|zS [] trivial ?_
 exact⟨rfl,rfl⟩
theorem EB(e:Int)(he:e≠0)(w:World):Calls Tryz.prog 75 [VB e].toArray w (ul (λ_ _=>False) λc w'=>c=pe (xN e)/\w=w'):=by
 refine xg (rs:=[]) (n:=7) Tryz.func75 rfl rfl Tryz.ntmps75 dA rfl<|ny<|ng<|mZ (pJ rfl rfl)<|nk<|uT rfl (he)<|nO<|ng<|mZ (Ay (VB e) [VB e] rfl dA)<|mZ (zo3 dA)<|zpC rfl ?_
 exact wY ⟨rfl,rfl⟩
theorem LB(w:World):CQ 201 [.bool true] w (λv w'=>v= .tuple #[]/\w=w'):=by
 refine nZ (rs:=[]) (n:=6) Tryz.func201 rfl rfl Tryz.ntmps201 dA rfl<|ny<|ng<|mZ (sj rfl)<|nk<|EJ rfl (iT)<|nU<|zS [] trivial ?_
 exact⟨rfl,rfl⟩
theorem UH{p:Prop}[Decidable p](hp:p)(w:World):CQ 201 [.bool (decide p)] w (λv w'=>v= .tuple #[]/\w=w'):=by
 rw[decide_eq_true hp];exact LB w
def um(G:Nat->Pg)(n:Nat)(X:Pg):Nat->Pg:=λi=>if i=n then X else G i
structure PG(P:Pl)(N:Nat)(G V:Nat->Pg)(k:Nat):Prop where
 i:tQ P V k
 n:P.n=N
 g:∀ n,n<N->(P.ch n).getD (V n)=G n
 s:P.G.size=400
 c:∀ n b,n<N->P.ch n=some b->G n≠V n
def GZ(q N:Nat)(G V:Nat->Pg)(k:Nat):VE:=λw B=>∃ P,PG P N G V k/\PZ q P w B
instance(q N:Nat)(G V:Nat->Pg)(k:Nat):nz (GZ q N G V k):=
 ⟨fun⟨P,c,a⟩ e f=>⟨P,c,nz.nD a e f⟩,fun⟨P,_,a⟩ b hb=>nz.lt a b hb⟩
namespace PG
variable {P:Pl}{N:Nat}{G V:Nat->Pg}{k n:Nat}
theorem len(h:PG P N G V k)(hn:n<N):(G n).length=512:=by
 rw[<-h.g n hn];cases hc:P.ch n with
 |some b=>exact h.i.ok.ch n b hc
 |none=>exact h.i.ln n (by rw[h.n];exact hn)
theorem yJ(h:PG P N G V k)(hn:n<N):gX P V n=G n:=by
 have:=h.n;unfold gX;rw[if_pos (by unfold yZ;omega),aW];exact h.g n hn
theorem Vo(h:PG P N G V k)(n:Int):PG (gP P n) N G V k:=by
 refine⟨h.i.gP n,?_,?_,?_,?_⟩
 all_goals
  unfold gP
  split
  .unfold EZ
   have e:=λn=>WF P n
   split
   .first |exact h.n|exact h.g|exact h.s|exact h.c
   .first |exact(e _).2.2.2.2.2.2.trans h.n|(intro i a;rw[(e _).2.2.2.1];exact h.g i a)|(rw[(e _).2.1];exact h.s)|(rw[(e _).2.2.2.1];exact h.c)
  .first |exact h.n|exact h.g|exact h.s|exact h.c
theorem UM(h:PG P N G V k)(hn:n<N){X:Pg}(hX:X.length=512):PG (pP P n X) N (um G n X) V k:=by
 have j:=h.n;have e:=WF P n;have hp:pP P n X=Hl P n X:=by unfold pP;rw[if_pos (by unfold yZ;omega),aW]
 refine⟨h.i.pP n hX,?_,λi f=>?_,?_,?_⟩
 .rw[hp];exact e.2.2.2.2.2.2.trans j
 .rw[hp]
  show(uW P.ch n (if X=wQ P n then none else some X) i).getD (V i)=um G n X i;unfold uW um
  by_cases a:i=n
  .subst a
   rw[if_pos rfl,if_pos rfl]
   split
   .rename_i g;rw[g];exact(h.i.ask dB).symm
   .rfl
  .rw[if_neg a,if_neg a];exact h.g i f
 .rw[hp];exact(congrArg Lg.size e.2.1).trans h.s
 .rw[hp]
  intro i b f hb;have c:uW P.ch n (if X=wQ P n then none else some X) i=some b:=hb;unfold uW at c;unfold um
  by_cases a:i=n
  .subst a
   rw[if_pos rfl]at c |-
   split at c
   .cases c
   .rename_i g;exact λe=>g (e.trans (h.i.ask dB).symm)
  .rw[if_neg a]at c |-;exact h.c i b f c
end PG
section
variable {Y:VE}[nz Y]{q N lo:Nat}{L:List Nat}{G V:Nat->Pg}{k:Nat}{w:World}
omit [nz Y] in
theorem Ot(h:Two (GZ q N G V k) Y lo L w):∃ P,PG P N G V k/\Two (PZ q P) Y lo L w:=by
 obtain⟨⟨B,C,⟨P,a,c⟩,e,f,g⟩,i,j⟩:=h;exact⟨P,a,⟨B,C,c,e,f,g⟩,i,j⟩
omit [nz Y] in
theorem Um{P:Pl}(h1:PG P N G V k)(h:Two (PZ q P) Y lo L w):Two (GZ q N G V k) Y lo L w:=by
 obtain⟨⟨B,C,a,c,e,f⟩,g,i⟩:=h;exact⟨⟨B,C,⟨P,h1,a⟩,c,e,f⟩,g,i⟩
omit [nz Y] in
theorem ER(h:Two (GZ q N G V k) Y lo L w):N<=2048/\4<=N/\∀ n,n<N->(G n).length=512:=by
 obtain⟨P,a,c⟩:=Ot h;have:=z_n c;have f:=a.i.ok.n4;have g:=a.n;exact⟨dB,dB,λn e=>a.len e⟩
theorem LQ(h:Two (GZ q N G V k) Y lo L w)(n:Nat)(hn:n<N):CQ 118 [VA q,VB (n:Int)] w (λv w'=>v= .tuple #[.agg (bv (G n)).toArray,VB 0]/\Two (GZ q N G V k) Y lo L w'/\nC lo L w w'):=by
 obtain⟨P,a,c⟩:=Ot h;refine(UW c a.i n).to λv w' ⟨e,f,g⟩=>⟨?_,Um (a.Vo n) f,g⟩
 rw[e,a.yJ hn];have:BK P n=0:=by unfold BK;rw[if_pos (by have:=a.n;unfold yZ;omega)]
 rw[this]
theorem Dy(h:Two (GZ q N G V k) Y lo L w)(n:Nat)(hn:n<N){X:Pg}(hX:X.length=512):CQ 71 [VA q,VB (n:Int), .agg (bv X).toArray] w (λv w'=>v=VB 0/\Two (GZ q N (um G n X) V k) Y lo L w'/\nC lo L w w'):=by
 obtain⟨P,a,c⟩:=Ot h;refine(Wl c a.i n hX).to λv w' ⟨e,f,g⟩=>⟨?_,Um (a.UM hn hX) f,g⟩
 rw[e];have:BK P n=0:=by unfold BK;rw[if_pos (by have:=a.n;unfold yZ;omega)]
 rw[this]
theorem JX(h:Two (GZ q N G V k) Y lo L w):CQ 74 [VA q] w (λv w'=>v=VB (N:Int)/\VD w w'):=by
 obtain⟨P,a,c⟩:=Ot h;obtain⟨g,x,mc,md,cv,e⟩:=NE c;rw[<-a.n];exact CU e (by have:=a.s;omega)
omit [nz Y] in
theorem QD(h:Two (GZ q N G V k) Y lo L w):CQ 101 [VA q] w (λv w'=>v= .bool false/\w=w'):=by
 obtain⟨P,a,c⟩:=Ot h;obtain⟨g,x,mc,md,cv,e⟩:=NE c;rw[<-a.i.de];exact PO e
end
structure sQ where
 fresh:Nat
 free:Nat
 many:Nat
 records:Nat
 root:Nat
def xc(F:sQ):List Value:=[VB (F.fresh:Int),VB (F.free:Int),VB (F.many:Int),VB (F.records:Int),VB (F.root:Int)]
def jV(F:sQ)(q mw:Nat):List Value:=[VB (F.fresh:Int),VB (F.free:Int),VB (F.many:Int),VB (F.records:Int),VB (F.root:Int),VA q, .map (some mw)]
structure IA(N:Nat)(G0 G:Nat->Pg)(c:tK):Prop where
 yes:∀ n x,c n=some x->n<N/\x=G0 n
 no:∀ n,n<N->c n=none->G n=G0 n
 len:∀ n x,c n=some x->x.length=512
structure vI(q jb mw N:Nat)(G0 G V:Nat->Pg)(k:Nat)(F:sQ)(c:tK)(Y:VE)(lo:Nat)(L:List Nat)(w:World):Prop where
 p:Two (GZ q N G V k) Y lo (jb::mw::L) w
 row:row w jb (jV F q mw) 131
 map:MapAt Tryz.prog 3 w mw N (rM c)
 was:IA N G0 G c
 ne:jb≠mw
 jl:lo<=jb/\jb∉L
 ml:lo<=mw/\mw∉L
def JZ(q jb mw N:Nat)(G0 G V:Nat->Pg)(k:Nat)(F:sQ):VE:=λw B=>∃ B1 c,B=B1++[jb,mw]/\GZ q N G V k w B1/\Coup.row w jb (jV F q mw) 131/\MapAt Tryz.prog 3 w mw N (rM c)/\IA N G0 G c/\jb∉B1/\mw∉B1/\jb≠mw
instance(q jb mw N:Nat)(G0 G V:Nat->Pg)(k:Nat)(F:sQ):nz (JZ q jb mw N G0 G V k F):=
 ⟨fun {w w' B M} ⟨B1,c,e,a,f,g,j,k⟩ h i=>by
   subst e;exact⟨B1,c,rfl,nz.nD a h λb hb=>i b jX,f.nD h (i jb ig),g.nD h (i mw ig),j,k⟩,
  fun {w B} ⟨B1,c,e,a,f,g,j,k⟩ b hb=>by
   subst e;simp only[ay,ak,bq,or_false]at hb;rcases hb with hb|rfl|rfl
   .exact nz.lt a b hb
   .exact f.lt
   .exact g.lt⟩
section
variable {Y:VE}{q jb mw N lo:Nat}{L:List Nat}{G0 G V:Nat->Pg}{k:Nat}{F:sQ}{c:tK}{w:World}
theorem uq(h:Two (JZ q jb mw N G0 G V k F) Y lo L w):∃ c,vI q jb mw N G0 G V k F c Y lo L w:=by
 obtain⟨⟨B,C,⟨B1,c,e,m,j,k,o,p,q,r⟩,s,f,l⟩,t,u⟩:=h;subst e;have g:=f jb ig;have i:=f mw ig;refine⟨c,⟨⟨B1,C,m,s,λb hb=>⟨(f b jX).1,(f b jX).2.1,λa=>?_⟩,λb hb=>⟨(l b hb).1,λa=>?_⟩⟩,t,λb a=>?_⟩,j,k,o,r,⟨g.1,g.2.2⟩,⟨i.1,i.2.2⟩⟩
 .rcases ak.1 a with rfl|a
  .exact p hb
  .rcases ak.1 a with rfl|a
   .exact q hb
   .exact(f b jX).2.2 a
 .rcases ak.1 a with rfl|a
  .exact g.2.1 hb
  .rcases ak.1 a with rfl|a
   .exact i.2.1 hb
   .exact(l b hb).2 a
 .rcases ak.1 a with rfl|a
  .exact j.lt
  .rcases ak.1 a with rfl|a
   .exact k.lt
   .exact u b a
theorem Tz(hp:Two (GZ q N G V k) Y lo (jb::mw::L) w)(hr:Coup.row w jb (jV F q mw) 131)(hm:MapAt Tryz.prog 3 w mw N (rM c))(hw:IA N G0 G c)(hne:jb≠mw)(hj:lo<=jb/\jb∉L)(hml:lo<=mw/\mw∉L):Two (JZ q jb mw N G0 G V k F) Y lo L w:=by
 obtain⟨⟨B,C,i,j,e,h⟩,k,l⟩:=hp;have f:=λb hb=>(e b hb).2.2
 have g:=λb hb=>(h b hb).2
 refine⟨⟨B++[jb,mw],C,⟨B,c,rfl,i,hr,hm,hw,λa=>f jb a ig,λa=>f mw a ig,hne⟩,j,λb hb=>?_,λb hb=>⟨(h b hb).1,λa=>g b hb kE⟩⟩,k,λb hb=>l b jX⟩;simp only[ay,ak,bq,or_false]at hb;rcases hb with hb|rfl|rfl
 .exact⟨(e b hb).1,(e b hb).2.1,λa=>f b hb kE⟩
 .exact⟨hj.1,λa=>g b a ig,hj.2⟩
 .exact⟨hml.1,λa=>g b a ig,hml.2⟩
theorem vI.close(h:vI q jb mw N G0 G V k F c Y lo L w):Two (JZ q jb mw N G0 G V k F) Y lo L w:=Tz h.p h.row h.map h.was h.ne h.jl h.ml
theorem DR(h:Two (JZ q jb mw N G0 G V k F) Y lo L w):N<=2048/\4<=N/\∀ n,n<N->(G n).length=512:=by
 obtain⟨c,h⟩:=uq h;exact ER h.p
theorem IA.put(h:IA N G0 G c){n:Nat}(hn:n<N)(hl:(G n).length=512)(X:Pg):IA N G0 (um G n X) (if(c n).isSome then c else uW c n (some (G n))):=by
 cases hc:c n with
 |some x=>
  rw[if_pos ig];refine⟨h.yes,λi g f=>?_,h.len⟩;have:i≠n:=λe=>by rw[e,hc]at f;cases f
  unfold um;rw[if_neg this];exact h.no i g f
 |none=>
  rw[if_neg ig];refine⟨λi x a=>?_,λi g f=>?_,λi x a=>?_⟩
  .unfold uW at a
   split at a
   .rename_i e;subst e;cases a;exact⟨hn,h.no i hn hc⟩
   .exact h.yes i x a
  .unfold uW at f
   split at f
   .cases f
   .rename_i e;unfold um;rw[if_neg e];exact h.no i g f
  .unfold uW at a
   split at a
   .cases a;exact hl
   .exact h.len i x a
end
section
variable {Y:VE}[hYT:nz Y]{q jb mw N lo:Nat}{L M:List Nat}{G0 G V:Nat->Pg}{k:Nat}{F:sQ}{c:tK}{w w':World}
namespace vI
theorem nD(h:vI q jb mw N G0 G V k F c Y lo L w)(hk:Kp M w w')(hM:∀ b∈M,b<lo\/b∈L):vI q jb mw N G0 G V k F c Y lo L w':=by
 have c:∀ b,lo<=b/\b∉L->b∉M:=λb hb a=>(hM b a).elim (λe=>absurd hb.1 (dW.2 e)) hb.2
 exact⟨h.p.nD hk λb hb=>(hM b hb).imp id λa=>by simp[a],h.row.nD hk (c jb h.jl),h.map.nD hk (c mw h.ml),h.was,h.ne,h.jl,h.ml⟩
theorem new(h:vI q jb mw N G0 G V k F c Y lo L w)(hb:VD w w'):vI q jb mw N G0 G V k F c Y lo L w':=h.nD (M:=[]) (Kp.of_below hb) ig
theorem only{gc:Nat}(h:vI q jb mw N G0 G V k F c Y lo L w)(ho:Only gc w w')(hg:gc<lo\/gc∈L):vI q jb mw N G0 G V k F c Y lo L w':=h.nD (Kp.rJ ho) λb hb=>by rw[aJ.1 hb];exact hg
omit hYT in
theorem weak{L2:List Nat}(h:vI q jb mw N G0 G V k F c Y lo L w)(h2:∀ b∈L2,b∈L):vI q jb mw N G0 G V k F c Y lo L2 w:=
 ⟨h.p.weak λb hb=>by
  rcases ak.1 hb with rfl|hb
  .simp
  .rcases ak.1 hb with rfl|hb
   .simp
   .simp[h2 b hb],h.row,h.map,h.was,h.ne,⟨h.jl.1,λa=>h.jl.2 (h2 _ a)⟩,⟨h.ml.1,λa=>h.ml.2 (h2 _ a)⟩⟩
theorem nL{gc:Nat}(h:vI q jb mw N G0 G V k F c Y lo L w)(hb:VD w w')(hg:w.heap.size<=gc)(hg':gc<w'.heap.size):vI q jb mw N G0 G V k F c Y lo (gc::L) w':=by
 have c:=h.new hb;have e:=h.row.lt;have f:=h.map.lt;refine⟨(h.p.nL hb hg hg').weak λb a=>?_,c.row,c.map,h.was,h.ne,⟨h.jl.1,λa=>?_⟩,⟨h.ml.1,λa=>?_⟩⟩
 .simp only[ak]at a |-
  rcases a with a|a|a|a
  .exact .inr<|.inl a
  .exact .inr<|.inr<|.inl a
  .exact .inl a
  .exact .inr<|.inr<|.inr a
 .rcases ak.1 a with rfl|a
  .omega
  .exact h.jl.2 a
 .rcases ak.1 a with rfl|a
  .omega
  .exact h.ml.2 a
end vI
theorem Pz(h:vI q jb mw N G0 G V k F c Y lo L w)(n:Nat)(hn:n<N):CQ 109 [VA jb,VB (n:Int)] w (λv w'=>v= .agg (bv (G n)).toArray/\vI q jb mw N G0 G V k F c Y lo L w'/\nC lo (jb::L) w w'):=by
 have f:=nC.refl lo (jb::L) w;have A:=(ER h.p).2.2 n hn;have B:=λL' w' (D:Two (GZ q N G V k) Y lo L' w')=>LQ D n hn
 obtain⟨t,C⟩:=aa (G n);rw[C]at A |-;simp only[C]at B;have O:(bv t).length=512:=by rw[oL];exact A
 have hp:=h.p;have a:=h.row;have c:=h.map;have P:mw≠jb:=bT h.ne;unfold jV at a;refine nZ (rs:=[.cell 4 121]) (n:=19) Tryz.func109 rfl rfl Tryz.ntmps109 dA rfl<|ny<|nK<|oD (List.replicate 512 (Value.int .u8 0)) dA<|λu E y g l=>?_
 have F:jb<u:=ae a.lt y;have H:mw<u:=ae c.lt y;replace hp:=hp.nL l y g.lt;replace f:=f.new l;replace a:=a.new l;replace c:=c.new l;refine qx<|ng<|mZ (oo rfl)<|mZ (nG 5)<|mZ (nH a)<|ng<|nP (B _ E hp) ?_
 rintro _ Q ⟨rfl,hp,m⟩;replace f:=f.lq m;replace a:=a.nD m.kp eu;replace c:=c.nD m.kp eu;replace g:=g.kl m;refine ng<|mZ (nW rfl rfl)<|mZ (nW rfl rfl)<|nK<|oD (List.replicate 512 (Value.int .u8 0)) dA<|λz R p r i=>?_
 have I:jb<z:=ae a.lt p;have J:mw<z:=ae c.lt p;have K:u<z:=ae g.lt p;replace hp:=hp.nL i p r.lt;replace f:=f.new i;replace a:=a.new i;replace c:=c.new i;replace g:=g.new i;refine nT<|oC 512 (bv t) r<|λM r j=>?_
 replace hp:=hp.only j eG;replace f:=f.oq j;replace a:=a.only j (ai I);replace c:=c.only j (ai J);replace g:=g.only j (ai K);refine oG<|ng<|nP (Eg M) ?_
 rintro _ _ ⟨rfl,rfl⟩;refine qx<|mZ (pz 512 r)<|nT<|oC 512 (bv t) g<|λS g s=>?_
 replace hp:=hp.only s eG;replace f:=f.oq s;replace a:=a.only s (ai F);replace c:=c.only s (ai H);refine nk<|nY<|ou [_] ⟨⟨_,rfl,Ld.qI (k:=512) g dA dA gp⟩,trivial⟩ ?_
 exact⟨rfl,⟨hp.weak (λb hb=>by simp at hb |-;rcases hb with hb|hb|hb<;>simp[hb]),a,c,h.was,h.ne,h.jl,h.ml⟩,f⟩
theorem KN(h:Two (JZ q jb mw N G0 G V k F) Y lo L w)(n:Nat)(hn:n<N):CQ 109 [VA jb,VB (n:Int)] w (λv w'=>v= .agg (bv (G n)).toArray/\Two (JZ q jb mw N G0 G V k F) Y lo L w'/\nC lo L w w'):=by
 obtain⟨c,h⟩:=uq h;exact(Pz h n hn).to λv w' ⟨a,e,f⟩=>⟨a,e.close,f.weak (ax _) λb hb=>by simp[hb]⟩
end
section
variable {Y:VE}[hYT:nz Y]{q jb mw N lo:Nat}{L M:List Nat}{G0 G V:Nat->Pg}{k:Nat}{F:sQ}{c:tK}{w w':World}
theorem Ou(h:Two (JZ q jb mw N G0 G V k F) Y lo L w)(n:Nat)(hn:n<N)(X:Pg)(hX:X.length=512):CQ 162 [VA jb,VB (n:Int), .agg (bv X).toArray] w (λ_ w'=>Two (JZ q jb mw N G0 (um G n X) V k F) Y lo L w'/\nC lo L w w'):=by
 obtain⟨c,h⟩:=uq h;have a3:=h.jl;have a4:=h.ml;have a5:=h.ne;have j:=nC.refl lo L w;have M:=(ER h.p).2.2 n hn;have d2:=(ER h.p).1;have O:=λL' w' (P:Two (GZ q N G V k) Y lo L' w')=>Dy P n hn hX
 have a6:=λL' w' (P:vI q jb mw N G0 G V k F c Y lo L' w')=>Pz P n hn
 have E:=h.was.put hn M X;obtain⟨G2,a7⟩:=aa (um G n X);obtain⟨a8,a9⟩:=aa (G n);rw[a7]at E |-;simp only[a7]at O;rw[a9]at M E;simp only[a9]at a6;have d3:(bv a8).length=512:=by rw[oL];exact M
 have d4:(bv X).length=512:=by rw[oL];exact hX
 have d5:zP.length=512:=bz;have d6:∀ v∈zP,Value.oneCell' v=true:=λv b1=>by rw[(eB.1 b1).2];rfl
 have b2:mw≠jb:=bT h.ne;cases hcn:c n with
 |some x=>
 have d7:(bv x).length=512:=by rw[oL];exact h.was.len n x hcn
 have Q:rM c n=some (.agg (bv x).toArray):=by unfold rM;rw[hcn];rfl
 rw[hcn,if_pos ig]at E;have hp:=h.p;have i:=h.row;have a:=h.map;unfold jV at i;refine nZ (rs:=[]) (n:=35) Tryz.func162 rfl rfl Tryz.ntmps162 dA rfl<|ny<|nK<|qi (bv X) rfl<|λp b3 D l B=>?_
 have b4:=j.size;have b5:jb<p:=ae i.lt D;have b0:mw<p:=ae a.lt D;replace hp:=hp.nL B D l.lt;replace j:=j.new B;replace i:=i.new B;replace a:=a.new B;refine nk<|nI<|ny<|ng<|mZ (oo rfl)<|mZ (nG 6)<|mZ (nH i)<|ng<|mZ (Ky (k:=3) (e:=121) (.agg zP.toArray) (some (.agg (bv x).toArray)) dA dA Kn a rfl rfl n rfl hn dB Q)<|ng<|mZ (nW rfl rfl)<|mZ (nW rfl rfl)<|nK<|oD (List.replicate 512 (Value.int .u8 0)) dA<|λr b6 C u y=>?_
 have R:jb<r:=ae i.lt C;have S:mw<r:=ae a.lt C;have T:p<r:=ae l.lt C;replace hp:=hp.nL y C u.lt;replace j:=j.new y;replace i:=i.new y;replace a:=a.new y;replace l:=l.new y;refine nT<|oC 512 (bv x) u<|λb7 u z=>?_
 replace hp:=hp.only z eG;replace j:=j.oq z;replace i:=i.only z (ai R);replace a:=a.only z (ai S);replace l:=l.only z (ai T);refine oG<|ng<|mZ (sj rfl)<|nk<|EJ rfl (rfl)<|nU<|nJ ?_
 have b8:jb≠p:=by have:=h.row.lt;omega
 refine vX lo ((r::p::jb::mw::L)) dA ?_;intro U s Z a0;replace hp:=hp.new s;replace j:=j.new s;replace i:=i.new s;replace a:=a.new s;replace l:=l.new s;replace u:=u.new s;have a1:=i;have m:=a;have b9:=l;refine nu 0 (nS)<|nu 1 (oo rfl)<|nu 2 (nG 5)<|nR 3 (λw' f=>oK rfl (Ld.ru (a1.nD f jW) dA rfl))<|nu 4 (nS)<|nR 5 (λw' f=>oK rfl (Ld.qI (k:=512) (b9.nD f jW) dA dA gp))<|oh 6 dA<|qw rfl rfl (oz dA rfl) (O _ U hp) ?_
 rintro _ c4 ⟨rfl,hp,A⟩;have J:=a0.vv Z A.wk;refine⟨J,?_⟩;replace j:=j.lq A;replace i:=i.nD A.kp eu;replace a:=a.nD A.kp eu;replace l:=l.kl A;replace u:=u.kl A;refine zh 7 dA rfl (λ_=>oz dA rfl) (λw' f=>Eg w')<|pq dA<|zS [] trivial ?_;exact⟨Tz (hp.weak (λb hb=>by simp at hb |-;rcases hb with hb|hb|hb<;>simp[hb])) i a E a5 a3 a4,j⟩
 |none=>
 have Q:rM c n=none:=by unfold rM;rw[hcn];rfl
 rw[hcn,if_neg ig]at E;have i:=h.row;have a:=h.map;unfold jV at i;refine nZ (rs:=[]) (n:=35) Tryz.func162 rfl rfl Tryz.ntmps162 dA rfl<|ny<|nK<|qi (bv X) rfl<|λp b3 D l B=>?_
 have b4:=j.size;have b5:jb<p:=ae i.lt D;have b0:mw<p:=ae a.lt D;replace h:=h.nL B D l.lt;replace j:=j.new B;replace i:=i.new B;replace a:=a.new B;refine nk<|nI<|ny<|ng<|mZ (oo rfl)<|mZ (nG 6)<|mZ (nH i)<|ng<|mZ (Ky (k:=3) (e:=121) (.agg zP.toArray) none dA dA Kn a rfl rfl n rfl hn dB Q)<|ng<|mZ (nW rfl rfl)<|mZ (nW rfl rfl)<|nK<|oD (List.replicate 512 (Value.int .u8 0)) dA<|λr b6 C u y=>?_
 have R:jb<r:=ae i.lt C;have S:mw<r:=ae a.lt C;have T:p<r:=ae l.lt C;replace h:=h.nL y C u.lt;replace j:=j.new y;replace i:=i.new y;replace a:=a.new y;replace l:=l.new y;refine nT<|oC 512 (zP) u<|λb7 u z=>?_
 replace h:=h.only z eG;replace j:=j.oq z;replace i:=i.only z (ai R);replace a:=a.only z (ai S);replace l:=l.only z (ai T);refine oG<|ng<|mZ (sj rfl)<|nk<|BP rfl (rfl) ?_
 have d8:=h.ml;have d9:=a.lt;refine vX (lo) ((jb::r::p::L)) dA ?_;intro U s Z a0;replace h:=h.new s;replace j:=j.new s;replace i:=i.new s;replace a:=a.new s;replace l:=l.new s;have a1:=i;have m:=a;refine nu 0 (nS)<|nu 1 (oo rfl)<|nu 2 (nG 6)<|nR 3 (λw' f=>oK rfl (Ld.ru (a1.nD f jW) dA rfl))<|nu 4 (nS)<|nu 5 (nS)<|nu 6 (nS)<|oh 7 dA<|qw rfl rfl (oz dA rfl) (a6 _ U h) ?_
 rintro _ e0 ⟨rfl,h,a2⟩;have a:=h.map;have i:=h.row;have J:=a0.vv Z a2.wk;refine⟨J,?_⟩;replace j:=j.lq a2;replace l:=l.kl a2;refine oh 8 dA ?_;have hp:=h.p;have e1:mw∉jb::r::p::L:=λe=>by
  have K:=h.ml.2;simp only[ak,not_or]at K;simp only[ak]at e;rcases e with e|e|e|e
  .exact b2 e
  .exact K.1 e
  .exact K.2.1 e
  .exact K.2.2 e
 have e2:=h.ml.1;have e3:r≠mw:=λe=>h.ml.2 (by rw[<-e];simp)
 have e4:p≠mw:=λe=>h.ml.2 (by rw[<-e];simp)
 have e5:mw∉L:=λe=>h.ml.2 kH
 have e6:jb≠mw:=h.ne;refine rA rfl rfl<|Kt (k:=3) (e:=121) (.agg (bv a8).toArray) dA dA a rfl rfl rfl (n) ky dB dB<|λe7 a H=>?_
 have c5:=J.add1 H iD;refine⟨c5,?_⟩;replace j:=j.oq H;replace i:=i.only H dB;replace l:=l.only H (bu b0);replace hp:=hp.only H eG;rw[RI]at a;refine pq dA<|nJ ?_
 have b8:jb≠p:=by have:=h.row.lt;omega
 refine vX lo ((jb::mw::r::p::L)) dA ?_;intro c6 I c7 c8;replace j:=j.new I;replace i:=i.new I;replace a:=a.new I;replace l:=l.new I;replace hp:=hp.new I;have c9:=i;have t:=a;have d0:=l;refine nu 0 (nS)<|nu 1 (oo rfl)<|nu 2 (nG 5)<|nR 3 (λw' f=>oK rfl (Ld.ru (c9.nD f kg) dA rfl))<|nu 4 (nS)<|nR 5 (λw' f=>oK rfl (Ld.qI (k:=512) (d0.nD f kg) dA dA gp))<|oh 6 dA<|qw rfl rfl (oz dA rfl) (O _ c6 hp) ?_
 rintro _ c4 ⟨rfl,hp,A⟩;have d1:=c8.vv c7 A.wk;refine⟨d1,?_⟩;replace j:=j.lq A;replace i:=i.nD A.kp eu;replace a:=a.nD A.kp eu;refine zh 7 dA rfl (λ_=>oz dA rfl) (λw' f=>Eg w')<|pq dA<|zS [] trivial ?_;exact⟨Tz (hp.weak (λb hb=>by simp at hb |-;rcases hb with hb|hb|hb<;>simp[hb])) i a E a5 a3 a4,j⟩
end
def Rs(G:Nat->Pg)(n:Nat)(V:View):Prop:=Good V/\G n=oW V
def wW(S:Nat->View):Nat->List Nat->Prop
 |n,[]=>n=0
 |n,m::l=>n=m/\n≠0/\wW S (S m).next l
theorem wW.drop{S:Nat->View}:∀ {l:List Nat} {n i:Nat},wW S n l->i<l.length->∃ m,l[i]?=some m/\wW S m (l.drop i)
 |m::l,n,0,h,_=>⟨m,rfl,by rw[bV];exact⟨rfl,h.1▸h.2.1,h.2.2⟩⟩
 |m::l,n,i+1,h,hi=>by
  obtain⟨q,a,c⟩:=wW.drop (i:=i) h.2.2 (by simpa using hi);exact⟨q,a,c⟩
structure Gt(G:Nat->Pg)(S:Nat->View)(fresh kind n:Nat)(l:List Nat):Prop where
 ch:wW S n l
 at_:∀ m∈l,1<=m/\m<fresh/\Rs G m (S m)/\(S m).kind=kind
 len:l.length<=fresh
section
variable {Y:VE}[hYT:nz Y]{q jb mw N lo:Nat}{L:List Nat}{G0 G V:Nat->Pg}{k:Nat}{F:sQ}{c:tK}{w w':World}
theorem CF(h:Two (JZ q jb mw N G0 G V k F) Y lo L w)(n kind:Nat)(hn:1<=n)(hf:n<F.fresh)(hfN:F.fresh<=N){U:View}(hU:Rs G n U)(hk:U.kind=kind):CQ 177 [VA jb,VB (n:Int),VB (kind:Int)] w (λv w'=>v= .agg (bv (oW U)).toArray/\Two (JZ q jb mw N G0 G V k F) Y lo L w'/\nC lo L w w'):=by
 have O:=(DR h).1;obtain⟨c,h⟩:=uq h;have a:=nC.refl lo L w;have B:=vk hU.1;have l:=λL' w' (C:vI q jb mw N G0 G V k F c Y lo L' w')=>Pz C n dB
 have s:=λw=>Pf U w hU.1
 have m:=λw=>QQ U w hU.1
 rw[hk]at m;simp only[hU.2]at l;obtain⟨Q,t⟩:=aa (oW U);rw[t]at B |-;simp only[t]at l s m;have g:=h.row;have P:=h.jl;unfold jV at g;refine nZ (rs:=[.cell 6 121]) (n:=33) Tryz.func177 rfl rfl Tryz.ntmps177 dA rfl<|ny<|nK<|oD (List.replicate 512 (Value.int .u8 0)) dA<|λD u E e o=>?_
 replace h:=h.nL o E e.lt;replace a:=a.new o;replace g:=g.new o;refine qx<|ng<|mZ (tV rfl rfl)<|ng<|zT 10 rfl (dB)<|nE<|ng<|nE<|ng<|nE<|mZ (oo rfl)<|nE<|mZ (nG 0)<|nE<|mZ (nG 0)<|nE<|mZ (nH g)<|nE<|mZ (pI rfl rfl)<|mZ (pK rfl)<|qA rfl (oz dA rfl) (UH dB u) ?_
 rintro _ _ ⟨rfl,rfl⟩;refine qx<|ng<|ng<|nP (l _ u h) ?_;rintro _ R ⟨rfl,h,y⟩;have g:=h.row;replace a:=a.lq y;replace e:=e.kl y;refine nK<|oD (List.replicate 512 (Value.int .u8 0)) dA<|λH S z f p=>?_
 have I:D<H:=ae e.lt z;replace h:=h.nL p z f.lt;replace a:=a.new p;replace e:=e.new p;refine nT<|oC 512 (bv Q) f<|λJ f r=>?_
 replace h:=h.only r eG;replace a:=a.oq r;replace e:=e.only r (ai I);refine qx<|mZ (pz 512 f)<|nP (s J) ?_
 rintro _ K ⟨rfl,i⟩;replace h:=h.new i;replace a:=a.new i;replace e:=e.new i;replace f:=f.new i;refine ng<|Ng 25 rfl (rfl)<|nE<|mZ (pz 512 f)<|nE<|nP (m K) ?_;rintro _ M ⟨rfl,j⟩;replace h:=h.new j;replace a:=a.new j;replace e:=e.new j;replace f:=f.new j;refine nE<|ng<|nE<|mZ (qB rfl rfl)<|mZ (pK rfl)<|nP (UH rfl M) ?_;rintro _ _ ⟨rfl,rfl⟩;refine qx<|mZ (pz 512 f)<|nT<|oC 512 (bv Q) e<|λT e A=>?_
 replace h:=h.only A eG;replace a:=a.oq A;refine nk<|nY<|ou [_] ⟨⟨_,rfl,Ld.qI (k:=512) e dA dA gp⟩,trivial⟩ ?_
 exact⟨rfl,(h.weak (λb hb=>by simp[hb])).close,a⟩
end
def Bu(S:Nat->View)(l:List Nat):List (List Value):=l.map fun(n:Nat)=>[VB (n:Int), .agg (bv (oW (S n))).toArray]
theorem FK{q jb mw N lo:Nat}{G0 G V:Nat->Pg}{k0:Nat}{F:sQ}{S:Nat->View}{kind n:Nat}{l:List Nat}(hl:Gt G S F.fresh kind n l)(hfN:F.fresh<=N)(g1 g2 g3:Nat)(w:World)(r1:row w g1 [VB (n:Int)] 3)(r2:row w g2 [VA jb] 126)(r3:row w g3 [VB (kind:Int)] 3):
   zV Tryz.prog 200 [VA g1,VA g2,VA g3] (Bu S l) [g1,g2,g3] (JZ q jb mw N G0 G V k0 F) lo w:=by
 intro α Y hYT E b8 J Jx W L A a2 g0 b9 c4 a a3 c5;have g4:=(DR a3).1;have a8:row W g1 [VB (n:Int)] 3:=(A g1 ig).2.trans r1;have a9:row W g2 [VA jb] 126:=(A g2 ig).2.trans r2;have c6:row W g3 [VB (kind:Int)] 3:=(A g3 ig).2.trans r3;have g5:=(A g1 ig).1;have g6:=(A g2 ig).1;have g7:=(A g3 ig).1;obtain⟨c,D⟩:=uq a3;have a4:=D.row;unfold jV at a4;obtain⟨T,b0⟩:=aa (F.fresh);rw[b0]at a4;have c7:=hl.len;rw[b0]at c7 hfN;have c8:(Bu S l).length=l.length:=aP ..;rw[c8];have g8:=Below.refl W.heap.size W;refine nZ (rs:=[]) (n:=32) Tryz.func200 rfl rfl Tryz.ntmps200 dA rfl<|ny<|mZ (nH a8)<|nA<|nk<|nI<|ny<|mZ (nH a9)<|mZ (oo rfl)<|mZ (nG 0)<|mZ (nG 0)<|mZ (nH a4)<|ng<|nk<|pE ?_
 refine qY (α:=Nat × Nat × α) (0,n,a) (λk=>[(0, .func (.yield b8) #[] #[]),(1,VA g1),(2,VA g2),(3,VA g3),(5,VB (k.2.1:Int)),(12,VB (T:Int)),(13,VB (k.1:Int))])
   (λk w'=>k.1<=l.length/\wW S k.2.1 (l.drop k.1)/\Two (JZ q jb mw N G0 G V k0 F) Y lo (E k.2.2++L) w'/\J k.1 k.2.2 w'/\row w' g2 [VA jb] 126/\row w' g3 [VB (kind:Int)] 3/\row w' g1 [VB (n:Int)] 3/\W.heap.size<=w'.heap.size) (λk=>T - k.1)
   VF ⟨aC _,hl.ch,a3,c5,a9,c6,a8,ax _⟩ ?_
 rintro⟨i,g,H⟩ f I ⟨g9,h,j,U,o,p,r,h0⟩;dsimp only at*;have h1:=Below.refl I.heap.size I;have c9:=j;have h2:=nC.refl lo (E H++L) I;refine ny<|mZ (pI rfl rfl)<|nk<|nI<|oZ rfl (λd0=>?_)<|λd0=>?_
 ·
  refine nU<|nJ<|nI<|pE<|nI<|ny<|ng<|mZ (qB rfl rfl)<|nk<|oZ rfl (λd1=>?_)<|λd1=>?_
  ·
   refine nY<|qy<|sS<|qy<|zH<|sS<|qy<|ou [] trivial ?_
   have b1:g=0:=by omega
   have d2:l.drop i=[]:=by
    cases B:l.drop i with
    |nil=>rfl
    |cons m t=>rw[B]at h;exact absurd b1 h.2.1
   have X:l.length<=i:=List.drop_eq_nil_iff.1 d2;have Z:i=l.length:=by omega
   exact .inl ⟨H,j,Z▸U⟩
  ·
   have X:i<l.length:=by
    rcases dH i l.length with D|D
    .exact D
    .rw[List.drop_eq_nil_iff.2 D]at h
     have h3:g=0:=h;omega
   have a5:=hl.ch.drop X;obtain⟨m,C,a0⟩:=a5;have d3:g=m:=by
    cases B:l.drop i with
    |nil=>rw[B]at h a0;have:=h;have h4:m=0:=a0;have h5:g=0:=h;omega
    |cons m2 t=>rw[B]at h a0;rw[h.1,a0.1]
   subst d3;have d4:g∈l:=aO C;have a5:=hl.at_ g d4;obtain⟨d5,d6,a6,d7⟩:=a5;have b2:wW S (S g).next (l.drop (i+1)):=by
    have B:=dm X;rw[B]at h;have e:l[i]=g:=by rw[aG X]at C;exact bQ C
    rw[e]at h;exact h.2.2
   have b3:(Bu S l)[i]?=some [VB (g:Int), .agg (bv (oW (S g))).toArray]:=by unfold Bu;rw[aV,C];rfl
   have b4:=λL' w' (d8:Two (JZ q jb mw N G0 G V k0 F) Y lo L' w')=>CF d8 g kind d5 d6 dB a6 d7
   have a7:=λw=>Er (S g) w a6.1
   have d9:=vk a6.1;obtain⟨Q,b5⟩:=aa (oW (S g));obtain⟨e0,e1⟩:=aa ((S g).next);rw[b5]at d9 b3;simp only[b5]at b4 a7;simp only[e1]at b2 a7;refine nU<|nJ<|ny<|mZ (nH o)<|ng<|mZ (nH p)<|nP (b4 _ I j) ?_
   rintro _ b6 ⟨rfl,j,K⟩;have e2:=a2 _ _ _ _ U K;replace r:=r.kl K;replace o:=o.kl K;replace p:=p.kl K;have y:=Below.refl (b6).heap.size b6;refine nK<|oD (List.replicate 512 (Value.int .u8 0)) dA<|λz h6 M O P=>?_
   have e3:=ag y.size M;have e4:g1<z:=ae r.lt M;have e5:g2<z:=ae o.lt M;have e6:g3<z:=ae p.lt M;replace j:=j.nL P M O.lt;replace r:=r.new P;replace o:=o.new P;replace p:=p.new P;replace y:=y.acc P;refine nT<|oC 512 (bv Q) O<|λe7 O R=>?_
   replace j:=j.only R eG;replace r:=r.only R (ai e4);replace o:=o.only R (ai e5);replace p:=p.only R (ai e6);replace y:=R.below y e3;refine nk<|nI<|ny<|ng<|ng<|mZ (pz 512 O) ?_
   have h7:=K.size;have e8:∀ b∈E H,b∉[z,g1,g2,g3]:=λb hb C=>by
    rcases ak.1 C with e|e
    .have:=c9.lt b jX;omega
    .exact b9 _ _ _ U b hb e
   have e9:=c4 i _ H e7 [z,g1,g2,g3] b3 (λb hb=>(ak.1 hb).elim (λe=>.inr dB) .inl) e8 (j.weak λb hb=>by simp only[bL,aU,ay,ak]at hb |-;rcases hb with rfl|rfl|rfl|rfl|hb|hb<;>simp[*]) (a2 _ _ _ _ e2 (nC.of_below y));refine WK (vl:=[VB (g:Int), .agg (bv Q).toArray]) rfl rfl e9 ?_;rintro e s (⟨rfl,⟨b7,f0,f1⟩,a1,h8⟩|⟨rfl,f2⟩)
   .refine⟨_,rfl,?_⟩
    have f3:row s z (bv Q) 121:=(a1 z ig).trans O;have f4:row s g1 [VB (n:Int)] 3:=(a1 g1 ig).trans r;have f5:row s g2 [VA jb] 126:=(a1 g2 ig).trans o;have f6:row s g3 [VB (kind:Int)] 3:=(a1 g3 ig).trans p;have u:=Below.refl s.heap.size s;refine mZ (sj rfl)<|nk<|Nu rfl<|nU<|nJ<|nO<|mZ (pz 512 f3)<|nP (a7 s) ?_
    rintro _ f7 ⟨rfl,f8⟩;replace u:=u.acc f8;refine nA<|oI<|pO<|nJ<|nO<|mZ (oJ rfl rfl (show IntKind.i64.wrap ((i:Int)+1)=((i+1:Nat):Int) by rw[nV dB];omega))<|ng<|oI ?_;have f9:nC lo (E b7++L) s f7:=nC.of_below u;refine oM ⟨(i+1,e0,b7),by show T - (i+1)<T - i;omega,VF,by show i+1<=_;omega,b2,(f0.new u).weak (λb hb=>by simp only[ay]at hb |-;exact .inr hb),a2 _ _ _ _ f1 f9,f5.new u,f6.new u,f4.new u,?_⟩;have:=y.size;have:=u.size;omega
   .refine⟨_,rfl,?_⟩
    refine mZ (sj rfl)<|nk<|yB rfl<|nY<|qy<|sS<|qy<|zH<|sS<|qy<|ou [] trivial ?_
    exact .inr f2
 ·
  have Z:i=l.length:=by omega
  have b1:g=0:=by rw[Z,jG]at h;exact h
  refine qL<|qK<|rq<|qO<|nJ<|nO<|ng<|mZ (qB rfl rfl)<|qA rfl (oz dA rfl) (UH dB I) ?_
  rintro _ _ ⟨rfl,rfl⟩;refine mf ?_;exact .inl ⟨H,j,Z▸U⟩
theorem DC{q jb mw N lo:Nat}{G0 G V:Nat->Pg}{k0:Nat}{F:sQ}{S:Nat->View}{kind n:Nat}{l:List Nat}(hl:Gt G S F.fresh kind n l)(hfN:F.fresh<=N)(w:World):
  CQ 138 [VA jb,VB (n:Int),VB (kind:Int)] w (λv w'=>∃ g1 g2 g3,v= .func (.func 200) #[] [VA g1,VA g2,VA g3].toArray/\
   (∀ b∈[g1,g2,g3],w.heap.size<=b/\b<w'.heap.size)/\VD w w'/\zV Tryz.prog 200 [VA g1,VA g2,VA g3] (Bu S l) [g1,g2,g3] (JZ q jb mw N G0 G V k0 F) lo w'):=by
 have a:=Below.refl w.heap.size w;refine nZ (rs:=[.tmp 6]) (n:=8) Tryz.func138 rfl rfl Tryz.ntmps138 dA rfl<|ny<|nK<|qi ([_]) rfl<|λg3 p m c o=>?_
 have q:=ag a.size m;replace a:=a.acc o;refine nK<|qi ([_]) rfl<|λf r j e k=>?_
 have s:=ag a.size j;have t:g3<f:=ae c.lt j;replace c:=c.new k;replace a:=a.acc k;refine nK<|qi ([_]) rfl<|λg u h l i=>?_
 have y:=ag a.size h;have z:g3<g:=ae c.lt h;have A:f<g:=ae e.lt h;replace c:=c.new i;replace e:=e.new i;replace a:=a.acc i;refine oG<|mZ (uV)<|nA<|nk<|nY<|ou [_] ⟨rfl,trivial⟩ ?_
 have B:=a.size;exact⟨f,g3,g,rfl,λb hb=>by
  have C:=c.lt;have D:=e.lt;have E:=l.lt;simp only[ak,bq,or_false]at hb;rcases hb with rfl|rfl|rfl<;>omega,a,FK hl hfN f g3 g _ e c l⟩
end Go.Proofs.YtpaniebomegnbaaGreat
