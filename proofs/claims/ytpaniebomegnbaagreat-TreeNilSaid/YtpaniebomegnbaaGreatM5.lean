import Derived.Test.YtpaniebomegnbaaGreatM4
import Derived.Lib.SlBytesConst
import Derived.RecoverIn
set_option maxHeartbeats 8000000
set_option maxRecDepth 20000
namespace Go.Proofs.YtpaniebomegnbaaGreat
open Go Go.RowKit Coup
def LC(e:Int):Value:=.tuple #[.pointer none, .int .i64 e]
theorem ztQ{l:Nat}{n:Int}(h:4<=vk l n):4<=n/\n<=4000/\1+n.toNat+16<=l:=by
 unfold vk at h
 split at h
 .omega
 .omega
section
variable {Y:World->List Nat->Prop}[mW Y]{g x q mc md lo:Nat}{rv cv:Value}{L:List Nat}{P:Pl}{D:Dk}{w w':World}
omit [mW Y] in
theorem oJ.left{Z:World->List Nat->Prop}(h:oJ g x q mc md rv cv (zm Y Z) lo L P w):oJ g x q mc md rv cv Y lo L P w:=
 ⟨⟨VT h.lg.two,h.lg.rowx,h.lg.ge,h.lg.ni⟩,h.row,h.mch,h.mdi,h.own,h.qm,h.qd,h.md',h.cq,h.ql,h.mcl,h.mdl⟩
omit [mW Y] in
theorem Gr{X:World->List Nat->Prop}{p:Option Addr}{S:List Rec}(h:Two X (zm Y (Ar p S)) lo L w):∃ vs,nC w p S.length 1 vs/\(0<S.length->∀ b o,p=some ⟨b,o,none⟩->b∉L)/\∀ (i:Nat) r,S[i]?=some r->∃ b off c,vs[i]?=some (.slice (some ⟨b,off,none⟩) r.length c)/\nC w (some ⟨b,off,none⟩) r.length 513 (pY r)/\b∉L:=by
 obtain⟨⟨B,_,q,⟨C1,C2,rfl,s,⟨t,vs,f,g,j⟩⟩,u,a⟩,v,w⟩:=h;refine⟨vs,f,λk b o e=>(a b (aB _ (g k b o e))).2,λi r hr=>?_⟩;obtain⟨b,off,c,l,m,p⟩:=j i r hr;exact⟨b,off,c,l,m,(a b (aB _ p)).2⟩
theorem KW(h:Two (DZ g D) Y lo L w)(n fr:Nat)(hc:¬vk D.V.length n<4)(hf:2<=fr/\fr<=100)(he:AC D n=0)(hsh:sK D 60000)(hok:xg D (rY (pF D 0)+1) (sZ (pF D 0))=true):
   CQ 65 [.pointer (some ⟨g,0,none⟩), .int .i64 (n:Int), .int .i64 (fr:Int)] w (λv w'=>(((DN D n fr).1≠0/\v=LC (DN D n fr).1/\Two (DZ g (DN D n fr).2.D) Y lo L w')\/
     ((DN D n fr).1=0/\∃ x q mc md cv,v= .tuple #[.pointer (some ⟨q,0,none⟩), .int .i64 0]/\oJ g x q mc md cv cv Y lo L (DN D n fr).2 w'))/\mX lo L w w'):=by
 have a:=mX.refl lo L w;have k9:maxLen=9223372036854775807:=by decide
 have l0:=ztQ (bT.1 hc);have b8:=Pp h (n:Int) ⟨eu,eu⟩;rw[if_neg hc]at b8;have a7:=(yV h).1;have d6:=zrM a7 he (bT.1 hc) hf.1 hf.2;have V:=zky (G:=yf D n) a7 (by rw[yf,aR];dsimp only;omega);have d7:sK (wo D n fr).D 70000:=by
   show sK (tV _ _ _) 70000;unfold xg at hok;rw[aJ]at hok;unfold tV;rw[if_pos hok.1];exact xZ (XX hok.2) eu
 have X:=zo1 D n fr;have d8:(wo D n fr).D.V.length=D.V.length:=RB _ _ _;obtain⟨S,O⟩:=aa (xu D (yf D n));have d9:=(Gh h n he (xZ hsh eu)).to λv w' ⟨ok,D2,C,s,S2,b9,e0,e1,e2,e3,k,e4⟩=>(show ∃ x p c,v=Value.tuple #[Value.pointer (some ⟨x,0,none⟩),Value.slice p S.length c,Value.int .i64 0]/\S.length<=c/\rF g x (zm Y (Ar p S)) lo L (wo D n fr).D (wo D n fr).G w'/\mX lo L w w' from by
   subst e1 e2;rw[hok]at b9;subst b9;have e5:S2=S:=by rw[<-e3,O]
   subst e5;rcases e4 with⟨P,_⟩|⟨_,x,p,c,P,e6,e7⟩
   · cases P
   · refine⟨x,p,c,P,e6,?_,k⟩
     have e8:(wo D n fr).D=D2:=by rw[<-e0];rfl
     have e9:(wo D n fr).G=⟨rY (pF D 0)+1,sZ (pF D 0),n,S2.length,wU S2,false⟩:=by unfold wo;dsimp only;rw[O]
     rw[e8,e9];exact e7)
 obtain⟨N,a8⟩:=aa (vk D.V.length n);have f0:(wo D n fr).di=yY N S:=by unfold wo;dsimp only;rw[O,a8]
 have Q:DN D n fr=if S.length=0 then(0,wo D n fr)else NB (wo D n fr):=by unfold DN;rw[O]
 have f1:(wo D n fr).fr=fr/\(wo D n fr).ch=xx/\(wo D n fr).cl=[]/\(wo D n fr).dead=false/\(wo D n fr).G.size=n:=⟨rfl,rfl,rfl,rfl,rfl⟩;rw[a8]at X;rw[O]at V;have l1:S.length<=4000:=by
   have z:=V.1;have P:=V.2.1;rw[show(yf D n).size=n by rw[yf,aR]]at z;omega
 obtain⟨Z,f2⟩:=aa (DN D n fr);rw[f2]at Q |-;generalize wo D n fr=P0 at*;obtain⟨f3,f4,f5,c4,f6⟩:=f1;have l2:N<=2048:=by
   have z:=a7.n;have P:=v_ D.V.length n;omega
 have f7:∀ c x q mc md p L' w',oJ g x q mc md (.slice none 0 0) (.slice none 0 0) (zm Y (Ar p S)) lo L' {P0 with di:=c} w'->CQ 124 [.pointer (some ⟨g,0,none⟩), .int .i64 (n:Int)] w' (λv f8=>v= .int .i64 (N:Int)/\w'=f8):=λc x q mc md p L' w' f9=>by
   have z:=countP f9.lg.fst (n:Int) ⟨eu,eu⟩;dsimp only at z;rw[d8,a8]at z;exact z
 have l3:=h.lo;have a9:=h.lt;refine nP (fn:=Tryz.f65) (rs:=[.tmp 6, .tmp 7]) (n:=85) Tryz.func65 rfl rfl Tryz.ntmps65 dA rfl<|mR<|mV<|mV<|mQ<|ng<|mR<|mP<|mP<|nD (b8) ?_
 rintro _ _ ⟨rfl,rfl⟩;refine nV<|mP<|mO (oD rfl rfl)<|mQ<|pJ rfl (ig)<|nL<|ny<|ng<|mR<|mP<|mO (pE rfl rfl)<|mP<|rD 26 rfl (eu)<|mY<|mP<|mY<|mO (rq rfl rfl)<|mO (oo rfl)<|mQ<|pJ rfl (eu)<|nL<|ny<|mR<|mP<|mP<|nD (d9) ?_;rintro _ l4 ⟨x,p,a0,rfl,l5,F,g0⟩;replace a:=a.lq g0;refine mP<|mO (nJ rfl rfl)<|mO (nJ rfl rfl)<|mO (nJ rfl rfl)<|mV<|mV<|mV<|mQ<|ng<|mR<|mP<|mO (oD rfl rfl)<|mQ<|pJ rfl (ig)<|nL<|ny<|mR<|mP<|mP<|mP<|mP ?_;have l6:=a.size;refine nz<|Og (k:=3) N<|λA l7 g1 I c5=>?_
 replace F:=F.nA c5 g1 I.lt;have l8:=I.lt;replace a:=a.new c5;refine nz<|Og (k:=3) N<|λt l9 g2 R a1=>?_
 replace F:=F.nA a1 g2 R.lt;have m0:=R.lt;have m1:=a1.size;replace a:=a.new a1;replace I:=I.new a1;refine mO (zrD (.pointer (some ⟨g,0,none⟩)) (.pointer (some ⟨x,0,none⟩)) (.int .i64 (n:Int)) (.int .i64 (fr:Int)) (.map (some A)) (.map (some t)) [.pointer (some ⟨g,0,none⟩), .pointer (some ⟨x,0,none⟩), .int .i64 (n:Int), .int .i64 (fr:Int), .map (some A), .map (some t), .slice none 0 0, .bool false] rfl rfl rfl rfl rfl rfl dA)<|nz<|oV ([.pointer (some ⟨g,0,none⟩), .pointer (some ⟨x,0,none⟩), .int .i64 (n:Int), .int .i64 (fr:Int), .map (some A), .map (some t), .slice none 0 0, .bool false]) rfl<|λJ H g3 c6 a2=>?_
 replace a:=a.new a2;replace I:=I.new a2;replace F:=F.nA a2 g3 c6.lt;replace R:=R.new a2;refine mV<|mQ<|ng<|mR<|mP<|mO (oQ (e:=159) (sz:=1) dA rfl rfl)<|mP<|mQ<|oU ?_
 have c7:∀ c,({P0 with di:=c}:Pl).n=N:=λ_=>X
 have g4:row H J (tF g x P0.G.size P0.fr A t (.slice none 0 0) P0.dead) 162:=by rw[tF,f3,c4,f6];exact c6
 have g5:MapAt Tryz.prog 3 H A ({P0 with di:=yY N (S.take 0)}:Pl).n (ru P0.ch):=by rw[c7,f4];exact I
 have g6:MapAt Tryz.prog 3 H t ({P0 with di:=yY N (S.take 0)}:Pl).n (ru (yY N (S.take 0))):=by rw[c7];exact R
 have g7:nY H 0 164 513 (.slice none 0 0) P0.cl.length (pY P0.cl):=by rw[f5];exact ym _ _ _ _
 have l:oJ g x J A t (.slice none 0 0) (.slice none 0 0) (zm Y (Ar p S)) lo L {P0 with di:=yY N (S.take 0)} H:=
   ⟨F.weak (λb hb=>by
     simp only[Value.ownBlock,Option.toList_none,aV,ak]at hb |-;rcases hb with hb|hb|hb|hb
     · exact .inl hb
     · exact .inr<|.inr<|.inl hb
     · exact .inr<|.inl hb
     · exact .inr (.inr (.inr hb))),g4,g5,g6,g7,eu,eu,eu,(λb hb=>nomatch hb),⟨eu,λu=>by have:=a9 _ u;omega⟩,⟨eu,λu=>by have:=a9 _ u;omega⟩,⟨eu,λu=>by have:=a9 _ u;omega⟩⟩
 have g8:=Gr l.lg.two;obtain⟨vs,c8,g9,h0⟩:=g8;have m:=sI.refl [t] H;clear F;refine qZ (α:=Nat) 0 (λi=>[(50, .int .i64 (i:Nat)),(49, .int .i64 (S.length:Int)),(48, .slice p S.length a0),(10, .slice p S.length a0),(12, .pointer (some ⟨J,0,none⟩)),(0, .pointer (some ⟨g,0,none⟩)),(1, .int .i64 (n:Int))])
   (λi w'=>i<=S.length/\oJ g x J A t (.slice none 0 0) (.slice none 0 0) (zm Y (Ar p S)) lo L {P0 with di:=yY N (S.take i)} w'/\sI [t] H w'/\mX lo L w w') (λi=>S.length - i)
   ⟨rfl,rfl,rfl,rfl,rfl,rfl,rfl,rfl⟩ ⟨aC _,l,m,a⟩ ?_
 clear l m a;rintro i f h1 ⟨m2,l,m,a⟩;refine mR<|mO (pE rfl rfl)<|mQ<|ng<|oP rfl (λh2=>?_)<|λh2=>?_
 ·
  refine lF ?_;have b0:∃ r,S[i]?=some r:=⟨_,aI eu⟩;obtain⟨r,hr⟩:=b0;have a3:=V.2.2 r (aN hr);have h3:=h0 i r hr;obtain⟨c9,ob,h4,h5,h6,h7⟩:=h3;have h8:=c8.some eu;obtain⟨T,op,h9,m3⟩:=h8;subst h9;have i0:T∉[t]:=λu=>g9 eu T op rfl (by rw[aM.1 u];simp)
  have i1:c9∉[t]:=λu=>h7 (by rw[aM.1 u];simp)
  have d0:=c8.nu m.k (λb o e=>by cases e;exact i0);have i2:=znN hr N;have m4:=a3.l60;refine nM<|mO (vg (e:=159) dA rfl rfl (i) eu eu)<|mO (ou rfl (Ld.sl1 d0 dA h5))<|nV<|mP<|mO (oQ (e:=164) (sz:=513) dA rfl rfl)<|mP<|mQ<|oU ?_
  refine qZ (α:=Nat) 0 (λk=>[(56, .int .i64 (k:Nat)),(55, .int .i64 (r.length:Int)),(54, .slice (some ⟨c9,ob,none⟩) r.length h4),(50, .int .i64 (i:Nat)),(49, .int .i64 (S.length:Int)),(48, .slice (some ⟨T,op,none⟩) S.length a0),(10, .slice (some ⟨T,op,none⟩) S.length a0),(12, .pointer (some ⟨J,0,none⟩)),(0, .pointer (some ⟨g,0,none⟩)),(1, .int .i64 (n:Int))])
    (λk w'=>k<=r.length/\oJ g x J A t (.slice none 0 0) (.slice none 0 0) (zm Y (Ar (some ⟨T,op,none⟩) S)) lo L {P0 with di:=Bg N (yY N (S.take i)) (r.take k)} w'/\sI [t] H w'/\mX lo L w w') (λk=>r.length - k)
    ⟨rfl,rfl,rfl,rfl,rfl,rfl,rfl,rfl,rfl,rfl,rfl⟩ ⟨aC _,l,m,a⟩ ?_
  clear l m a d0;rintro k m5 w2 ⟨m6,l,m,a⟩;refine mR<|mO (pE rfl rfl)<|mQ<|ng<|oP rfl (λi3=>?_)<|λi3=>?_
  ·
   refine lF ?_;have b0:∃ y,r[k]?=some y:=⟨_,aI eu⟩;obtain⟨y,b1⟩:=b0;have d1:=aN b1;have d2:=a3.ok y d1;have m7:=a3.num y d1;have m8:(rG y).length=513:=Ba d2;have m9:=DK y;have i4:=h6.nu m.k (λb o e=>by cases e;exact i1);have U:=zp7 b1 N (yY N (S.take i));have n0:=m.k.size;have n1:=a.size;refine nM<|mO (rE (e:=164) (sz:=513) dA rfl rfl k eu eu)<|mO (ou rfl (Np i4 a3.ok b1))<|nz<|nU (([Value.int .i64 0])++(List.replicate 512 (Value.int .u8 0))) dA<|λi5 n2 d3 B b2=>?_
   replace a:=a.new b2;replace l:=l.nA b2 d3 B.lt;replace m:=m.new b2;refine nH<|nT 513 (rG y) B<|λn3 B b3=>?_
   replace a:=a.oq b3;replace l:=l.only b3 eG;replace m:=m.only b3 iB;refine mQ<|ng<|qz [] dA ?_
   intro i6 a4 n4;replace a:=a.new a4;replace l:=l.new a4;replace m:=m.new a4;replace B:=B.new a4;have i7:=l;have i8:=B;refine mU 0 (nk 0)<|nI 1 (λw' E=>mZ (i8.kq E))<|mU 2 (nK)<|mU 3 (nK)<|yM 4 dA rfl (λ_=>nX dA rfl) (λw' E=>f7 _ _ _ _ _ _ _ w' (i7.nu E (by first |(simp;done)|(simp;omega)|(simp[*];done)|exact pG (Or.inl eu)|exact pG (Or.inr ig)|exact λg u=>ag eu (vI u).1|(intro b o e;cases e;exact pG (Or.inl eu))|(intro b u;have:=(hu.lt b (ah.1 u)).1;omega)|(intro b o e;cases e;intro u;have:=(hu.lt _ (ah.1 u)).1;omega)|assumption)))<|mU 5 (pE rfl rfl)<|oL dA<|ny<|oP rfl (λb4=>?_)<|λb4=>?_
   ·
    have b5:y.num<(N:Int):=b4;rw[if_pos b5]at U;have i9:∃ j:Nat,y.num=j/\j<N:=⟨y.num.toNat,eu,eu⟩;obtain⟨j,n5,n6⟩:=i9;have j0:y.num.toNat=j:=by omega
    rw[j0]at U;have a5:=l.row;unfold tF at a5;have K:MapAt Tryz.prog 3 i6 t N (ru (Bg N (yY N (S.take i)) (r.take k))):=by
      have z:=l.mdi;have e:({P0 with di:=Bg N (yY N (S.take i)) (r.take k)}:Pl).n=N:=X;rw[e]at z;exact z
    have d3:i5≠t:=λe=>l.mdl.2 kg
    have n7:=l.qd;have j1:=l.mdl;obtain⟨n8,j2⟩:=j1;have n9:t∉L:=λu=>j2 (aj _ u)
    refine qz [t] dA ?_;intro o0 M j3;replace a:=a.new M;replace l:=l.new M;replace m:=m.new M;replace B:=B.new M;replace a5:=a5.new M;replace K:=K.new M;have d4:=B;have j4:=a5;refine mU 0 (nK)<|mU 1 (nW rfl)<|mU 2 (nk 5)<|nI 3 (λw' E=>mZ (j4.kq E))<|mU 4 (nk 0)<|nI 5 (λw' E=>mZ (d4.kq E))<|mU 6 (nk 1)<|nI 7 (λw' E=>ou rfl (BC (d4.kq E) d2))<|nS 8 dA<|qR rfl rfl<|LM (k:=3) (e:=121) (.agg (bv y.page).toArray) dA dA K rfl rfl rfl j jZ eu eu<|λj5 K a6=>?_
    have j6:=j3.aq a6;refine⟨j6,?_⟩;replace a:=a.oq a6;replace m:=m.only a6 iB;rw[Rn,<-U]at K;have j7:MapAt Tryz.prog 3 j5 t P0.n (ru (Bg N (yY N (S.take i)) (r.take (k+1)))):=by rw[X];exact K
    have j8:=l.Dy j7 a6;refine oL dA<|pW<|ny<|nM<|mO (om rfl rfl (Coup.nN eu))<|mP<|oH<|oO ⟨k+1,eu,⟨by go_num,rfl,rfl,rfl,rfl,rfl,rfl,rfl,rfl,rfl,rfl⟩,eu,j8.weak (λb hb=>aj _ hb),m,a⟩
   ·
    have b5:¬y.num<(N:Int):=b4;rw[if_neg b5]at U;refine nL<|pW<|ny<|nM<|mO (om rfl rfl (Coup.nN eu))<|mP<|oH<|oO ⟨k+1,eu,⟨by go_num,rfl,rfl,rfl,rfl,rfl,rfl,rfl,rfl,rfl,rfl⟩,eu,by rw[U];exact l.weak (λb hb=>aj _ hb),m,a⟩
  ·
   have j9:k=r.length:=by omega
   subst j9;rw[dQ]at l;rw[<-i2]at l;refine qP<|qL<|rf<|qX<|pW<|ny<|nM<|mO (om rfl rfl (Coup.nN eu))<|mP<|oH<|oO ⟨i+1,eu,⟨by go_num,rfl,rfl,rfl,rfl,rfl,rfl,rfl⟩,eu,l,m,a⟩
 ·
  have k0:i=S.length:=by omega
  subst k0;rw[dQ,<-f0]at l;replace l:oJ g x J A t (.slice none 0 0) (.slice none 0 0) (zm Y (Ar p S)) lo L P0 h1:=l;have d5:=Mh l d6 c4 d7;refine qP<|qL<|rf<|qX<|ny<|ng<|mR<|mP<|mO (oQ (e:=159) (sz:=1) dA rfl rfl)<|mO (rq rfl rfl)<|mQ<|oP rfl (λk7=>?_)<|λk7=>?_
  ·
   refine ng ?_;rw[if_neg eu]at Q;rw[<-Q]at d5;refine nM<|mP<|nD d5 ?_
   rintro _ o1 ⟨rfl,l,k8⟩;replace a:=a.lq k8;refine nV<|mP<|mO (oD rfl rfl)<|mQ<|oP rfl (λb6=>?_)<|λb6=>?_
   ·
    refine mR<|mP<|mV<|mV<|mQ<|nQ<|qb<|nR [_,_] ⟨rfl,rfl,trivial⟩ ?_
    have b7:Z.1≠0:=b6;refine⟨.inl ⟨b7,rfl,?_⟩,a⟩;exact(VT l.lg.fst).weak λb hb=>by simp[hb]
   ·
    have b7:Z.1=0:=by simpa using b6
    refine nL<|ny<|mR<|mP<|mV<|mV<|mQ<|nQ<|nR [_,_] ⟨rfl,rfl,trivial⟩ ?_
    exact⟨.inr ⟨b7,_,_,_,_,_,rfl,l.left⟩,a⟩
  ·
   rw[if_pos eu]at Q;subst Q;refine nL<|ny<|mR<|mP<|mV<|mV<|mQ<|nQ<|nR [_,_] ⟨rfl,rfl,trivial⟩ ?_
   exact⟨.inr ⟨rfl,_,_,_,_,_,rfl,l.left⟩,a⟩
end
end Go.Proofs.YtpaniebomegnbaaGreat
namespace Coup
open Go Go.RowKit
section
variable {P:Program}{ρ:Env}{w:World}{d:Option Nat}{ty:TypeId}{pos:String}{af:Array Edge}{gd:Option (Nat × Bool)}
end
end Coup
namespace Go.Proofs.YtpaniebomegnbaaGreat
open Go Go.RowKit Coup
end Go.Proofs.YtpaniebomegnbaaGreat
namespace Coup
open Go Go.RowKit
section
variable {P:Program}{ρ:Env}{w:World}{d:Option Nat}{ty:TypeId}{pos:String}{af:Array Edge}{gd:Option (Nat × Bool)}{K:Value->World->Prop}
theorem zp9{g tt k:Nat}{cs:List Value}(hr:row w g cs tt):(w.freeze ⟨g,k,none⟩ 1).heap[g]?=some (.cells cs.toArray tt (k,k+1))/\Only g w (w.freeze ⟨g,k,none⟩ 1):=by
 have a:w.heap[g]?=some (.cells cs.toArray tt):=hr;refine⟨?_,?_⟩
 .unfold World.freeze
  rw[if_neg iT];simp[Array.getElem?_modify,a]
 .unfold World.freeze
  rw[if_neg iT];refine⟨rfl,rfl,rfl,ig,λj c=>?_⟩;simp[Array.getElem?_modify,bW c]
theorem Ew {t e g n c tt:Nat} {x:Operand} {cs:List Value} (ht:P.underlying t=some (.slice e)) (he:P.underlying e=some (.int .u8)) (hx:ev ρ x= .slice (some ⟨g,0,none⟩) n c) (hr:row w g cs tt) (hn:cs.length=n) (hm:n<=maxLen)
  (h:∀ w',nC w' (some ⟨g,0,none⟩) n 1 cs->Only g w w'->K (.slice (some ⟨g,0,none⟩) n c) w'):Mk P ρ w ⟨d, .convert t t x,ty,pos,af,gd⟩ K:=by
 have e:w.heap[g]?=some (.cells cs.toArray tt):=hr;have f:w.shape? g=some (tt,cs.length):=by unfold World.shape?;rw[e];simp
 obtain⟨a,i⟩:=zp9 (k:=cs.length) hr;have l:(convert t t (.slice (some ⟨g,0,none⟩) n c)).run P w= .ok (.slice (some ⟨g,0,none⟩) n c) (w.freeze ⟨g,cs.length,none⟩ 1):=by
  simp[convert,run_underlying ht,run_underlying he,markStringish,f]
 refine⟨_,_,?_,h _ ⟨by rw[hn,dz],hm,λm=>⟨g,0,rfl,?_,λj o=>?_⟩⟩ i⟩
 .simp only[execOp,hx,Sem.run_bind,l,Result.andThen_ok];rfl
 .exact(aY.1 a).1
 .unfold World.cell?
  rw[a];simp
theorem zqa {t t' e sz bytes:Nat} {s x:Operand} {m k c cap g0 o0:Nat} {xs news:List Value} {sp:Option Addr} {z:Value} (ht:P.underlying t=some (.slice e)) (ht':t'=t)
  (hi:(P.info? e).map (λi=>(i.zero,i.size,i.bytes))=some (some z,sz,bytes)) (hzs:z.cells.size=sz) (hsz:0<sz) (hs:ev ρ s= .slice (some ⟨g0,o0,none⟩) m cap) (hold:nC w (some ⟨g0,o0,none⟩) m sz xs)
  (hx:ev ρ x= .slice sp k c) (hsrc:nC w sp k sz news) (hcap:cap<m+k) (hk:0<k) (h63:m+k<=maxLen) (hbytes:(m+k)*bytes<=140737488355328)
  (h:∀ v' w',nY w' w.heap.size e sz v' (m+k) (xs++news)->Below w.heap.size w w'->K v' w'):Mk P ρ w ⟨d, .call ⟨.builtin .append,#[s,x],#[t,t']⟩,ty,pos,af,gd⟩ K:=by
 subst ht';obtain⟨i,l,g⟩:=dm.1 hi;simp only[fP]at g;obtain⟨o,p,q⟩:=g;obtain⟨r,s,rfl,_⟩:=hsrc.some (fo hk hsz);obtain⟨v',w',hr,t,a⟩:=run_append_arg_grows (P:=P) (w:=w) t' ty e i z sz bytes ht l o p q hzs hsz ⟨g0,o0,none⟩ m cap xs hold.len (λj u f=>by rw[Addr.add_lit];exact hold.cell j f) ⟨r,s,none⟩ k c news hsrc.len
  (λj u f=>by rw[Addr.add_lit];exact hsrc.cell j f) hcap h63 hbytes
 refine⟨_,w',?_,h v' w' (RS t) ⟨a.os,a.tape,a.output,a.size,λk hk=>a.block k hk ig⟩⟩;simp[execOp,resolve,invoke,builtin,hs,hx,hr,Result.andThen]
end
end Coup
namespace Go.Proofs.YtpaniebomegnbaaGreat
open Go Go.RowKit Coup
theorem Dt{D:Dk}{k:Nat}(h:sJ D k)(a:Nat)(s:qg){j:Nat}(hj:j<D.V.length):pF (ug D (a:Int) s) j=if a=j then s else pF D j:=by
 have c:=(h.ug (a:Int) s).2.2 j hj;unfold pF;rw[c]
 by_cases e:a=j
 .rw[if_pos eu,if_pos e];simp[zL]
 .rw[if_neg eu,if_neg e]
theorem Qa:∀ (R:List qg) {D:Dk} {k:Nat} (a:Nat),sJ D k->(qH D a R).2=true/\sJ (qH D a R).1 (k+R.length)/\
  ∀ j,j<D.V.length->pF (qH D a R).1 j=if a<=j/\j<a+R.length then R.getD (j - a) rR else pF D j
 |[],D,k,a,h=>⟨rfl,h,λj c=>by rw[if_neg (by rw[aX];omega)];rfl⟩
 |s::R,D,k,a,h=>by
  obtain⟨e,o⟩:=FY h.left h.dead;obtain⟨f,g,_⟩:=h.ug (a:Int) s;obtain⟨i,l,m⟩:=Qa R (a+1) f;rw[qH,if_pos e];refine⟨i,by rw[aD,show k+(R.length+1)=k+1+R.length by omega];exact l,λj c=>?_⟩;rw[m j (by rw[g];exact c),Dt h a s c,aD]
  by_cases c1:a+1<=j/\j<a+1+R.length
  .rw[if_pos c1,if_pos eu,show j - a=(j - (a+1))+1 by omega,List.getD_cons_succ]
  .rw[if_neg c1]
   by_cases c2:a=j
   .rw[if_pos c2,if_pos eu,show j - a=0 by omega,List.getD_cons_zero]
   .rw[if_neg c2,if_neg eu]
theorem Te{D:Dk}(h:qB D=true){j:Nat}(hj:j<D.V.length):pF (su D) j=pF D j:=by
 have a:=zrc h hj;show zL (oZ (su D) j)=_;rw[a];rfl
theorem XQ(R:List qg){D:Dk}{k:Nat}(a:Nat)(h:sJ D k):(xG D a R).2=true/\sJ (xG D a R).1 1/\(xG D a R).1.V.length=D.V.length/\
  ∀ j,j<D.V.length->pF (xG D a R).1 j=if a<=j/\j<a+R.length then R.getD (j - a) rR else pF D j:=by
 obtain⟨g,i,k⟩:=Qa R a h;have c:=Bi R D a;obtain⟨e,l⟩:=OH i;rw[xG,if_pos g];exact⟨e,l,by rw[FK,c],λj f=>by rw[Te e (by rw[c];exact f),k j f]⟩
theorem Su{D:Dk}{k:Nat}(h:sJ D k)(c s:Nat):xg D c s=true/\sJ (tV D c s) 1/\(tV D c s).V.length=D.V.length/\
  ∀ j,j<D.V.length->pF (tV D c s) j=if j=0 then uh c s else pF D j:=by
 obtain⟨i,_⟩:=FY h.left h.dead;obtain⟨k,a,_⟩:=h.ug 0 (uh c s);obtain⟨f,l⟩:=OH k;unfold xg tV;rw[i,if_pos rfl,fI];refine⟨f,l,by rw[FK,a],λj g=>?_⟩;rw[Te f (by rw[a];exact g)];have:=Dt h 0 (uh c s) g;rw[show((0:Nat):Int)=0 from rfl]at this;rw[this]
 by_cases e:j=0
 .rw[if_pos e,if_pos e.symm]
 .rw[if_neg e,if_neg λh=>e h.symm]
theorem zkA{D:Dk}{k:Nat}(h:sJ D k):∀ m j,j<D.V.length->pF (Bn D m) j=if j<m then rR else pF D j
 |0,j,hj=>by rw[if_neg eu];rfl
 |m+1,j,hj=>by
  obtain⟨a,f⟩:=SV h m;rw[Uc,Dt a m rR (by rw[f];exact hj),zkA h m j hj]
  by_cases e:m=j
  .rw[if_pos e,if_pos eu]
  .rw[if_neg e]
   by_cases c:j<m
   .rw[if_pos c,if_pos eu]
   .rw[if_neg c,if_neg eu]
theorem zrN{D:Dk}{k:Nat}(h:sJ D k)(n:Nat):sJ (yJ D n) 1/\(yJ D n).V.length=D.V.length/\
  ∀ j,j<D.V.length->pF (yJ D n) j=if j=0 then uh 1 1 else if j<1+n then rR else pF D j:=by
 obtain⟨o,e⟩:=SV h (1+n);obtain⟨p,a⟩:=OH o;have f:(su (Bn D (1+n))).V.length=D.V.length:=by rw[FK,e]
 obtain⟨g,i,k,l⟩:=Su a 1 1;have m:=(FY a.left a.dead).1;have q:tV (su (Bn D (1+n))) 1 1=yJ D n:=by
  unfold xg at g;rw[m,fI]at g;rw[tV,m,if_pos rfl];rfl
 rw[q]at i k l;refine⟨i,by rw[k,f],λj c=>?_⟩;rw[l j (by rw[f];exact c),Te p (by rw[e];exact c),zkA h (1+n) j c]
theorem zqb{f n:Nat}{l:List UInt8}(h:wh l n=false):ut f l n=[]:=by
 cases f with
 |zero=>rfl
 |succ f=>rw[ut,h];rfl
theorem znO{l:List UInt8}{n:Nat}(h:tJ (oM l 0)=0):wh l n=false:=by
 cases hj:wh l n with
 |false=>rfl
 |true=>
  have:=(YK (Sc hj).2.1).1;omega
theorem UF(a k:Nat):(pq a).take k=pq (min k a):=by simp[pq]
theorem Ya(a k:Nat):(pq a).drop k=pq (a - k):=by simp[pq]
theorem zqc:∀ k,qK (pq k)=0:=λk=>by
 induction k with
 |zero=>rfl
 |succ k ih=>
  have a:pq (k+1)=pq k++[0]:=by simp[pq,List.replicate_succ']
  rw[a];simp only[qK]at ih |-;rw[fK,ih];rfl
theorem zqd(a n:Nat):wh (pq a) n=false:=znO (by rw[tJ,oM,Ya,UF,UF,zqc])
theorem zqe(s c k f a n:Nat):xR s c k (ut f (pq a) n)=[]:=by rw[zqb (zqd a n)];rfl
theorem Yq{D:Dk}:∀ {n:Nat},(∀ j,j<n->pF D (1+j)=rR)->AJ D n=pq (128*n)
 |0,_=>rfl
 |n+1,h=>by
  rw[P_,Yq λj a=>h j eu,h n eu,show 128*(n+1)=128*n+128 by omega];have e:rR=pq 128:=rfl;rw[e];unfold pq;exact gT
theorem zmy{c s:Nat}(hc:c<18446744073709551616)(hs:s<18446744073709551616):rY (uh c s)=c/\sZ (uh c s)=s:=by
 have a:qU.length=4:=rfl;have e:(256:Nat) ^ 8=18446744073709551616:=by decide
 refine⟨?_,?_⟩
 .rw[rY,uh,fw a,bJ (ry _ _),QU,e,iX hc]
 .have f:(qU++(nZ 8 c++(nZ 8 s++pq 108))).drop 12=nZ 8 s++pq 108:=by
   rw[<-aG,fw (by rw[aA,ry,a])]
  rw[sZ,uh,f,bJ (ry _ _),QU,e,iX hs]
theorem zrO(c s:Nat):Af (uh c s) rR=uh c s:=by
 have e:rR=pq 128:=rfl;have a:(qU++(nZ 8 c++nZ 8 s)).length=20:=by simp[qU,ry]
 have f:uh c s=(qU++(nZ 8 c++nZ 8 s))++pq 108:=by simp[uh,aG]
 rw[Af,e,f,jw,aP (by rw[a];omega),a,UF,Ya,aG]
 congr 1
theorem FM{c s:Nat}(h1:1<=s)(h2:s<=c)(h3:c<=4611686018427387904):zS (uh c s)=true:=by
 obtain⟨a,e⟩:=zmy (c:=c) (s:=s) eu eu;rw[zS,a,e,zrO,decide_eq_true rfl,decide_eq_true h1,decide_eq_true h2,decide_eq_true h3];rfl
theorem zrP{D:Dk}{c s:Nat}{n:Int}(hf:Aa D.V.length n=true)(hr:pF D 0=uh c s)(h1:1<=s)(h2:s<=c)(h3:c<4611686018427387904):AC D n=0/\rY (pF D 0)=c/\sZ (pF D 0)=s:=by
 obtain⟨a,e⟩:=zmy (c:=c) (s:=s) eu eu;rw[AC,if_pos hf,hr,if_pos (FM h1 h2 eu),a,if_neg eu];exact⟨rfl,rfl,e⟩
theorem zmz{D:Dk}{G:Lg}{R:Rec}{k:Nat}(h:sJ D k)(hd:G.dead=false)(hm:yK R=true)(hfit:G.at_+(vX G R).length<=G.size)(hn:1+G.size<=D.V.length):
  uP D G R=(0,(xG D (1+G.at_) (vX G R)).1,{G with at_:=G.at_+(vX G R).length,num:=G.num+1}):=by
 obtain⟨a,_⟩:=XQ (vX G R) (1+G.at_) h;rw[uP,hd,if_neg ig,if_neg (by rw[hm];simp),if_neg eu,a,if_pos rfl]
theorem zrQ{n j:Nat}(h:j<n):pF (wJ n) j=rR:=by
 show zL (oZ (wJ n) j)=rR;have a:oZ (wJ n) j=[rR]:=by
  unfold oZ wJ;rw[bI,iM,if_pos h];rfl
 rw[a];rfl
theorem ZV(j:Nat):(qM uB 4).getD j rR=rR:=by
 rw[bI]
 by_cases a:j<4
 .rw[Vg uB a,ji,uB,iR,List.take_replicate,rR]
  congr 1
  omega
 .rw[bQ (by rw[GL];omega)];rfl
theorem Yp{D:Dk}{k s:Nat}(h:sJ D k)(hz:∀ j,j<D.V.length->pF D j=rR):∀ m j,j<D.V.length->pF (DF D s m) j=rR
 |0,j,hj=>hz j hj
 |m+1,j,hj=>by
  obtain⟨a,c⟩:=PV (s:=s) h m;have e:=(Qa (qM uB 4) (1+s+m*4) a).2.2 j (by rw[c];exact hj);rw[DF,e,Yp h hz m j hj,ZV]
  split<;>rfl
def xI(pages s:Nat):Dk:=yJ (DF (wJ (1+s+4*pages)) s pages) s
theorem BS{pages s:Nat}(h4:4<=s)(hs:s<=4000):vk (1+s+4*pages) s=pages:=by
 unfold vk;rw[if_neg eu,aR];omega
theorem SG{pages s:Nat}(h4:4<=s)(hs:s<=4000)(hp:pages<=500):sJ (xI pages s) 1/\(xI pages s).V.length=1+s+4*pages/\∀ j,j<1+s+4*pages->pF (xI pages s) j=if j=0 then uh 1 1 else rR:=by
 have c:=zl7 (n:=1+s+4*pages) eu;obtain⟨h,e⟩:=PV (s:=s) c pages;rw[Ny]at e;obtain⟨i,f,g⟩:=zrN h s;rw[e]at f g;refine⟨i,f,λj a=>?_⟩;have k:=Yp (s:=s) c (λj a=>zrQ (by rw[Ny]at a;exact a)) pages j (by rw[Ny];exact a);rw[xI,g j a,k]
 split
 .rfl
 .split<;>rfl
theorem zo2{pages s:Nat}(h4:4<=s)(hs:s<=4000)(hp:pages<=500):AC (xI pages s) s=0/\rY (pF (xI pages s) 0)=1/\sZ (pF (xI pages s) 0)=1/\xu (xI pages s) (yf (xI pages s) s)=[]:=by
 obtain⟨i,e,a⟩:=SG h4 hs hp;obtain⟨f,g,h⟩:=zrP (D:=xI pages s) (c:=1) (s:=1) (n:=s) (by rw[e];exact decide_eq_true eu) (by rw[a 0 eu,if_pos rfl]) eu eu eu;refine⟨f,g,h,?_⟩;rw[xu,show(yf (xI pages s) s).size=s from aR s,Yq λj k=>by rw[a (1+j) eu,if_neg eu],zqe]
def Ec(pages s fr:Nat):Pl:=⟨tV (xI pages s) 2 1,⟨2,1,s,0,0,false⟩,fr,xx,xx,[],false⟩
theorem ztS{pages s:Nat}(fr:Nat)(h4:4<=s)(hs:s<=4000)(hp:pages<=500):xg (xI pages s) (rY (pF (xI pages s) 0)+1) (sZ (pF (xI pages s) 0))=true/\DN (xI pages s) s fr=(0,Ec pages s fr):=by
 obtain⟨e,h,i⟩:=SG h4 hs hp;obtain⟨j,a,c,f⟩:=zo2 h4 hs hp;have g:=Su e 2 1;rw[a,c];refine⟨g.1,?_⟩;unfold DN wo;rw[f,a,c,if_pos aX]
 rfl
theorem UX{pages s:Nat}(fr:Nat)(h4:4<=s)(hs:s<=4000)(hp:pages<=500):sJ (Ec pages s fr).D 1/\(Ec pages s fr).D.V.length=1+s+4*pages/\(Ec pages s fr).n=pages/\∀ j,j<1+s+4*pages->pF (Ec pages s fr).D j=if j=0 then uh 2 1 else rR:=by
 obtain⟨f,g,h⟩:=SG h4 hs hp;obtain⟨_,i,a,c⟩:=Su f 2 1;rw[g]at a c;refine⟨i,a,?_,λj e=>?_⟩
 .show vk (tV _ _ _).V.length s=pages
  rw[a,BS h4 hs]
 .show pF (tV _ _ _) j=_
  rw[c j e,h j e]
  split<;>rfl
theorem Ms{pages s fr:Nat}(h4:4<=s)(hs:s<=4000)(hp:pages<=500)(hp4:4<=pages)(h2:2<=fr)(hm:fr<=100):xD (Ec pages s fr):=by
 obtain⟨h,e,f,j⟩:=UX fr h4 hs hp;exact⟨⟨ax _,(by show 1<=2;omega),(by show 2<=_;omega),h4,hs,aC _,ax _,(by rw[e];show 1+s<=_;omega)⟩,by rw[f];exact hp4,h2,hm,(λi b a=>nomatch a),(λi b a=>nomatch a),(λc g=>nomatch g),aC _⟩
structure sW(P:Pl)(V:Nat->Pg)(k:Nat):Prop where
 ok:xD P
 al:sJ P.D 1
 gd:P.G.dead=false
 de:P.dead=false
 ct:P.G.count<=k
 dn:∀ n b,P.di n=some b->V n=b
 cl:∀ c∈P.cl,∃ n:Nat,c.num=(n:Int)/\P.di n=none/\c.page=V n
 pg:∀ n,n<P.n->P.di n=none->vH P.D (1+P.G.size+n*4)=V n
 ln:∀ n,n<P.n->(V n).length=512
theorem ztT{R:Rec}{n:Int}{c:Ch}(h:R[sj R n]?=some c):c.num=n:=by
 have a:=(aO.1 h).1;have hp:decide ((R[sj R n]).num=n)=true:=iE (p:=λc:Ch=>decide (c.num=n)) (xs:=R) (w:=a);have e:=(aO.1 h).2;rw[e]at hp;exact of_decide_eq_true hp
namespace sW
variable {P:Pl}{V:Nat->Pg}{k n:Nat}
theorem ask(h:sW P V k)(hn:n<P.n):wI P n=V n:=by
 unfold wI
 split
 .exact(h.dn _ _ ‹_›).symm
 .rename_i e
  split
  .rename_i c a
   obtain⟨m,g,i,f⟩:=h.cl c (aN a);have j:=ztT a;have:m=n:=by omega
   rw[f,this]
  .exact h.pg n hn e
theorem up(h:sW P V k){k2:Nat}(hk:k<=k2):sW P V k2:=⟨h.ok,h.al,h.gd,h.de,ag h.ct hk,h.dn,h.cl,h.pg,h.ln⟩
theorem vV(h:sW P V k)(hn:n<P.n):sW (vV P n) V k:=by
 have hX:=h.ask hn;have f:xD (Go.Proofs.YtpaniebomegnbaaGreat.vV P n):=by
  have g:(wI P n).length=512:=by rw[hX];exact h.ln n hn
  unfold Go.Proofs.YtpaniebomegnbaaGreat.vV
  split
  .exact h.ok
  .have a:=zrG h.ok.cl h.ok.cll n g
   exact⟨h.ok.lg,h.ok.n4,h.ok.fr2,h.ok.frm,h.ok.ch,h.ok.di,a.1,a.2⟩
 revert f
 unfold Go.Proofs.YtpaniebomegnbaaGreat.vV
 split
 .exact λ_=>h
 .rename_i i
  intro f;refine⟨f,h.al,h.gd,h.de,h.ct,h.dn,λc j=>?_,h.pg,h.ln⟩;have k:c∈without P.cl n\/c=⟨n,wI P n⟩:=by
   have e:c∈frameC P.fr P.cl n (wI P n):=j;unfold frameC at e
   split at e
   .have:=ek e
    rcases ay.1 this with a|a
    .exact .inl a
    .exact .inr<|aM.1 a
   .rcases ay.1 e with a|a
    .exact .inl a
    .exact .inr<|aM.1 a
  rcases k with a|rfl
  .exact h.cl c (dW.1 a).1
  .exact⟨n,rfl,i,hX⟩
theorem QO(h:sW P V k)(c:sH)(hc:∀ i b,c i=some b->b.length=512):sW {P with ch:=c} V k:=
 ⟨⟨h.ok.lg,h.ok.n4,h.ok.fr2,h.ok.frm,hc,h.ok.di,h.ok.cl,h.ok.cll⟩,h.al,h.gd,h.de,h.ct,h.dn,h.cl,h.pg,h.ln⟩
theorem Gj(h:sW P V k)(hn:n<P.n){X:Pg}(hX:X.length=512):sW (Gj P n X) V k:=by
 refine(h.vV hn).QO _ λi b hb=>?_
 unfold uJ at hb
 split at hb
 .split at hb
  .cases hb
  .rw[<-bX hb];exact hX
 .exact h.ok.ch i b hb
theorem Ef(h:sW P V k)(hn:n<P.n):sW (Ef P n) V k:=by
 unfold Go.Proofs.YtpaniebomegnbaaGreat.Ef
 split
 .exact h
 .exact h.vV hn
theorem yo(h:sW P V k)(hn:n<P.n):yo P n=(P.ch n).getD (V n):=by
 unfold Go.Proofs.YtpaniebomegnbaaGreat.yo
 split
 .rename_i b hb;rw[hb];rfl
 .rename_i hb;rw[hb];exact h.ask hn
end sW
theorem VW{D D':Dk}{a:Nat}(h:∀ i,i<4->pF D' (a+i)=pF D (a+i)):vH D' a=vH D a:=by
 unfold vH
 congr 1
 exact iY λi a=>h i (cz.1 a)
theorem ZT{D:Dk}{a:Nat}{X:Pg}(hX:X.length=512)(h:∀ i,i<4->pF D (a+i)=(qM X 4).getD i rR):vH D a=X:=by
 have e:((List.range 4).map λi=>pF D (a+i))=qM X 4:=by
  refine dV λi=>?_
  by_cases c:i<4
  .rw[aW,eQ c,dZ,h i c,Vg X c,bI,Vg X c];rfl
  .rw[bQ jQ,bQ (by rw[GL];omega)]
 unfold vH;rw[e,WH,aP eu]
theorem UN(s:Nat):∀ (l:List (Nat × Pg)) {D:Dk} {k:Nat},sJ D k->(sN s D l).2=true/\sJ (sN s D l).1 (k+4*l.length)/\(∀ j,j<D.V.length->j<1+s->pF (sN s D l).1 j=pF D j)/\
  (∀ n,1+s+n*4+4<=D.V.length->(∀ p∈l,p.1≠n)->vH (sN s D l).1 (1+s+n*4)=vH D (1+s+n*4))
 |[],D,k,h=>⟨rfl,h,λ_ _ _=>rfl,λ_ _ _=>rfl⟩
 |p::l,D,k,h=>by
  obtain⟨m,c,a⟩:=Qa (qM p.2 4) (1+s+p.1*4) h;rw[GL]at c a;obtain⟨o,r,t,u⟩:=UN s l c;have e:=Bi (qM p.2 4) D (1+s+p.1*4);rw[sN,if_pos m];refine⟨o,r.weak (by rw[aD];omega),λj f v=>?_,λn w g=>?_⟩
  .rw[t j (by rw[e];exact f) v,a j f,if_neg eu]
  .rw[u n (by rw[e];exact w) (λq y=>g q (aj _ y))]
   have z:=g p (aK ..);refine VW λi A=>?_
   rw[a _ eu,if_neg eu]
theorem O_(s:Nat):∀ (l:List (Nat × Pg)) {D:Dk} {k:Nat},sJ D k->(l.map (·.1)).Nodup->(∀ p∈l,p.2.length=512)->∀ p∈l,1+s+p.1*4+4<=D.V.length->vH (sN s D l).1 (1+s+p.1*4)=p.2
 |[],D,k,h,_,_=>λp hp=>nomatch hp
 |r::l,D,k,h,hnd,hl512=>λp hp g=>by
  obtain⟨o,a,j⟩:=Qa (qM r.2 4) (1+s+r.1*4) h;rw[GL]at a j;have m:=Bi (qM r.2 4) D (1+s+r.1*4);rw[aZ,df]at hnd;rw[sN,if_pos o];rcases ak.1 hp with rfl|hp
  .rw[(UN s l a).2.2.2 p.1 (by rw[m];exact g) λq c e=>hnd.1 (by rw[<-e];exact iK (f:=(·.1)) c)]
   refine ZT (hl512 p (aK ..)) λi t=>?_
   rw[j _ eu,if_pos eu,show 1+s+p.1*4+i - (1+s+p.1*4)=i by omega]
  .exact O_ s l a hnd.2 (λq c=>hl512 q (aj _ c)) p hp (by rw[m];exact g)
theorem zmC(c:sH):∀ (m a:Nat),((tL c a m).map (·.1)).Nodup
 |0,a=>fE
 |m+1,a=>by
  have f:=zmC c m (a+1);rw[tL]
  split
  .rw[aZ,df]
   refine⟨λg=>?_,f⟩;obtain⟨p,hp,e⟩:=bB.1 g;have:=Et hp;have h:p.1=a:=e;omega
  .exact f
theorem Py{c:sH}:∀ {m a i:Nat} {b:Pg},c i=some b->a<=i->i<a+m->(i,b)∈tL c a m
 |0,a,i,b,_,h1,h2=>by omega
 |m+1,a,i,b,h,h1,h2=>by
  rw[tL]
  by_cases e:a=i
  .subst e;rw[h];exact aK ..
  .have:=Py (m:=m) (a:=a+1) h eu eu
   split
   .exact aj _ this
   .exact this
theorem sW.settle{P:Pl}{V:Nat->Pg}{k:Nat}(h:sW P V k)(hk:k<=1000000):(rZ P).1=0/\sW (rZ P).2 V (k+1)/\(rZ P).2.di=xx/\(rZ P).2.G=Pq P.G/\(rZ P).2.ch=P.ch/\(rZ P).2.n=P.n/\(rZ P).2.fr=P.fr/\(rZ P).2.D.V.length=P.D.V.length:=by
 have H:=h.ct;have I:=h.ok.lg.fit;obtain⟨w1,w2,J,r⟩:=UN P.G.size (tL P.di 0 P.n) h.al;have j:=Ty P.G.size (tL P.di 0 P.n) P.D;obtain⟨k,s⟩:=OH w2;obtain⟨t,u,K,v⟩:=Su s (P.G.count+1) (P.G.count+1);have l:(rZ P).1=0:=by
  unfold rZ vC;rw[if_pos w1,if_pos k];dsimp only;unfold yc;rw[if_neg (by rw[h.gd];simp),if_neg eu,if_pos t]
 obtain⟨k1,k2,k3,k4,k5,k6,L,M,N,w⟩:=zmw h.ok l;obtain⟨y,z,A,B,C,D,g⟩:=SE P;have o:(rZ P).2.D=tV (su (sN P.G.size P.D (tL P.di 0 P.n)).1) (P.G.count+1) (P.G.count+1):=w;have E:∀ n,n<P.n->vH (rZ P).2.D (1+P.G.size+n*4)=V n:=λn f=>by
  have hr:=(Oy h.ok f).1;have F:vH (rZ P).2.D (1+P.G.size+n*4)=vH (sN P.G.size P.D (tL P.di 0 P.n)).1 (1+P.G.size+n*4):=by
   rw[o];refine VW λi O=>?_
   rw[v _ (by rw[FK,j];omega),if_neg eu,Te k (by rw[j];omega)]
  rw[F];cases hd:P.di n with
  |some b=>
   have G:=Py (m:=P.n) (a:=0) hd (aC _) eu;have:=O_ P.G.size _ h.al (zmC P.di P.n 0) (λp hp=>h.ok.di _ _ (Et hp).1) _ G (by dsimp only;omega);rw[this];exact(h.dn n b hd).symm
  |none=>
   rw[r n hr λp hp e=>by have:=(Et hp).1;rw[e,hd]at this;cases this];exact h.pg n f hd
 refine⟨l,⟨k1,by rw[o];exact u,by rw[k4];exact k5,by rw[D];exact h.de,by rw[k4];show P.G.count+1<=_;omega,?_,?_,?_,λn f=>h.ln n (by rw[<-g];exact f)⟩,k3,k4,A,g,C,y⟩
 .intro n b hb;rw[k3]at hb;cases hb
 .intro c q
  rw[B]at q;obtain⟨n,c1,c2,c3⟩:=h.cl c q;exact⟨n,c1,by rw[k3];rfl,c3⟩
 .intro n f _
  rw[z];exact E n (by rw[<-g];exact f)
theorem Wh(c:sH):∀ (m a:Nat) (P:Pl) (n:Nat),(rJ P ((tL c a m).map λp=>⟨p.1,p.2⟩)).di n=if a<=n/\n<a+m then(c n).or (P.di n)else P.di n
 |0,a,P,n=>by rw[if_neg eu];rfl
 |m+1,a,P,n=>by
  rw[tL];cases hc:c a with
  |some b=>
   have h:=Wh c m (a+1) {P with di:=uJ P.di a (some b),cl:=without P.cl (a:Int)} n;have e:rJ P (((a,b)::tL c (a+1) m).map λp=>(⟨p.1,p.2⟩:Ch))=rJ {P with di:=uJ P.di a (some b),cl:=without P.cl (a:Int)} ((tL c (a+1) m).map λp=>⟨p.1,p.2⟩):=rfl;dsimp only;rw[e,h];dsimp only[uJ]
   by_cases f:a+1<=n/\n<a+1+m
   .rw[if_pos f,if_neg (show¬n=a by omega),if_pos (show a<=n/\n<a+(m+1) by omega)]
   .rw[if_neg f]
    by_cases g:n=a
    .subst g;rw[if_pos rfl,if_pos eu,hc];rfl
    .rw[if_neg g,if_neg eu]
  |none=>
   dsimp only;rw[Wh c m (a+1) P n]
   by_cases f:a+1<=n/\n<a+1+m
   .rw[if_pos f,if_pos eu]
   .rw[if_neg f]
    by_cases g:n=a
    .subst g;rw[if_pos eu,hc];rfl
    .rw[if_neg eu]
theorem zrT:∀ (R:Rec) (P:Pl) (c:Ch),c∈(rJ P R).cl->c∈P.cl/\∀ r∈R,c.num≠r.num
 |[],P,c,a=>⟨a,λr hr=>nomatch hr⟩
 |r::R,P,c,a=>by
  obtain⟨g,h⟩:=zrT R {P with di:=uJ P.di r.num.toNat (some r.page),cl:=without P.cl r.num} c a;have f:=dW.1 g;refine⟨f.1,λq e=>?_⟩;rcases ak.1 e with rfl|e
  .have:=f.2
   simpa using this
  .exact h q e
def AQ(P:Pl)(V:Nat->Pg):Nat->Pg:=λn=>if n<P.n then(P.ch n).getD (V n)else V n
theorem zrU(G:Lg){R:Rec}(h1:1<=R.length)(h2:R.length<=60):vo (R.length:Int)=((vX G R).length:Int):=by
 rw[Wo];unfold vo;rw[if_pos eu,aR,dY]
theorem Gy{P:Pl}(h1:1<=(pM P).length)(h2:(pM P).length<=60)(hn:P.n<=2048):yK (pM P)=true:=by
 rw[yK,aJ];refine⟨decide_eq_true ⟨h1,h2⟩,dx.2 λc a=>?_⟩;obtain⟨p,hp,rfl⟩:=bB.1 a;have:=Et hp;exact decide_eq_true (by show(0:Int)<=(p.1:Int)/\(p.1:Int)<2147483648;omega)
theorem znR{P:Pl}{V:Nat->Pg}{k:Nat}(h:sW P V k)(hk:k<=1000000)(hn:P.n<=2048)(hR1:¬(pM P).length=0)(hR2:¬60<(pM P).length)(hfit:vo ((pM P).length:Int)<=((P.G.size - P.G.at_:Nat):Int)):
  (uP P.D P.G (pM P)).1=0/\sW {rJ (uD P (pM P)) (pM P)with ch:=xx} (AQ P V) k/\(uD P (pM P)).G={P.G with at_:=P.G.at_+(vX P.G (pM P)).length,num:=P.G.num+1}/\(uD P (pM P)).D.V.length=P.D.V.length/\
   (uD P (pM P)).D=(xG P.D (1+P.G.at_) (vX P.G (pM P))).1/\(uD P (pM P)).n=P.n:=by
 have g:=h.ok.lg;have K:=g.at_;have L:=zrU P.G (R:=pM P) eu eu;have w:P.G.at_+(vX P.G (pM P)).length<=P.G.size:=by omega
 have M:=g.num;have N:1<=(vX P.G (pM P)).length:=by
  rw[Wo];unfold qC qw;omega
 have r:=zmz h.al h.gd (Gy (P:=P) eu eu hn) w g.fit;obtain⟨O,C,s,D⟩:=XQ (vX P.G (pM P)) (1+P.G.at_) h.al;obtain⟨t,o,u,Q,E,v,F,G⟩:=QI (pM P) (uD P (pM P));have l:(uD P (pM P)).D=(xG P.D (1+P.G.at_) (vX P.G (pM P))).1:=by unfold uD;rw[r]
 have m:(uD P (pM P)).G={P.G with at_:=P.G.at_+(vX P.G (pM P)).length,num:=P.G.num+1}:=by unfold uD;rw[r]
 have p:(uD P (pM P)).n=P.n:=by unfold Pl.n;rw[l,m,s]
 have q:∀ n,(rJ (uD P (pM P)) (pM P)).di n=if n<P.n then(P.ch n).or (P.di n)else P.di n:=λn=>by
  have:=Wh P.ch P.n 0 (uD P (pM P)) n;unfold pM at this |-;rw[this]
  by_cases f:n<P.n
  .rw[if_pos eu,if_pos f];rfl
  .rw[if_neg eu,if_neg f];rfl
 refine⟨by rw[r],⟨⟨?_,?_,?_,?_,(λi b hb=>nomatch hb),?_,?_,?_⟩,?_,?_,?_,?_,?_,?_,?_,λn f=>?_⟩,m,by rw[l,s],l,p⟩
 .show AO (rJ _ _).D (rJ _ _).G
  rw[t,o,l,m];exact⟨g.s1,g.sc,g.cm,g.sz4,g.szm,w,by show P.G.num+1<=P.G.at_+_;omega,by rw[s];exact g.fit⟩
 .show 4<=(rJ _ _).n
  rw[v,p];exact h.ok.n4
 .show 2<=(rJ _ _).fr
  rw[u];exact h.ok.fr2
 .show(rJ _ _).fr<=100
  rw[u];exact h.ok.frm
 .intro i b hb
  have a:(rJ (uD P (pM P)) (pM P)).di i=some b:=hb;rw[q]at a
  split at a
  .cases e:P.ch i with
   |some x=>rw[e]at a;rw[<-bX a];exact h.ok.ch i x e
   |none=>rw[e]at a;exact h.ok.di i b a
  .exact h.ok.di i b a
 .exact F h.ok.cl
 .show(rJ _ _).cl.length<=(rJ _ _).fr
  rw[u];exact ag G h.ok.cll
 .show sJ (rJ _ _).D 1
  rw[t,l];exact C
 .show(rJ _ _).G.dead=false
  rw[o,m];exact h.gd
 .show(rJ _ _).dead=false
  rw[E];exact h.de
 .show(rJ _ _).G.count<=k
  rw[o,m];exact h.ct
 .intro n b hb
  have a:(rJ (uD P (pM P)) (pM P)).di n=some b:=hb;rw[q]at a;unfold AQ
  split
  .rename_i f
   rw[if_pos f]at a;cases e:P.ch n with
   |some x=>rw[e]at a;exact bX a
   |none=>rw[e]at a;exact h.dn n b a
  .rename_i f
   rw[if_neg f]at a;exact h.dn n b a
 .intro c e
  obtain⟨c1,c2⟩:=zrT (pM P) (uD P (pM P)) c e;obtain⟨n,y,z,A⟩:=h.cl c c1;have B:n<P.n->P.ch n=none:=λf=>by
   cases hcn:P.ch n with
   |none=>rfl
   |some x=>
    have H:(⟨(n:Int),x⟩:Ch)∈pM P:=bB.2 ⟨(n,x),Py hcn (aC _) eu,rfl⟩;exact absurd y<|c2 _ H
  refine⟨n,y,?_,?_⟩
  .show(rJ (uD P (pM P)) (pM P)).di n=none
   rw[q]
   split
   .rw[B ‹_›];exact z
   .exact z
  .unfold AQ
   split
   .rw[B ‹_›];exact A
   .exact A
 .intro n f I
  have j:n<P.n:=by
   have:(rJ (uD P (pM P)) (pM P)).n=P.n:=by rw[v,p]
   rw[<-this];exact f
  have a:(rJ (uD P (pM P)) (pM P)).di n=none:=I;rw[q,if_pos j]at a;have hr:=(Oy h.ok j).1;show vH (rJ _ _).D (1+(rJ _ _).G.size+n*4)=_;rw[t,o,l,m];have J:vH (xG P.D (1+P.G.at_) (vX P.G (pM P))).1 (1+P.G.size+n*4)=vH P.D (1+P.G.size+n*4):=VW λi S=>by
   rw[D _ eu,if_neg eu]
  unfold AQ;rw[if_pos j];cases e:P.ch n with
  |some x=>rw[e]at a;cases a
  |none=>
   rw[e]at a;show vH _ _=V n;dsimp only;rw[J];exact h.pg n j a
 .have j:n<P.n:=by
   have:(rJ (uD P (pM P)) (pM P)).n=P.n:=by rw[v,p]
   rw[<-this];exact f
  unfold AQ;rw[if_pos j];cases e:P.ch n with
  |some x=>exact h.ok.ch n x e
  |none=>exact h.ln n j
theorem XB:uB.length=512:=bi ..
theorem FJ{pages s fr:Nat}(h4:4<=s)(hs:s<=4000)(hp:pages<=500)(hp4:4<=pages)(h2:2<=fr)(hm:fr<=100):sW (Ec pages s fr) (λ_=>uB) 2:=by
 obtain⟨a,k,e,f⟩:=UX fr h4 hs hp;refine⟨Ms h4 hs hp hp4 h2 hm,a,rfl,rfl,ax _,(λn b g=>nomatch g),(λc h=>nomatch h),λn j _=>?_,λ_ _=>XB⟩;rw[e]at j;refine ZT XB λi l=>?_
 show pF (Ec pages s fr).D (1+s+n*4+i)=_;rw[f _ eu,if_neg eu,ZV]
section
variable {Y:World->List Nat->Prop}[mW Y]{lo:Nat}{L:List Nat}{w:World}
end
def k1(K:Pl)(X:Pg):Pl:=Gj K 1 X
def k2(K:Pl)(X:Pg):Pl:={k1 K X with ch:=xx}
def k3(K:Pl)(X:Pg):Pl:=Ef (k2 K X) 1
def k4(K:Pl)(X:Pg):Pl:=Gj (k3 K X) 1 X
def k5(K:Pl)(X:Pg):Pl:={rJ (uD (k4 K X) (pM (k4 K X))) (pM (k4 K X))with ch:=xx}
def k6(K:Pl)(X:Pg):Pl:=Ef (k5 K X) 1
section
variable {K:Pl}{X Z:Pg}
structure KOk(K:Pl)(X Z:Pg):Prop where
 i:sW K (λ_=>Z) 2
 n:K.n=5
 g:K.G=⟨2,1,12,0,0,false⟩
 di:K.di=xx
 xl:X.length=512
 xz:X≠Z
namespace KOk
end KOk
end
theorem FP(w:World):CQ 74 [.pointer none] w (λv w'=>v= .int .i64 0/\Below w.heap.size w w'):=by
 have a:=Below.refl w.heap.size w;refine nP (fn:=Tryz.f74) (rs:=[.tmp 2]) (n:=21) Tryz.func74 rfl rfl Tryz.ntmps74 dA rfl<|mR<|mV<|mQ<|ng<|mR<|mP<|mO (Qj dA rfl rfl)<|mP<|OX 5 rfl (rfl)<|nE<|nE<|nE<|nE<|nE<|mO (pO rfl)<|mQ<|uC rfl (rfl)<|mR<|mV<|mQ<|nQ<|qb<|nR [_] ⟨rfl,trivial⟩ ?_
 exact⟨rfl,a⟩
def yC(P:Pl)(n:Int):Prop:=0<=n/\n<(P.n:Int)
instance(P:Pl)(n:Int):Decidable (yC P n):=by unfold yC;exact inferInstance
def AZ(P:Pl)(n:Int):Int:=if yC P n then 0 else 2
def gX(P:Pl)(V:Nat->Pg)(n:Int):Pg:=if yC P n then(P.ch n.toNat).getD (V n.toNat)else uB
def gP(P:Pl)(n:Int):Pl:=if yC P n then Ef P n.toNat else P
def pP(P:Pl)(n:Int)(X:Pg):Pl:=if yC P n then Gj P n.toNat X else P
theorem ztU:bv uB=zP:=by rw[uB,bv,gu];rfl
theorem Jv{P:Pl}(h:P.dead=false)(n:Int):xN P n=AZ P n:=by
 unfold xN AZ yC;rw[h,if_neg ig]
namespace sW
variable {P:Pl}{V:Nat->Pg}{k:Nat}
theorem gP(h:sW P V k)(n:Int):sW (gP P n) V k:=by
 unfold Go.Proofs.YtpaniebomegnbaaGreat.gP
 split
 .rename_i a;exact h.Ef (by unfold yC at a;omega)
 .exact h
theorem pP(h:sW P V k)(n:Int){X:Pg}(hX:X.length=512):sW (pP P n X) V k:=by
 unfold Go.Proofs.YtpaniebomegnbaaGreat.pP
 split
 .rename_i a;exact h.Gj (by unfold yC at a;omega) hX
 .exact h
end sW
section
variable {Y:World->List Nat->Prop}[mW Y]{q lo:Nat}{L:List Nat}{P:Pl}{V:Nat->Pg}{k:Nat}{w:World}
omit [mW Y] in
theorem z_n(h:Two (PZ q P) Y lo L w):P.n<=2048:=by
 obtain⟨g,x,mc,md,cv,a⟩:=Nf h;exact a.BV.1
theorem Uf(h:Two (PZ q P) Y lo L w)(hi:sW P V k)(n:Int):CQ 118 [.pointer (some ⟨q,0,none⟩), .int .i64 n] w (λv w'=>v= .tuple #[.agg (bv (gX P V n)).toArray, .int .i64 (AZ P n)]/\Two (PZ q (gP P n)) Y lo L w'/\mX lo L w w'):=by
 by_cases a:yC P n
 .have i:=a
  unfold yC at i;obtain⟨m,rfl⟩:∃ m:Nat,n=m:=⟨n.toNat,eu⟩;unfold gX AZ gP;rw[if_pos a,if_pos a,if_pos a,aR,<-hi.yo eu];exact Xc h λg x mc md cv c=>JS c hi.ok hi.de m eu
 .unfold gX gP
  rw[if_neg a,if_neg a,ztU];obtain⟨g,x,mc,md,cv,c⟩:=Nf h;have hr:=Jv hi.de n;have j:xN P n≠0:=by rw[hr];unfold AZ;rw[if_neg a];omega
  have e:=QT c hi.ok.lg.szm n j;rw[hr]at e;exact e.to λv w' ⟨k,f⟩=>⟨k,h.new f,mX.of_below f⟩
theorem VJ(h:Two (PZ q P) Y lo L w)(hi:sW P V k)(n:Int){X:Pg}(hX:X.length=512):CQ 71 [.pointer (some ⟨q,0,none⟩), .int .i64 n, .agg (bv X).toArray] w (λv w'=>v= .int .i64 (AZ P n)/\Two (PZ q (pP P n X)) Y lo L w'/\mX lo L w w'):=by
 by_cases a:yC P n
 .have i:=a
  unfold yC at i;obtain⟨m,rfl⟩:∃ m:Nat,n=m:=⟨n.toNat,eu⟩;unfold AZ pP;rw[if_pos a,if_pos a,aR];exact Xc h λg x mc md cv c=>MC c hi.ok hi.de m eu X hX
 .unfold pP
  rw[if_neg a];obtain⟨g,x,mc,md,cv,c⟩:=Nf h;have hr:=Jv hi.de n;have j:xN P n≠0:=by rw[hr];unfold AZ;rw[if_neg a];omega
  have e:=Qy c hi.ok.lg.szm n X j;rw[hr]at e;exact e.to λv w' ⟨k,f⟩=>⟨k,h.new f,mX.of_below f⟩
theorem FX(h:Two (PZ q P) Y lo L w)(hi:sW P V k):CQ 32 [.pointer (some ⟨q,0,none⟩)] w (λv w'=>v= .int .i64 (uu P).1/\Two (PZ q (uu P).2) Y lo L w'/\mX lo L w w'):=
 Xc h λg x mc md cv a=>zrK a hi.ok hi.de (xZ hi.al.short eu)
end
def Uh(P:Pl)(V:Nat->Pg):Nat->Pg:=if(uu P).1=0 then AQ P V else V
theorem zrV{P:Pl}{V:Nat->Pg}(h:(pM P).length=0):AQ P V=V:=by
 funext n
 unfold AQ
 split
 .rename_i c
  cases hc:P.ch n with
  |none=>rfl
  |some x=>
   have a:(⟨(n:Int),x⟩:Ch)∈pM P:=bB.2 ⟨(n,x),Py hc (aC _) eu,rfl⟩;rw[bH h]at a;cases a
 .rfl
theorem sW.za{P:Pl}{V:Nat->Pg}{k:Nat}(h:sW P V k)(hk:k<=900000)(hn:P.n<=2048):sW (uu P).2 (Uh P V) (k+1)/\(uu P).2.n=P.n/\(uu P).2.fr=P.fr/\
  ((pM P).length<=60->vo ((pM P).length:Int)<=(P.G.size:Int)->(uu P).1=0)/\((uu P).1=0->0<(pM P).length->(uu P).2.ch=xx):=by
 unfold Uh
 by_cases a:(pM P).length=0
 .have e:uu P=(0,P):=by unfold uu;rw[if_pos a]
  rw[e,if_pos rfl,zrV a];exact⟨h.up eu,rfl,rfl,λ_ _=>rfl,λ_ c=>eu⟩
 by_cases f:60<(pM P).length
 .have e:uu P=(3,P):=by unfold uu;rw[if_neg a,if_pos f]
  rw[e,if_neg ig];exact⟨h.up eu,rfl,rfl,λc _=>eu,λc=>by simp at c⟩
 by_cases j:(P.G.size:Int)<vo ((pM P).length:Int)
 .have e:uu P=(8,P):=by unfold uu;rw[if_neg a,if_neg f,if_pos j]
  rw[e,if_neg ig];exact⟨h.up eu,rfl,rfl,λ_ c=>eu,λc=>by simp at c⟩
 have p:(um P).1=0/\sW (um P).2 V (k+1)/\pM (um P).2=pM P/\vo ((pM P).length:Int)<=(((um P).2.G.size - (um P).2.G.at_:Nat):Int)/\(um P).2.ch=P.ch/\(um P).2.n=P.n/\(um P).2.fr=P.fr:=by
  unfold um
  split
  .obtain⟨q,r,D,s,l,m,t,E⟩:=h.settle eu
   refine⟨q,r,by unfold pM;rw[l,m],?_,l,m,t⟩;rw[s];show _<=((P.G.size - 0:Nat):Int);omega
  .rename_i hr
   exact⟨rfl,h.up eu,rfl,Int.not_lt.1 hr,rfl,rfl,rfl⟩
 obtain⟨u,v,g,w,y,i,z⟩:=p;have o:=znR v eu (by rw[i];exact hn) (by rw[g];exact a) (by rw[g];exact f) (by rw[g];exact w);rw[g]at o;obtain⟨c1,c2,c3,F,G,A⟩:=o;have e:uu P=(0,{rJ (uD (um P).2 (pM P)) (pM P)with ch:=xx}):=by
  unfold uu;rw[if_neg a,if_neg f,if_neg j,if_pos u,if_pos c1]
 have ev:AQ (um P).2 V=AQ P V:=by unfold AQ;rw[y,i]
 rw[e,if_pos rfl,<-ev];obtain⟨H,I,B,J,K,C,L,M⟩:=QI (pM P) (uD (um P).2 (pM P));refine⟨c2,?_,?_,λ_ _=>rfl,λ_ _=>rfl⟩
 .show(rJ _ _).n=P.n
  rw[C,A,i]
 .show(rJ _ _).fr=P.fr
  rw[B];exact z
structure Jm(P Q:Pl):Prop where
 D:Q.D=P.D
 G:Q.G=P.G
 ch:Q.ch=P.ch
 di:Q.di=P.di
 de:Q.dead=P.dead
namespace Jm
variable {P Q:Pl}
end Jm
end Go.Proofs.YtpaniebomegnbaaGreat
namespace Coup
open Go Go.RowKit
def sM(A:Value->World->Prop)(B:List PanicEntry->World->Prop):Ending->World->Prop
 | .returned v,w=>A v w
 | .panicked c,w=>B c w
 | .outgrown,_=>False
theorem _root_.Go.Calls.toP{P:Program}{f:FuncId}{args:Array Value}{w:World}{R A:Value->World->Prop}{B:List PanicEntry->World->Prop}(h:Calls P f args w (pX R))(hr:∀ v w',R v w'->A v w'):Calls P f args w (sM A B):=
 h.mono λe w' ⟨v,a,c⟩=>by subst a;exact hr v w' c
theorem _root_.Go.Calls.zM{P:Program}{f:FuncId}{args:Array Value}{w:World}{A A':Value->World->Prop}{B B':List PanicEntry->World->Prop}(h:Calls P f args w (sM A B))(hr:∀ v w',A v w'->A' v w')(hb:∀ c w',B c w'->B' c w'):Calls P f args w (sM A' B'):=
 h.mono λe w' h=>by
  cases e with
  |returned v=>exact hr v w' h
  |panicked c=>exact hb c w' h
  |outgrown=>exact h
section
variable {md:Option Nat->Prop}{P:Program}{n:Nat}{Q:Post}{ρ:Env}{w:World}
theorem zrW{o:Oper}{r:Next}{w':World}(hr:(execOp (ev ρ) o).run P w= .ok r w')(hd:∀ d,r≠ .defer d):∀ c,o.op≠ .defer c:=by
 intro c a;have e:(execOp (ev ρ) o).run P w=((do pure (.defer (<-resolve (ev ρ) c o.type))):Sem Next).run P w:=by simp only[execOp,a]
 rw[e]at hr;simp only[Sem.run_bind]at hr;cases hq:(resolve (ev ρ) c o.type).run P w with
 |ok d w'=>rw[hq]at hr;cases hr;exact hd _ rfl
 |halt x w'=>rw[hq]at hr;cases hr
theorem XA {o:Oper} {K:Env->World->Prop} {Kp:List PanicEntry->World->Prop} {f:FuncId} {vl:List Value} {A:Value->World->Prop} {B:List PanicEntry->World->Prop} (hr:(execOp (ev ρ) o).run P w= .ok (.enter f vl.toArray) w)
  (hc:Calls P f vl.toArray w (sM A B)) (hp:∀ c w',B c w'->Kp c w') (h:∀ v w',A v w'->K (qo ρ o.dst v) w'):zW P o K Kp ρ w:=by
 refine⟨zrW hr ig,?_⟩;rw[hr];refine hc.mono λe w' a=>?_
 cases e with
 |returned v=>exact h v w' a
 |panicked c=>exact hp c w' a
 |outgrown=>exact a
theorem vG {ops:Array Oper} {rest:List Oper} {o:Oper} (hg:o.guard=none) {f:FuncId} {vl:List Value} {A:Value->World->Prop} {B:List PanicEntry->World->Prop} (hr:(execOp (ev ρ) o).run P w= .ok (.enter f vl.toArray) w)
 (hc:Calls P f vl.toArray w (sM A B)) (hp:∀ c w',B c w'->Q (.panic c) ρ w') (h:∀ v w',A v w'->WR md P n ops rest Q (qo ρ o.dst v) w'):WR md P n ops (o::rest) Q ρ w:=Du hg (XA hr hc hp h)
theorem Gq {l:List Oper} {S:World->Prop} {done:List Nat} {i:Nat} (hi:Nat.blt i l.length=true) (hw:Region.wanted (qh l i) (yl l.toArray ρ)=true) {f:FuncId} {vl:List Value} {A:Value->World->Prop} {B:List PanicEntry->World->Prop} (hr:(execOp (ev ρ) (qh l i)).run P w= .ok (.enter f vl.toArray) w)
 (hc:Calls P f vl.toArray w (sM A B)) (hp:∀ c w',B c w'->TH Q ρ.ms c w') (h:∀ v w',A v w'->S w'/\WA md P n l S Q (i::done) (qo ρ (qh l i).dst v) w'):WO md P n l S Q done i ρ w:=Lv hi hw (XA hr hc hp h)
def pe(v:Value):List PanicEntry:=[{v,recovered:=false}]
theorem ZE{ops:Array Oper}{rest:List Oper}{d:Option Nat}{x:Operand}{ty:TypeId}{pos:String}{af:Array Edge}{t:TypeId}{v:Value}(hx:ev ρ x= .iface t v)(h:Q (.panic (pe (.iface t v))) ρ w):WR md P n ops (⟨d, .panic x,ty,pos,af,none⟩::rest) Q ρ w:=by
 refine Du rfl ⟨ig,?_⟩;have hr:(execOp (ev ρ) ⟨d, .panic x,ty,pos,af,none⟩).run P w= .halt (.panic (.iface t v)) w:=by
  simp only[execOp,hx]
  rfl
 rw[hr];exact h
def Ay(P:Program)(rs:List ResultVar)(A:Value->World->Prop)(B:List PanicEntry->World->Prop)(ρ:Env):List Dm->FrameMode->World->Prop
 |[], .returning,w=>∃ vs,xK P w ρ rs vs/\A (pack vs) w
 |[], .panicking c,w=>B c w
 |[], .run,_=>False
 | .m D::ms,u,w=>u≠ .run/\w.heap[D]?=some (.deferred (some []))/\Ay P rs A B ρ ms u (w.putObj D (.deferred none))
 | .fn g cap args::ms,u,w=>u≠ .run/\vv P g=true/\CallsDIn Fence.wide 8 P g (args++cap).toArray u w fun
  | .returned _,a,w'=>Ay P rs A B ρ ms (settle a) w'
  | .panicked c,a,w'=>Ay P rs A B ρ ms (raised a c) w'
  | .outgrown,_,_=>False
def JK(P:Program)(rs:List ResultVar)(A:Value->World->Prop)(B:List PanicEntry->World->Prop):Post
 | .normal,ρ,w=>Ay P rs A B ρ ρ.ms .returning w
 | .ret,ρ,w=>Ay P rs A B ρ ρ.ms .returning w
 | .panic c,ρ,w=>Ay P rs A B ρ ρ.ms (.panicking c) w
 |_,_,_=>False
theorem Db{g:Nat}{vl:List Value}(h:vv P g=true):(callFunc g vl.toArray).run P w= .ok (.enter g vl.toArray) w:=by
 unfold vv at h;cases hfn:P.funcs[g]? with
 |none=>simp[hfn]at h
 |some f=>
  rw[hfn]at h;simp only[aJ,dU]at h;cases hb:f.body with
  |none=>simp[hb]at h
  |some c=>
   have a:¬f.name= "runtime.NumGoroutine" :=by simpa using h.1
   simp[callFunc,program,Sem.run,hfn,a,hb,Result.andThen]
theorem vQ {f:FuncId} {fn:Func} {c:Code} {rs:List ResultVar} {args:List Value} {A:Value->World->Prop} {B:List PanicEntry->World->Prop}
  (hf:P.funcs[f]?=some fn) (hb:fn.body=some c) (hr:fn.results=rs.toArray) (hn:fn.ntmps=n) (hok:codeOk n c=true) (hl:Nat.ble args.length n=true)
  (h:W (λrd=>rd=none) P n c (JK P rs A B) (Fu args) w):Calls P f args.toArray w (sM A B):=by
 have s:args.length<=n:=iq hl;refine(callsIn_wide (n:=9)).1 (callsIn_of_wp_marks hf hb trivial ?_ rfl);have t:=Ro (n:=n) args fn.ntmps hn s;refine wpIn_mono (h hok none _ rfl t) ?_;rintro e p w' ⟨y,q,a⟩;have key:∀ (j:List Dm) (u:FrameMode) (w:World),Ay P rs A B y j u w->LeavesInM Fence.wide 9 P fn p.tmps (sM A B) (j.map Dm.d) u w:=by
  intro j
  induction j with
  |nil=>
   intro u w f;cases u with
   |run=>exact f.elim
   |returning=>
    obtain⟨vs,k,o⟩:=f;exact⟨_,NE hr q.t k,o⟩
   |panicking ch=>exact f
  |cons D j ih=>
   intro u w f;cases D with
   |m D=>
    obtain⟨a,k,o⟩:=f;exact⟨a, .inl ⟨D,_,rfl,run_takeDeferred k,ih _ _ o⟩⟩
   |fn g cap args=>
    obtain⟨a,k,o⟩:=f;refine⟨a, .inr ⟨(λz=>nomatch z),_,_,g,(args++cap).toArray,rfl,?_,λ_ _=>trivial,o.mono ?_⟩⟩
    .have e:args.toArray++cap.toArray=(args++cap).toArray:=by simp
     simp only[Dm.d,invoke,e];exact Db k
    .intro e C w' r
     cases e with
     |returned v=>exact ih _ _ r
     |panicked c=>exact ih _ _ r
     |outgrown=>exact r.elim
 cases e with
 |normal=>show LeavesInM _ _ _ _ _ _ p.defers _ _;rw[q.d];exact key _ _ _ a
 |ret=>show LeavesInM _ _ _ _ _ _ p.defers _ _;rw[q.d];exact key _ _ _ a
 |exit i=>exact a.elim
 |goto l=>exact a.elim
 |panic c=>show LeavesInM _ _ _ _ _ _ p.defers _ _;rw[q.d];exact key _ _ _ a
 |outgrown=>exact a.elim
theorem Ei{rs:List ResultVar}{A:Value->World->Prop}{B:List PanicEntry->World->Prop}(vs:List Value)(h:xK P w ρ rs vs)(hR:A (pack vs) w)(hm:ρ.ms=[]:=by rfl):JK P rs A B .normal ρ w:=by
 show Ay P rs A B ρ ρ.ms _ w;rw[hm];exact⟨vs,h,hR⟩
theorem vP{rs:List ResultVar}{A:Value->World->Prop}{B:List PanicEntry->World->Prop}{c:List PanicEntry}(hR:B c w)(hm:ρ.ms=[]:=by rfl):JK P rs A B (.panic c) ρ w:=by
 show Ay P rs A B ρ ρ.ms _ w;rw[hm];exact hR
theorem WC {ops:Array Oper} {rest:List Oper} {x:Operand} {al:List Operand} {vl cl:List Value} {ats:Array Nat} {ty:TypeId} {pos:String} {af:Array Edge} {g:Nat} (hmd:∀ rd,md rd->rd=none)
  (hx:ev ρ x= .func (.func g) #[] cl.toArray) (hv:al.map (ev ρ)=vl) (h:WR md P n ops rest Q ⟨ρ.f, .fn g cl vl::ρ.ms⟩ w):WR md P n ops (⟨none, .defer ⟨.value x,al.toArray,ats⟩,ty,pos,af,none⟩::rest) Q ρ w:=by
 intro e rd a i c;obtain rfl:=hmd rd i;simp only[fQ,aJ]at e;refine wpListIn_plain rfl λK' j=>?_
 refine⟨λf _=>IU none f,?_⟩;have k:al.toArray.map (ev ρ)=vl.toArray:=by rw[<-hv];simp
 have hr:(execOp (ev ρ) ⟨none, .defer ⟨.value x,al.toArray,ats⟩,ty,pos,af,none⟩).run P w= .ok (.defer (Dm.d (.fn g cl vl))) w:=by
  simp only[execOp,resolve,k,hx,Deferred.ofValue,Dm.d];simp[Result.andThen,Sem.run_bind,Sem.run_pure]
 show Oper.uponIn _ _ _ _ _ _ _ ((Oper.semAt (fr none).round a.eval _).run P w);rw[YX,Oper.semAt_none,c.ev,hr,Oper.uponIn_defer];exact j _ _<|h e.2 none _ i ⟨by simp[Act.put,c.d],c.s,c.t⟩
def Dq(P:Program)(rs:List ResultVar)(A:Value->World->Prop):Post
 | .normal,ρ,w=>ρ.ms=[]/\∃ vs,xK P w ρ rs vs/\A (pack vs) w
 | .ret,ρ,w=>ρ.ms=[]/\∃ vs,xK P w ρ rs vs/\A (pack vs) w
 |_,_,_=>False
theorem SK{rs:List ResultVar}{A:Value->World->Prop}(vs:List Value)(h:xK P w ρ rs vs)(hR:A (pack vs) w)(hm:ρ.ms=[]:=by rfl):Dq P rs A .normal ρ w:=⟨hm,vs,h,hR⟩
theorem g_ {f:FuncId} {fn:Func} {id d e:Nat} {ats:Array Nat} {ty1 ty2:TypeId} {pos1 pos2:String} {af1 af2:Array Edge} {rest:Code} {rs:List ResultVar} {args:List Value} {A:Value->World->Prop} {u u2:FrameMode} {x:Value}
  (hf:P.funcs[f]?=some fn) (hb:fn.body=some (.seq (.region id #[⟨some d, .call ⟨.builtin .recover,#[],ats⟩,ty1,pos1,af1,none⟩,⟨some e, .assign (.tmp d),ty2,pos2,af2,none⟩] false) rest)) (hr:fn.results=rs.toArray) (hn:fn.ntmps=n)
  (hok:codeOk n rest=true) (hd:Nat.blt d n=true) (he:Nat.blt e n=true) (hl:Nat.ble args.length n=true)
  (hu:∀ (c₀:Frame) (cs:List Frame),c₀.mode=u->recoverD (c₀::cs)=some (x,{c₀ with mode:=u2}::cs)\/(recoverD (c₀::cs)=none/\u2=u/\x= .nilIface))
  (h:W (λrd=>rd=none) P n rest (Dq P rs A) (up (up (Fu args) d x) e x) w):CallsDIn Fence.wide 8 P f args.toArray u w (λen u' w'=>u'=u2/\pX A en w'):=by
 have I:args.length<=n:=iq hl;have y:=Ro (n:=n) args fn.ntmps hn I;refine callsDIn_of_wpSIn hf hb trivial λc₀ cs D=>wpSIn_seq (wpSIn_region ?_)
 have E:∀ (o:List Frame),o={c₀ with mode:=u2}::cs->∀ r,Ag n r (up (up (Fu args) d x) e x)->rest.wpSIn Fence.wide 8 P (bodyPostS P fn c₀ cs λen u' w'=>u'=u2/\pX A en w') r o w:=by
  rintro o rfl r J;refine wpSIn_of_wpIn rfl ?_;have K:=h hok none r rfl J;have L:rest.wpIn Fence.wide 8 P (lift n (Dq P rs A)) r w:=λb k cs M hb hr=>K b k cs M hb (room_wide _)
  refine wpIn_mono L ?_;rintro en a3 w2 ⟨a4,p,q⟩;cases en with
  |normal=>
   obtain⟨z,vs,B,C⟩:=q;exact⟨by rw[p.d,z];rfl,u2,rfl,_,NE hr p.t B,rfl,_,rfl,C⟩
  |ret=>
   obtain⟨z,vs,B,C⟩:=q;exact⟨by rw[p.d,z];rfl,u2,rfl,_,NE hr p.t B,rfl,_,rfl,C⟩
  |exit i=>exact q.elim
  |goto l=>exact q.elim
  |panic c=>exact q.elim
  |outgrown=>exact q.elim
 have F:d<n:=by simpa using hd
 have N:e<n:=by simpa using he
 generalize ({tmps:=args.toArray++Array.replicate (fn.ntmps - args.toArray.size) undef,defers:=[]}:Act)=a at y |-;have G:∀ v,Ag n ((a.put (some d) v).put (some e) v) (up (up (Fu args) d v) e v):=λv=>
  (y.put (some d) (λk s=>by cases s;exact F) v).put (some e) (λk s=>by cases s;exact N) v
 have O:∀ v,(a.put (some d) v).eval (.tmp d)=v:=λv=>by
  have p:=(y.put (some d) (λk s=>by cases s;exact F) v).t d;show(a.put (some d) v).tmps.getD d undef=v;rw[p];exact IV _ _ _
 have Q:(execOp a.eval ⟨some d, .call ⟨.builtin .recover,#[],ats⟩,ty1,pos1,af1,none⟩).run P w= .ok .recover w:=rfl;have R:∀ v,(execOp (a.put (some d) v).eval ⟨some e, .assign (.tmp d),ty2,pos2,af2,none⟩).run P w= .ok (.value v) w:=λv=>by
  show Result.ok (Next.value ((a.put (some d) v).eval (.tmp d))) w=_;rw[O]
 have key:∀ (g m:Oper),Region.wanted g (λj=>yielded #[g,m] a.tmps j)=true->(∀ v,Region.wanted m (λj=>yielded #[g,m] (a.put (some d) v).tmps j)=true)->g.dst=some d->m.dst=some e->
   (execOp a.eval g).run P w= .ok .recover w->(∀ v,(execOp (a.put (some d) v).eval m).run P w= .ok (.value v) w)->
   wpOpsSIn Fence.wide 8 P #[g,m] (Exit.thenS (rest.wpSIn Fence.wide 8 P (bodyPostS P fn c₀ cs λen u' w'=>u'=u2/\pX A en w')) (bodyPostS P fn c₀ cs λen u' w'=>u'=u2/\pX A en w')) [0,1] a (c₀::cs) w:=by
  intro g m w1 w2 S T U V;have X:(#[g,m]:Array Oper)[0]?=some g:=rfl;have Y:(#[g,m]:Array Oper)[1]?=some m:=rfl;simp only[wpOpsSIn,X,Y];refine⟨λ_ _=>trivial,?_⟩;have Z:Region.wanted g (yielded #[g,m] a.tmps)=true:=w1;simp only[Z,if_true,U];have H:∀ v o,rest.wpSIn Fence.wide 8 P (bodyPostS P fn c₀ cs λen u' w'=>u'=u2/\pX A en w') ((a.put (some d) v).put (some e) v) o w->
    (∀ f,m.about P w (a.put g.dst v).eval=some f->Fence.wide.fn f)/\(if Region.wanted m (yielded #[g,m] (a.put g.dst v).tmps)=true then
     (match (execOp (a.put g.dst v).eval m).run P w with
     | .ok .recover w'=>
      (match recoverD o with
      |some (v',cs'')=>Exit.thenS (rest.wpSIn Fence.wide 8 P (bodyPostS P fn c₀ cs λen u' w'=>u'=u2/\pX A en w')) (bodyPostS P fn c₀ cs λen u' w'=>u'=u2/\pX A en w') .normal ((a.put g.dst v).put m.dst v') cs'' w'
      |none=>Exit.thenS (rest.wpSIn Fence.wide 8 P (bodyPostS P fn c₀ cs λen u' w'=>u'=u2/\pX A en w')) (bodyPostS P fn c₀ cs λen u' w'=>u'=u2/\pX A en w') .normal ((a.put g.dst v).put m.dst .nilIface) o w')
     | .ok (.value v') w'=>Exit.thenS (rest.wpSIn Fence.wide 8 P (bodyPostS P fn c₀ cs λen u' w'=>u'=u2/\pX A en w')) (bodyPostS P fn c₀ cs λen u' w'=>u'=u2/\pX A en w') .normal ((a.put g.dst v).put m.dst v') o w'
     | .ok .skip w'=>Exit.thenS (rest.wpSIn Fence.wide 8 P (bodyPostS P fn c₀ cs λen u' w'=>u'=u2/\pX A en w')) (bodyPostS P fn c₀ cs λen u' w'=>u'=u2/\pX A en w') .normal ((a.put g.dst v).put m.dst undef) o w'
     | .halt (.panic v') w'=>Exit.thenS (rest.wpSIn Fence.wide 8 P (bodyPostS P fn c₀ cs λen u' w'=>u'=u2/\pX A en w')) (bodyPostS P fn c₀ cs λen u' w'=>u'=u2/\pX A en w') (.panic [{v:=v',recovered:=false}]) (a.put g.dst v) o w'
     |_=>False)
     else Exit.thenS (rest.wpSIn Fence.wide 8 P (bodyPostS P fn c₀ cs λen u' w'=>u'=u2/\pX A en w')) (bodyPostS P fn c₀ cs λen u' w'=>u'=u2/\pX A en w') .normal ((a.put g.dst v).put m.dst undef) o w):=by
   intro v o a0;refine⟨λ_ _=>trivial,?_⟩;have a1:Region.wanted m (yielded #[g,m] (a.put (some d) v).tmps)=true:=w2 v;rw[S];simp only[a1,if_true,V,T];exact a0
  rcases hu c₀ cs D with u|⟨u,rfl,rfl⟩
  .simp only[u]
   exact H _ _<|E _ rfl _<|G _
  .simp only[u]
   have a2:∀ u2,c₀.mode=u2->c₀::cs={c₀ with mode:=u2}::cs:=λu2 h=>by subst h;rfl
   have t:=H .nilIface (c₀::cs) (E (c₀::cs) (a2 _ D) _ (G _));simp only[u]at t;exact t
 exact key _ _ rfl (λ_=>rfl) rfl rfl Q R
theorem CK(v:Value)(c₀:Frame)(cs:List Frame)(h:c₀.mode= .panicking (pe v)):recoverD (c₀::cs)=some (v,{c₀ with mode:=.panicking [{v,recovered:=true}]}::cs):=by
 simp only[recoverD,h,pe]
theorem CV(c₀:Frame)(cs:List Frame)(h:c₀.mode= .returning):recoverD (c₀::cs)=none:=by
 simp only[recoverD,h]
end
def EX{τ:Type}(P:Program)(gf:Nat)(lb:List Value)(m:Nat)(V:τ->Nat->List Value->World->List Nat->List Nat->List Nat->Prop)(T0:τ->Nat->World->Prop)(ks:List Nat)(X:World->List Nat->Prop)(lo:Nat)(w:World):Prop:=
 ∀ {α:Type} (Y:World->List Nat->Prop) [mW Y] (E:α->List Nat) (l:Nat) (J:τ->Nat->α->World->Prop) (Jx:World->Prop) (W:World) (L:List Nat),
  (∀ b∈ks,b∈L/\W.heap[b]?=w.heap[b]?)->(∀ t k a W W',J t k a W->mX lo (E a++L) W W'->J t k a W')->(∀ W W',Jx W->Below W.heap.size W W'->Jx W')->(∀ t k a W,J t k a W->∀ b∈E a,b∉ks)->
  (∀ t k v a W1 c Fr,k<m->V t k v W1 c Fr (E a)->(∀ b∈c,b∈ks\/W.heap.size<=b)->(∀ b∈Fr,W.heap.size<=b/\b∉c/\b∉E a)->Two X Y lo (Fr++(c++(E a++L))) W1->J t k a W1->OE P l v W1 λe W'=>(e= .returned (.bool true)/\(∃ f,Two X Y lo (c++(E f++L)) W'/\J t (k+1) f W')/\(∀ b∈c,W'.heap[b]?=W1.heap[b]?)/\W1.heap.size<=W'.heap.size)\/(e= .returned (.bool false)/\Jx W'))->
  ∀ a,Two X Y lo (E a++L) W->(∀ t W',T0 t W.heap.size W'->mX lo (E a++L) W W'->J t 0 a W')->Calls P gf (.func (.yield l) #[] #[]::lb).toArray W (pX λ_ W'=>(∃ t f,Two X Y lo (E f++L) W'/\J t m f W')\/Jx W')
theorem zhu{lo n b:Nat}{L:List Nat}(h1:lo<=b)(h2:b∉L)(h3:b<n):b∈Eo lo L n:=dW.2 ⟨cz.2 h3,decide_eq_true λa=>a.elim (λa=>eu) h2⟩
theorem Gm{w:World}{D:Nat}(o:Obj):Only D w (w.putObj D o):=⟨rfl,rfl,rfl,ig,λ_ a=>World.putObj_heap_other a⟩
theorem Two.zn{X Y:World->List Nat->Prop}[hX:mW X][hY:mW Y]{lo:Nat}{L M:List Nat}{w w':World}(h:Two X Y lo L w)(hb:Below w.heap.size w w')(hM:∀ b∈M,w.heap.size<=b/\b<w'.heap.size):Two X Y lo (M++L) w':=by
 obtain⟨⟨B,C,e,f,c,g⟩,i,j⟩:=h;refine⟨⟨B,C,hX.nu e (M:=[]) (Kp.of_below hb) ig,hY.nu f (M:=[]) (Kp.of_below hb) ig,λb hb=>⟨(c b hb).1,(c b hb).2.1,λa=>?_⟩,λb hb=>⟨(g b hb).1,λa=>?_⟩⟩,ag i hb.size,λb a=>?_⟩
 .rcases ay.1 a with a|a
  .have:=hX.lt e b hb;have:=(hM b a).1;omega
  .exact(c b hb).2.2 a
 .rcases ay.1 a with a|a
  .have:=hY.lt f b hb;have:=(hM b a).1;omega
  .exact(g b hb).2 a
 .rcases ay.1 a with a|a
  .exact(hM b a).2
  .exact ae (j b a) hb.size
theorem Two.MS{X Y:World->List Nat->Prop}[hX:mW X][hY:mW Y]{lo base e sz m:Nat}{L:List Nat}{w w':World}{u v:Value}{xs:List Value}(h:Two X Y lo L w)(hu:∀ b∈u.ownBlock.toList,b∈L)(hg:w.grownBy w' u.ownBlock)(hf:∀ b,v.ownBlock=some b->u.ownBlock=some b\/w.heap.size<=b)(hv:nY w' base e sz v m xs):Two X Y lo (v.ownBlock.toList++L) w':=by
 have f:=Kp.rX hg;obtain⟨⟨B,C,i,j,c,g⟩,k,l⟩:=h;refine⟨⟨B,C,hX.nu i f λb hb a=>(c b hb).2.2 (hu b a),hY.nu j f λb hb a=>(g b hb).2 (hu b a),λb hb=>⟨(c b hb).1,(c b hb).2.1,λa=>?_⟩,λb hb=>⟨(g b hb).1,λa=>?_⟩⟩,ag k f.size,λb a=>?_⟩
 .rcases ay.1 a with a|a
  .rcases hf b (ah.1 a)with e|e
   .exact(c b hb).2.2 (hu b (ah.2 e))
   .have:=hX.lt i b hb;omega
  .exact(c b hb).2.2 a
 .rcases ay.1 a with a|a
  .rcases hf b (ah.1 a)with e|e
   .exact(g b hb).2 (hu b (ah.2 e))
   .have:=hY.lt j b hb;omega
  .exact(g b hb).2 a
 .rcases ay.1 a with a|a
  .exact(hv.lt b (ah.1 a)).2
  .exact ae (l b a) f.size
structure Au(w:World)(D:Nat):Prop where
 d:w.heap[D]?=some (.deferred (some []))
namespace Au
variable {w w':World}{D:Nat}
theorem only{g:Nat}(h:Au w D)(ho:Only g w w')(hg:D≠g):Au w' D:=⟨(ho.block D hg).trans h.d⟩
end Au
def JW{α:Type}(lw:Nat)(ds:List Nat)(lo:Nat)(L Lx:List Nat)(X Y:World->List Nat->Prop)(E:α->List Nat)(I:Nat->α->World->Prop)(Ix:Code->World->Prop)(k:Nat)(W2:World):Post
 | .normal,_,W'=>mX lo (lw::(ds++Lx)) W2 W'/\∃ a,Two X Y lo (Lx++(E a++lw::(ds++L))) W'/\I (k+1) a W'
 | .ret,_,W'=>mX lo (lw::(ds++Lx)) W2 W'/\Ix .ret W'
 | .exit id,_,W'=>mX lo (lw::(ds++Lx)) W2 W'/\Ix (.exit id) W'
 |_,_,_=>False
def Yn(P:Program)(w:World)(lw:Nat)(ds:List Nat)(rd:Option Nat):Prop:=∃ dfr,∀ (fn:FuncId) (tmps:Array Value) (ps:Array Tmp) (assign body:Code),∃ W1,
 (Instr.enterLoop fn tmps ps assign body rd).run P w= .ok (lw,ds.map SN) W1/\W1.heap[lw]?=some (.loop {state:=.ready,pending:=none,fn,tmps,params:=ps,assign,body,defers:=dfr})/\
 (∀ D∈ds,W1.heap[D]?=some (.deferred (some [])))/\Below w.heap.size w W1/\W1.heap.size=lw+1/\(∀ b∈lw::ds,w.heap.size<=b/\b<lw+1)/\lw∉ds
theorem U_(P:Program)(w:World):Yn P w (w.heap.size+1) [w.heap.size] none:=by
 refine⟨w.heap.size,λfn tmps ps assign body=>⟨_,run_enterLoop_outer _ _ _ _ _,?_,λD a=>?_,?_,ig,(λb hb=>by simp only[ak,bu,or_false]at hb;omega),ig⟩⟩
 .have:=World.alloc_heap_new (w.alloc (.deferred (some []))) (.loop {state:=.ready,pending:=none,fn,tmps,params:=ps,assign,body,defers:=w.heap.size});rwa [World.size_alloc]at this
 .rw[aM.1 a]
  exact(Below.heap_alloc _ _ _ ig).trans (World.alloc_heap_new w _)
 .exact((Below.refl _ w).alloc (ax _) _).alloc ig _
theorem ztV{A L:List Nat}{a:Nat}:∀ i∈A++L,i∈A++a::L:=λi a=>by
 simp only[ay,ak]at a |-;exact a.imp id .inr
section
variable {md:Option Nat->Prop}{P:Program}{n:Nat}{Q:Post}{ρ:Env}{w:World}
theorem M_ {g:Operand} {ps:List Nat} {assign body:Code} {gf:Nat} {lb:List Value} {m:Nat} {τ:Type} {V:τ->Nat->List Value->World->List Nat->List Nat->List Nat->Prop} {T0:τ->Nat->World->Prop} {ks L:List Nat} {X:World->List Nat->Prop} {lo:Nat} {α:Type} {Y:World->List Nat->Prop} [hX:mW X] [hYT:mW Y] (E:α->List Nat) (lw:Nat) (ds:List Nat)
  (hmd:∀ rd,md rd->Yn P w lw ds rd) (hg:ev ρ g= .func (.func gf) #[] lb.toArray) (hcan:vv P gf=true) (hseq:EX P gf lb m V T0 ks X lo w) (hps:∀ t k v W Lx Fr Ea,V t k v W Lx Fr Ea->v.length=ps.length) (hpn:ps.all (Nat.blt · n)=true) (hnd:ps.Nodup)
  (hks:∀ b∈ks,b∈L) (I:τ->Nat->α->World->Prop) (Ix:Code->World->Prop)
  (hI:∀ t k a W W',I t k a W->mX lo (E a++lw::(ds++L)) W W'->I t k a W') (hIo:∀ t k a W W',I t k a W->Only lw W W'->I t k a W')
  (hIx:∀ c W W',Ix c W->Below W.heap.size W W'->Ix c W') (hIxo:∀ c W W',Ix c W->Only lw W W'->Ix c W') (hE:∀ t k a W,I t k a W->∀ b∈E a,b∉ks) (a0:α) (hT0:Two X Y lo (E a0++L) w) (h0:∀ t W',T0 t (lw+1) W'->mX lo (E a0++lw::(ds++L)) w W'->I t 0 a0 W')
  (round:∀ t k v a W1 Lx Fr,k<m->V t k v W1 Lx Fr (E a)->(∀ b∈Lx,b∈ks\/lw<b)->(∀ b∈Fr,lw<b/\b∉Lx/\b∉E a)->Two X Y lo (Fr++(Lx++(E a++lw::(ds++L)))) W1->I t k a W1->lw<W1.heap.size->W (λrd=>rd=some lw) P n assign
   (λe ρ' W'=>e= .normal/\Below W1.heap.size W1 W'/\∀ W2,Only lw W' W2->(∃ r,W2.heap[lw]?=some (.loop r))->W (λrd=>rd=some lw) P n body (JW lw ds lo L Lx X Y E (I t) Ix k W2) ρ' W2) (Ab ρ.f ps v) W1)
  (hdone:∀ t a W,Two X Y lo (E a++(ds++L)) W->I t m a W->(∀ D∈ds,W.heap[D]?=some (.deferred (some [])))->Q .normal ⟨ρ.f,ds.map Dm.m++ρ.ms⟩ W)
  (hstop:∀ c W',Ix c W'->(∀ D∈ds,W'.heap[D]?=some (.deferred (some [])))->codeOk n c=true/\W md P n c Q ⟨ρ.f,ds.map Dm.m++ρ.ms⟩ W'):
  W md P n (.rangeFunc g ps.toArray assign body) Q ρ w:=by
 intro T rd a a4 q;obtain⟨c4,c5⟩:=hmd rd a4;simp only[codeOk,aJ]at T;have c6:∀ p,p∈ps->p<n:=λp hp=>by have:=dx.1 hpn p hp;simpa using this
 refine wpIn_rangeFunc ?_;intro fn e9;obtain⟨W1,c7,N,a5,U,a6,c8,c9⟩:=c5 fn a.tmps ps.toArray assign body;obtain⟨h,r⟩:∃ h:LoopState->Option Code->Loop,h=λst pe=>{state:=st,pending:=pe,fn,tmps:=a.tmps,params:=ps.toArray,assign,body,defers:=c4}:=⟨_,rfl⟩
 replace N:W1.heap[lw]?=some (.loop (h .ready none)):=by rw[r];exact N
 have a7:∀ b∈lw::ds,w.heap.size<=b/\b<W1.heap.size:=λb hb=>by rw[a6];exact c8 b hb
 have d0:Two X Y lo (E a0++lw::(ds++L)) W1:=(hT0.zn U a7).weak λb hb=>by
  simp only[ay,ak]at hb |-;rcases hb with l|l|l|l
  .exact .inr<|.inl l
  .exact .inl<|.inl l
  .exact .inl<|.inr l
  .exact .inr<|.inr l
 have d1:mX lo (E a0++lw::(ds++L)) w W1:=mX.of_below U;have a8:∀ b∈L,b<w.heap.size:=λb hb=>hT0.lt b jP
 have d2:a.eval g= .func (.func gf) #[] lb.toArray:=by rw[q.ev];exact hg
 have O:∀ D∈ds,D≠lw:=λD f e=>c9 (e▸f)
 refine⟨lw,ds.map SN,W1,{target:=.fn (.func gf) lb.toArray,args:=#[.func (.yield lw) #[] #[]]},W1,gf,(.func (.yield lw) #[] #[]::lb).toArray,W1,?_,?_,λd3 _=>IU rd d3,?_,λa9=>by(rw[Nc]at a9;cases a9),?_⟩
 .rw[YX];exact c7
 .simp only[resolve,rangeCall,d2]
  simp[Deferred.ofValue,Act.eval]
 .have e:#[Value.func (.yield lw) #[] #[]]++lb.toArray=(.func (.yield lw) #[] #[]::lb).toArray:=by simp
  simp only[invoke,e];exact Db hcan
 .refine Tm ((hseq Y E lw (λt k a W=>I t k a W/\W.heap[lw]?=some (.loop (h .ready none))/\(∀ D∈ds,W.heap[D]?=some (.deferred (some []))))
   (λW=>∃ c,Ix c W/\W.heap[lw]?=some (.loop (h .done (some c)))/\(∀ D∈ds,W.heap[D]?=some (.deferred (some [])))) W1 (lw::(ds++L)) ?_ ?_ ?_ ?_ ?_ a0 d0 (λt W' d4 m=>⟨h0 t W' (by rw[<-a6];exact d4) (d1.ll m λ_ l=>l),by rw[m.block _ (aY.1 N).1 (.inr ig)];exact N,λD f=>by rw[m.block _ (aY.1 (a5 D f)).1 (.inr kW)];exact a5 D f⟩)).mono ?_)
  .intro b hb
   exact⟨by simp[hks b hb],U.block b (a8 b (hks b hb))⟩
  .rintro t k a A B ⟨i,o,y⟩ z
   exact⟨hI t k a A B i z,by rw[z.block _ (aY.1 o).1 (.inr ig)];exact o,λD f=>by rw[z.block _ (aY.1 (y D f)).1 (.inr kW)];exact y D f⟩
  .rintro A B ⟨c,i,o,y⟩ z
   exact⟨c,hIx c A B i z,by rw[z.block _ (aY.1 o).1];exact o,λD f=>by rw[z.block _ (aY.1 (y D f)).1];exact y D f⟩
  .rintro t k a A ⟨i,_⟩;exact hE t k a A i
  .rintro t k v d5 W Lx Fr d6 b0 b1 b2 Q ⟨H,m,G⟩
   have b3:lw<W.heap.size:=(aY.1 m).1;have d7:=hps t k v W Lx Fr _ b0;have V:=run_yield (P:=P) (args:=v.toArray) m (by rw[r];simpa using d7);rw[r]at V;refine⟨fn,_,assign,body,V,?_⟩;clear V;refine roundIn_of_wpIn (F:=Fence.wide) (n:=0) trivial ?_;have d8:Ag n {tmps:=(ps.toArray.zip v.toArray).foldl (λt (p,u)=>t.setIfInBounds p u) a.tmps,defers:=[]} (Ab ρ.f ps v):=by
    have:=zqH q ps v a.tmps q.s q.t c6 hnd;rw[<-jf,Array.toList_zip];exact this
   have d9:=round t k v d5 W Lx Fr d6 b0 (λb hb=>(b1 b hb).imp id λl=>eu) (λb hb=>⟨by have:=(b2 b hb).1;omega,(b2 b hb).2⟩) Q H b3 T.1 (some lw) _ rfl d8;have e0:assign.wpIn (Fence.wide.inRound lw) 0 P _ _ W:=λb Z cs i o y=>d9 b Z cs i o (room_wide _)
   refine wpIn_mono e0 ?_;rintro e b4 Wa ⟨ρ',i,rfl,R,e1⟩;show ∃ w2,_;have b5:Wa.heap[lw]?=some (.loop (h .ready none)):=by rw[R.block _ b3];exact m
   have e2:∀ D∈ds,Wa.heap[D]?=some (.deferred (some [])):=λD f=>by rw[R.block _ (aY.1 (G D f)).1];exact G D f
   have e3:=(aY.1 b5).1;refine⟨_,run_beginRound b5 (by rw[r]),?_⟩;obtain⟨W2,S⟩:∃ W2,W2=Wa.putObj lw (.loop {h .ready none with state:=.busy}):=⟨_,rfl⟩;have a1:W2.heap[lw]?=some (.loop {h .ready none with state:=.busy}):=by rw[S];exact World.putObj_heap_same e3
   have b6:∀ D∈ds,W2.heap[D]?=some (.deferred (some [])):=λD f=>by rw[S];exact(World.putObj_heap_other (O D f)).trans (e2 D f)
   have a2:Only lw Wa W2:=by rw[S];exact Gm _
   rw[<-S];have e4:=e1 W2 a2 ⟨_,a1⟩ T.2 (some lw) b4 rfl i;have e5:body.wpIn (Fence.wide.inRound lw) 0 P _ b4 W2:=λb Z cs i o y=>e4 b Z cs i o (room_wide _)
   refine wpIn_mono e5 ?_;have fin:∀ (j:Option Code) (W3:World),mX lo (lw::(ds++Lx)) W2 W3->
     (Instr.endRound lw j).run P W3= .ok (.bool j.isNone) (W3.putObj lw (.loop (h (if j.isNone then .ready else .done) j)))/\
     Only lw W3 (W3.putObj lw (.loop (h (if j.isNone then .ready else .done) j)))/\
     (W3.putObj lw (.loop (h (if j.isNone then .ready else .done) j))).heap[lw]?=some (.loop (h (if j.isNone then .ready else .done) j))/\
     (∀ D∈ds,(W3.putObj lw (.loop (h (if j.isNone then .ready else .done) j))).heap[D]?=some (.deferred (some []))):=λj W3 b7=>by
    have b8:W3.heap[lw]?=some (.loop {h .ready none with state:=.busy}):=by rw[b7.block _ (aY.1 a1).1 (.inr ig)];exact a1
    have e6:∀ D∈ds,W3.heap[D]?=some (.deferred (some [])):=λD f=>by rw[b7.block _ (aY.1 (b6 D f)).1 (.inr kW)];exact b6 D f
    have:=run_endRound (P:=P) j b8;rw[r]at this |-;exact⟨this,Gm _,World.putObj_heap_same (aY.1 b8).1,λD f=>(World.putObj_heap_other (O D f)).trans (e6 D f)⟩
   rintro e f0 W3 ⟨f1,_,hp⟩;cases e with
   |normal=>
    obtain⟨C,a3,J,e7⟩:=hp;obtain⟨hr,s,K,M⟩:=fin none W3 C;have f2:=R.size;have f3:=C.size;have f4:=a2.size;have f5:=s.size;refine⟨_,_,hr, .inl ⟨rfl,⟨a3,J.only s (.inr ig),hIo _ _ _ _ _ e7 s,K,M⟩,λb hb=>?_,eu⟩⟩;have e8:=Q.lt b jP;have b9:b≠lw:=by
     have i:=a7 lw ig;rcases b1 b hb with l|l
     .have:=a8 b (hks b l);omega
     .omega
    rw[s.block b b9,C.block b eu (.inr jP),a2.block b b9,R.block b e8]
   |ret=>
    obtain⟨C,J⟩:=hp;obtain⟨hr,s,K,M⟩:=fin (some .ret) W3 C;exact⟨_,_,hr, .inr ⟨rfl, .ret,hIxo _ _ _ J s,K,M⟩⟩
   |exit id=>
    obtain⟨C,J⟩:=hp;obtain⟨hr,s,K,M⟩:=fin (some (.exit id)) W3 C;exact⟨_,_,hr, .inr ⟨rfl, .exit id,hIxo _ _ _ J s,K,M⟩⟩
   |goto t=>exact hp.elim
   |panic ch=>exact hp.elim
   |outgrown=>exact hp.elim
  .rintro e W2 ⟨v,rfl,(⟨t,a3,Q,H,m,G⟩|⟨c,H,m,G⟩)⟩
   .refine⟨none,_,by have:=run_endLoop (P:=P) m (by rw[r];simp);rw[r]at this;exact this,?_⟩
    refine⟨⟨ρ.f,ds.map Dm.m++ρ.ms⟩,⟨by simp[q.d,Dm.d,Function.comp_def],q.s,q.t⟩,hdone t a3 _ ((Q.only (Gm _) (.inr ig)).weak ztV) (hIo _ _ _ _ _ H (Gm _)) (λD f=>(World.putObj_heap_other (O D f)).trans (G D f))⟩
   .refine⟨some c,_,by have:=run_endLoop (P:=P) m (by rw[r];simp);rw[r]at this;exact this,?_⟩
    obtain⟨i,o⟩:=hstop c _ (hIxo _ _ _ H (Gm _)) (λD f=>(World.putObj_heap_other (O D f)).trans (G D f));exact o i rd _ a4 ⟨by simp[q.d,Dm.d,Function.comp_def],q.s,q.t⟩
end
end Coup
namespace Go.Proofs.YtpaniebomegnbaaGreat
open Go Go.RowKit Coup
theorem Dc(n:Nat)(w:World):CQ 189 [.int .i64 (n:Int)] w (λv w'=>∃ g,v= .slice (some ⟨g,0,none⟩) 4 4/\row w' g (bv (nZ 4 n)) 5/\w.heap.size<=g/\Below w.heap.size w w'):=by
 obtain⟨g,r,h,j⟩:=Xh (n:Int);have f:=h eu;rw[aR]at f;have a:=Below.refl w.heap.size w;refine nP (fn:=Tryz.f189) (rs:=[.tmp 2]) (n:=15) Tryz.func189 rfl rfl Tryz.ntmps189 dA rfl<|mR<|nV<|mP<|mO (wQ rfl rfl eu rfl)<|mO (rz (k:=.u8) dA dA rfl rfl)<|mP<|mO (wQ rfl rfl eu rfl)<|mO (rz (k:=.u8) dA dA rfl rfl)<|mP<|mO (wQ rfl rfl eu rfl)<|mO (rz (k:=.u8) dA dA rfl rfl)<|mP<|mO (rz (k:=.u8) dA dA rfl rfl)<|nz<|IL (e:=5) [(0, .int .u8 (IntKind.u8.wrap ((n:Int).fdiv (2 ^ (min (24:Int).toNat IntKind.i64.bits))))),(1, .int .u8 (IntKind.u8.wrap ((n:Int).fdiv (2 ^ (min (16:Int).toNat IntKind.i64.bits))))),(2, .int .u8 (IntKind.u8.wrap ((n:Int).fdiv (2 ^ (min (8:Int).toNat IntKind.i64.bits))))),(3, .int .u8 (IntKind.u8.wrap (n:Int)))] [.int .u8 0] 1 dA dA rfl eu eu (by intro i l;rcases i with _|_|_|_|i<;>first |(simp[Value.cells];done)|(exfalso;simp only[aD,aX]at l;omega)) kP<|λm o p c q=>?_
 replace a:=a.acc q;replace c:row o m (bv g) 5:=by rw[<-j];exact c
 refine lQ ?_;have s:=p;exact⟨_,rfl,by rw[<-f];exact c,eu,a⟩
theorem Qw(p:Option Addr)(n c:Nat)(l:List UInt8)(w:World)(h:nC w p n 1 (bv l))(hn:n<=7):CQ 203 [.slice p n c] w (λv w'=>v= .int .i64 (qK l)/\w=w'):=by
 have m:l.length=n:=by simpa [oh]using h.len
 refine nP (fn:=Tryz.f203) (rs:=[.tmp 2]) (n:=18) Tryz.func203 rfl rfl Tryz.ntmps203 dA rfl<|mR<|mV<|mQ<|ng<|mR<|mP<|mO (oQ (e:=5) (sz:=1) dA rfl rfl)<|mP<|mQ<|oU ?_
 refine qZ (α:=Nat) 0 (λk=>[(2, .int .i64 (qK (l.take k):Nat)),(7, .int .i64 (k:Nat)),(6, .int .i64 (n:Int)),(5, .slice p n c)]) (λk w'=>k<=n/\w=w') (λk=>n - k)
   ⟨rfl,rfl,rfl,rfl,rfl⟩ ⟨aC _,rfl⟩ ?_
 rintro k f q ⟨r,rfl⟩;refine mR<|mO (pE rfl rfl)<|mQ<|ng<|oP rfl (λj=>?_)<|λj=>?_
 ·
  refine lF ?_;have a:∃ x,l[k]?=some x:=⟨_,aI eu⟩;obtain⟨x,i⟩:=a;have a:=h.some eu;obtain⟨g,o,rfl,s⟩:=a;have t:qK (l.take k)<2 ^ 48:=Cw _ 6 kE;have hb:=x.toNat_lt;refine nM<|mO (vg (e:=5) dA rfl rfl k eu eu)<|mO (ou rfl (Ld.sl1 h dA (show(bv l)[k]?=some (.int .u8 (x.toNat:Int)) by rw[DW,i];rfl)))<|mV<|mQ<|nM<|mP<|mO (QH rfl rfl eu (show IntKind.i64.wrap (((qK (l.take k):Nat):Int)*2 ^ (min (8:Int).toNat IntKind.i64.bits))=((256*qK (l.take k):Nat):Int) by rw[show(2:Int) ^ (min (8:Int).toNat IntKind.i64.bits)=256 from rfl,nN eu];omega))<|mP<|mO (rz (k:=.i64) dA dA rfl (Coup.nN eu))<|mO (Pm rfl rfl ((SH 8 (qK (l.take k):Nat) eu eu eu eu).trans (show _=((qK (l.take (k+1)):Nat):Int) by rw[Si l k x i];omega)))<|mV<|oH<|pW<|ny<|nM<|mO (om rfl rfl (Coup.nN eu))<|mP<|oH<|oO ⟨k+1,eu,⟨rfl,by go_num,rfl,rfl,rfl⟩,eu,rfl⟩
 ·
  refine qP<|qL<|rf<|qX<|ny<|mR<|mP<|mV<|mQ<|nQ<|nR [_] ⟨rfl,trivial⟩<|⟨?_,rfl⟩
  rw[aP eu]
  rfl
def xw(e:Int):Value:=.iface 207 (.agg #[.int .i64 e])
theorem Cn(w:World):CQ 75 [.int .i64 0] w (λv w'=>v= .tuple #[]/\w=w'):=by
 refine nP (fn:=Tryz.f75) (rs:=[]) (n:=7) Tryz.func75 rfl rfl Tryz.ntmps75 dA rfl<|mR<|mP<|mO (oD rfl rfl)<|mQ<|pJ rfl (iT)<|nL<|zI [] trivial ?_
 exact⟨rfl,rfl⟩
theorem DY(e:Int)(he:e≠0)(w:World):Calls Tryz.prog 75 [.int .i64 e].toArray w (sM (λ_ _=>False) λc w'=>c=pe (xw e)/\w=w'):=by
 refine vQ (fn:=Tryz.f75) (rs:=[]) (n:=7) Tryz.func75 rfl rfl Tryz.ntmps75 dA rfl<|mR<|mP<|mO (oD rfl rfl)<|mQ<|sU rfl (he)<|nM<|mP<|mO (xC (.int .i64 e) [.int .i64 e] rfl dA)<|mO (YQ dA)<|ZE rfl ?_
 exact vP ⟨rfl,rfl⟩
theorem LP(w:World):CQ 201 [.bool true] w (λv w'=>v= .tuple #[]/\w=w'):=by
 refine nP (fn:=Tryz.f201) (rs:=[]) (n:=6) Tryz.func201 rfl rfl Tryz.ntmps201 dA rfl<|mR<|mP<|mO (sD rfl)<|mQ<|Gb rfl (iT)<|nL<|zI [] trivial ?_
 exact⟨rfl,rfl⟩
theorem Cu{p:Prop}[Decidable p](hp:p)(w:World):CQ 201 [.bool (decide p)] w (λv w'=>v= .tuple #[]/\w=w'):=by
 rw[decide_eq_true hp];exact LP w
def tQ(G:Nat->Pg)(n:Nat)(X:Pg):Nat->Pg:=λi=>if i=n then X else G i
structure PG(P:Pl)(N:Nat)(G V:Nat->Pg)(k:Nat):Prop where
 i:sW P V k
 n:P.n=N
 g:∀ n,n<N->(P.ch n).getD (V n)=G n
 s:P.G.size=400
 c:∀ n b,n<N->P.ch n=some b->G n≠V n
def GZ(q N:Nat)(G V:Nat->Pg)(k:Nat):World->List Nat->Prop:=λw B=>∃ P,PG P N G V k/\PZ q P w B
instance(q N:Nat)(G V:Nat->Pg)(k:Nat):mW (GZ q N G V k):=
 ⟨fun⟨P,c,a⟩ e f=>⟨P,c,mW.nu a e f⟩,fun⟨P,_,a⟩ b hb=>mW.lt a b hb⟩
namespace PG
variable {P:Pl}{N:Nat}{G V:Nat->Pg}{k n:Nat}
theorem len(h:PG P N G V k)(hn:n<N):(G n).length=512:=by
 rw[<-h.g n hn];cases hc:P.ch n with
 |some b=>exact h.i.ok.ch n b hc
 |none=>exact h.i.ln n (by rw[h.n];exact hn)
theorem yo(h:PG P N G V k)(hn:n<N):gX P V n=G n:=by
 have:=h.n;unfold gX;rw[if_pos (by unfold yC;omega),aR];exact h.g n hn
theorem TZ(h:PG P N G V k)(n:Int):PG (gP P n) N G V k:=by
 refine⟨h.i.gP n,?_,?_,?_,?_⟩
 all_goals
  unfold gP
  split
  .unfold Ef
   have e:=λn=>Uy P n
   split
   .first |exact h.n|exact h.g|exact h.s|exact h.c
   .first |exact(e _).2.2.2.2.2.2.trans h.n|(intro i a;rw[(e _).2.2.2.1];exact h.g i a)|(rw[(e _).2.1];exact h.s)|(rw[(e _).2.2.2.1];exact h.c)
  .first |exact h.n|exact h.g|exact h.s|exact h.c
theorem UT(h:PG P N G V k)(hn:n<N){X:Pg}(hX:X.length=512):PG (pP P n X) N (tQ G n X) V k:=by
 have j:=h.n;have e:=Uy P n;have hp:pP P n X=Gj P n X:=by unfold pP;rw[if_pos (by unfold yC;omega),aR]
 refine⟨h.i.pP n hX,?_,λi f=>?_,?_,?_⟩
 .rw[hp];exact e.2.2.2.2.2.2.trans j
 .rw[hp]
  show(uJ P.ch n (if X=wI P n then none else some X) i).getD (V i)=tQ G n X i;unfold uJ tQ
  by_cases a:i=n
  .subst a
   rw[if_pos rfl,if_pos rfl]
   split
   .rename_i g;rw[g];exact(h.i.ask eu).symm
   .rfl
  .rw[if_neg a,if_neg a];exact h.g i f
 .rw[hp];exact(congrArg Lg.size e.2.1).trans h.s
 .rw[hp]
  intro i b f hb;have c:uJ P.ch n (if X=wI P n then none else some X) i=some b:=hb;unfold uJ at c;unfold tQ
  by_cases a:i=n
  .subst a
   rw[if_pos rfl]at c |-
   split at c
   .cases c
   .rename_i g;exact λe=>g (e.trans (h.i.ask eu).symm)
  .rw[if_neg a]at c |-;exact h.c i b f c
end PG
section
variable {Y:World->List Nat->Prop}[mW Y]{q N lo:Nat}{L:List Nat}{G V:Nat->Pg}{k:Nat}{w:World}
omit [mW Y] in
theorem Nv(h:Two (GZ q N G V k) Y lo L w):∃ P,PG P N G V k/\Two (PZ q P) Y lo L w:=by
 obtain⟨⟨B,C,⟨P,a,c⟩,e,f,g⟩,i,j⟩:=h;exact⟨P,a,⟨B,C,c,e,f,g⟩,i,j⟩
omit [mW Y] in
theorem QZ{P:Pl}(h1:PG P N G V k)(h:Two (PZ q P) Y lo L w):Two (GZ q N G V k) Y lo L w:=by
 obtain⟨⟨B,C,a,c,e,f⟩,g,i⟩:=h;exact⟨⟨B,C,⟨P,h1,a⟩,c,e,f⟩,g,i⟩
omit [mW Y] in
theorem Bo(h:Two (GZ q N G V k) Y lo L w):N<=2048/\4<=N/\∀ n,n<N->(G n).length=512:=by
 obtain⟨P,a,c⟩:=Nv h;have:=z_n c;have f:=a.i.ok.n4;have g:=a.n;exact⟨eu,eu,λn e=>a.len e⟩
theorem Fz(h:Two (GZ q N G V k) Y lo L w)(n:Nat)(hn:n<N):CQ 118 [.pointer (some ⟨q,0,none⟩), .int .i64 (n:Int)] w (λv w'=>v= .tuple #[.agg (bv (G n)).toArray, .int .i64 0]/\Two (GZ q N G V k) Y lo L w'/\mX lo L w w'):=by
 obtain⟨P,a,c⟩:=Nv h;refine(Uf c a.i n).to λv w' ⟨e,f,g⟩=>⟨?_,QZ (a.TZ n) f,g⟩
 rw[e,a.yo hn];have:AZ P n=0:=by unfold AZ;rw[if_pos (by have:=a.n;unfold yC;omega)]
 rw[this]
theorem Cm(h:Two (GZ q N G V k) Y lo L w)(n:Nat)(hn:n<N){X:Pg}(hX:X.length=512):CQ 71 [.pointer (some ⟨q,0,none⟩), .int .i64 (n:Int), .agg (bv X).toArray] w (λv w'=>v= .int .i64 0/\Two (GZ q N (tQ G n X) V k) Y lo L w'/\mX lo L w w'):=by
 obtain⟨P,a,c⟩:=Nv h;refine(VJ c a.i n hX).to λv w' ⟨e,f,g⟩=>⟨?_,QZ (a.UT hn hX) f,g⟩
 rw[e];have:AZ P n=0:=by unfold AZ;rw[if_pos (by have:=a.n;unfold yC;omega)]
 rw[this]
theorem Jd(h:Two (GZ q N G V k) Y lo L w):CQ 74 [.pointer (some ⟨q,0,none⟩)] w (λv w'=>v= .int .i64 (N:Int)/\Below w.heap.size w w'):=by
 obtain⟨P,a,c⟩:=Nv h;obtain⟨g,x,mc,md,cv,e⟩:=Nf c;rw[<-a.n];exact Ck e (by have:=a.s;omega)
omit [mW Y] in
theorem OD(h:Two (GZ q N G V k) Y lo L w):CQ 101 [.pointer (some ⟨q,0,none⟩)] w (λv w'=>v= .bool false/\w=w'):=by
 obtain⟨P,a,c⟩:=Nv h;obtain⟨g,x,mc,md,cv,e⟩:=Nf c;rw[<-a.i.de];exact Qe e
end
structure sG where
 fresh:Nat
 free:Nat
 many:Nat
 records:Nat
 root:Nat
def wF(F:sG):List Value:=[.int .i64 (F.fresh:Int), .int .i64 (F.free:Int), .int .i64 (F.many:Int), .int .i64 (F.records:Int), .int .i64 (F.root:Int)]
def jV(F:sG)(q mw:Nat):List Value:=[.int .i64 (F.fresh:Int), .int .i64 (F.free:Int), .int .i64 (F.many:Int), .int .i64 (F.records:Int), .int .i64 (F.root:Int), .pointer (some ⟨q,0,none⟩), .map (some mw)]
structure FT(N:Nat)(G0 G:Nat->Pg)(c:sH):Prop where
 yes:∀ n x,c n=some x->n<N/\x=G0 n
 no:∀ n,n<N->c n=none->G n=G0 n
 len:∀ n x,c n=some x->x.length=512
structure uV(q jb mw N:Nat)(G0 G V:Nat->Pg)(k:Nat)(F:sG)(c:sH)(Y:World->List Nat->Prop)(lo:Nat)(L:List Nat)(w:World):Prop where
 p:Two (GZ q N G V k) Y lo (jb::mw::L) w
 row:row w jb (jV F q mw) 131
 map:MapAt Tryz.prog 3 w mw N (ru c)
 was:FT N G0 G c
 ne:jb≠mw
 jl:lo<=jb/\jb∉L
 ml:lo<=mw/\mw∉L
def JZ(q jb mw N:Nat)(G0 G V:Nat->Pg)(k:Nat)(F:sG):World->List Nat->Prop:=λw B=>∃ B1 c,B=B1++[jb,mw]/\GZ q N G V k w B1/\Coup.row w jb (jV F q mw) 131/\MapAt Tryz.prog 3 w mw N (ru c)/\FT N G0 G c/\jb∉B1/\mw∉B1/\jb≠mw
instance(q jb mw N:Nat)(G0 G V:Nat->Pg)(k:Nat)(F:sG):mW (JZ q jb mw N G0 G V k F):=
 ⟨fun {w w' B M} ⟨B1,c,e,a,f,g,j,k⟩ h i=>by
   subst e;exact⟨B1,c,rfl,mW.nu a h λb hb=>i b jP,f.nu h (i jb ig),g.nu h (i mw ig),j,k⟩,
  fun {w B} ⟨B1,c,e,a,f,g,j,k⟩ b hb=>by
   subst e;simp only[ay,ak,bu,or_false]at hb;rcases hb with hb|rfl|rfl
   .exact mW.lt a b hb
   .exact f.lt
   .exact g.lt⟩
section
variable {Y:World->List Nat->Prop}{q jb mw N lo:Nat}{L:List Nat}{G0 G V:Nat->Pg}{k:Nat}{F:sG}{c:sH}{w:World}
theorem uU(h:Two (JZ q jb mw N G0 G V k F) Y lo L w):∃ c,uV q jb mw N G0 G V k F c Y lo L w:=by
 obtain⟨⟨B,C,⟨B1,c,e,m,j,k,o,p,q,r⟩,s,f,l⟩,t,u⟩:=h;subst e;have g:=f jb ig;have i:=f mw ig;refine⟨c,⟨⟨B1,C,m,s,λb hb=>⟨(f b jP).1,(f b jP).2.1,λa=>?_⟩,λb hb=>⟨(l b hb).1,λa=>?_⟩⟩,t,λb a=>?_⟩,j,k,o,r,⟨g.1,g.2.2⟩,⟨i.1,i.2.2⟩⟩
 .rcases ak.1 a with rfl|a
  .exact p hb
  .rcases ak.1 a with rfl|a
   .exact q hb
   .exact(f b jP).2.2 a
 .rcases ak.1 a with rfl|a
  .exact g.2.1 hb
  .rcases ak.1 a with rfl|a
   .exact i.2.1 hb
   .exact(l b hb).2 a
 .rcases ak.1 a with rfl|a
  .exact j.lt
  .rcases ak.1 a with rfl|a
   .exact k.lt
   .exact u b a
theorem Rp(hp:Two (GZ q N G V k) Y lo (jb::mw::L) w)(hr:Coup.row w jb (jV F q mw) 131)(hm:MapAt Tryz.prog 3 w mw N (ru c))(hw:FT N G0 G c)(hne:jb≠mw)(hj:lo<=jb/\jb∉L)(hml:lo<=mw/\mw∉L):Two (JZ q jb mw N G0 G V k F) Y lo L w:=by
 obtain⟨⟨B,C,i,j,e,h⟩,k,l⟩:=hp;have f:=λb hb=>(e b hb).2.2
 have g:=λb hb=>(h b hb).2
 refine⟨⟨B++[jb,mw],C,⟨B,c,rfl,i,hr,hm,hw,λa=>f jb a ig,λa=>f mw a ig,hne⟩,j,λb hb=>?_,λb hb=>⟨(h b hb).1,λa=>g b hb kr⟩⟩,k,λb hb=>l b jP⟩;simp only[ay,ak,bu,or_false]at hb;rcases hb with hb|rfl|rfl
 .exact⟨(e b hb).1,(e b hb).2.1,λa=>f b hb kr⟩
 .exact⟨hj.1,λa=>g b a ig,hj.2⟩
 .exact⟨hml.1,λa=>g b a ig,hml.2⟩
theorem uV.close(h:uV q jb mw N G0 G V k F c Y lo L w):Two (JZ q jb mw N G0 G V k F) Y lo L w:=Rp h.p h.row h.map h.was h.ne h.jl h.ml
theorem Eg(h:Two (JZ q jb mw N G0 G V k F) Y lo L w):N<=2048/\4<=N/\∀ n,n<N->(G n).length=512:=by
 obtain⟨c,h⟩:=uU h;exact Bo h.p
theorem FT.put(h:FT N G0 G c){n:Nat}(hn:n<N)(hl:(G n).length=512)(X:Pg):FT N G0 (tQ G n X) (if(c n).isSome then c else uJ c n (some (G n))):=by
 cases hc:c n with
 |some x=>
  rw[if_pos ig];refine⟨h.yes,λi g f=>?_,h.len⟩;have:i≠n:=λe=>by rw[e,hc]at f;cases f
  unfold tQ;rw[if_neg this];exact h.no i g f
 |none=>
  rw[if_neg ig];refine⟨λi x a=>?_,λi g f=>?_,λi x a=>?_⟩
  .unfold uJ at a
   split at a
   .rename_i e;subst e;cases a;exact⟨hn,h.no i hn hc⟩
   .exact h.yes i x a
  .unfold uJ at f
   split at f
   .cases f
   .rename_i e;unfold tQ;rw[if_neg e];exact h.no i g f
  .unfold uJ at a
   split at a
   .cases a;exact hl
   .exact h.len i x a
end
section
variable {Y:World->List Nat->Prop}[hYT:mW Y]{q jb mw N lo:Nat}{L M:List Nat}{G0 G V:Nat->Pg}{k:Nat}{F:sG}{c:sH}{w w':World}
namespace uV
theorem nu(h:uV q jb mw N G0 G V k F c Y lo L w)(hk:Kp M w w')(hM:∀ b∈M,b<lo\/b∈L):uV q jb mw N G0 G V k F c Y lo L w':=by
 have c:∀ b,lo<=b/\b∉L->b∉M:=λb hb a=>(hM b a).elim (λe=>absurd hb.1 (dN.2 e)) hb.2
 exact⟨h.p.nu hk λb hb=>(hM b hb).imp id λa=>by simp[a],h.row.nu hk (c jb h.jl),h.map.nu hk (c mw h.ml),h.was,h.ne,h.jl,h.ml⟩
theorem new(h:uV q jb mw N G0 G V k F c Y lo L w)(hb:Below w.heap.size w w'):uV q jb mw N G0 G V k F c Y lo L w':=h.nu (M:=[]) (Kp.of_below hb) ig
theorem only{gc:Nat}(h:uV q jb mw N G0 G V k F c Y lo L w)(ho:Only gc w w')(hg:gc<lo\/gc∈L):uV q jb mw N G0 G V k F c Y lo L w':=h.nu (Kp.rC ho) λb hb=>by rw[aM.1 hb];exact hg
omit hYT in
theorem weak{L2:List Nat}(h:uV q jb mw N G0 G V k F c Y lo L w)(h2:∀ b∈L2,b∈L):uV q jb mw N G0 G V k F c Y lo L2 w:=
 ⟨h.p.weak λb hb=>by
  rcases ak.1 hb with rfl|hb
  .simp
  .rcases ak.1 hb with rfl|hb
   .simp
   .simp[h2 b hb],h.row,h.map,h.was,h.ne,⟨h.jl.1,λa=>h.jl.2 (h2 _ a)⟩,⟨h.ml.1,λa=>h.ml.2 (h2 _ a)⟩⟩
theorem nA{gc:Nat}(h:uV q jb mw N G0 G V k F c Y lo L w)(hb:Below w.heap.size w w')(hg:w.heap.size<=gc)(hg':gc<w'.heap.size):uV q jb mw N G0 G V k F c Y lo (gc::L) w':=by
 have c:=h.new hb;have e:=h.row.lt;have f:=h.map.lt;refine⟨(h.p.nA hb hg hg').weak λb a=>?_,c.row,c.map,h.was,h.ne,⟨h.jl.1,λa=>?_⟩,⟨h.ml.1,λa=>?_⟩⟩
 .simp only[ak]at a |-
  rcases a with a|a|a|a
  .exact .inr<|.inl a
  .exact .inr<|.inr<|.inl a
  .exact .inl a
  .exact .inr<|.inr<|.inr a
 .rcases ak.1 a with rfl|a
  .omega
  .exact h.jl.2 a
 .rcases ak.1 a with rfl|a
  .omega
  .exact h.ml.2 a
end uV
theorem Ql(h:uV q jb mw N G0 G V k F c Y lo L w)(n:Nat)(hn:n<N):CQ 109 [.pointer (some ⟨jb,0,none⟩), .int .i64 (n:Int)] w (λv w'=>v= .agg (bv (G n)).toArray/\uV q jb mw N G0 G V k F c Y lo L w'/\mX lo (jb::L) w w'):=by
 have f:=mX.refl lo (jb::L) w;have z:=(Bo h.p).2.2 n hn;have A:=λL' w' (C:Two (GZ q N G V k) Y lo L' w')=>Fz C n hn
 obtain⟨t,B⟩:=aa (G n);rw[B]at z |-;simp only[B]at A;have M:(bv t).length=512:=by rw[oh];exact z
 have hp:=h.p;have a:=h.row;have c:=h.map;have O:mw≠jb:=bW h.ne;unfold jV at a;refine nP (fn:=Tryz.f109) (rs:=[.cell 4 121]) (n:=19) Tryz.func109 rfl rfl Tryz.ntmps109 dA rfl<|mR<|nz<|nU (List.replicate 512 (Value.int .u8 0)) dA<|λu D v g l=>?_
 have E:jb<u:=ae a.lt v;have F:mw<u:=ae c.lt v;replace hp:=hp.nA l v g.lt;replace f:=f.new l;replace a:=a.new l;replace c:=c.new l;refine pV<|mP<|mO (nW rfl)<|mO (nk 5)<|mO (mZ a)<|mP<|nD (A _ D hp) ?_
 rintro _ P ⟨rfl,hp,m⟩;replace f:=f.lq m;replace a:=a.nu m.kp dB;replace c:=c.nu m.kp dB;replace g:=g.kl m;refine mP<|mO (nJ rfl rfl)<|mO (nJ rfl rfl)<|nz<|nU (List.replicate 512 (Value.int .u8 0)) dA<|λy Q p r i=>?_
 have H:jb<y:=ae a.lt p;have I:mw<y:=ae c.lt p;have J:u<y:=ae g.lt p;replace hp:=hp.nA i p r.lt;replace f:=f.new i;replace a:=a.new i;replace c:=c.new i;replace g:=g.new i;refine nH<|nT 512 (bv t) r<|λK r j=>?_
 replace hp:=hp.only j eG;replace f:=f.oq j;replace a:=a.only j (ai H);replace c:=c.only j (ai I);replace g:=g.only j (ai J);refine nV<|mP<|nD (Cn K) ?_
 rintro _ _ ⟨rfl,rfl⟩;refine pV<|mO (oI 512 r)<|nH<|nT 512 (bv t) g<|λR g s=>?_
 replace hp:=hp.only s eG;replace f:=f.oq s;replace a:=a.only s (ai E);replace c:=c.only s (ai F);refine mQ<|nQ<|nR [_] ⟨⟨_,rfl,Ld.qp (k:=512) g dA dA gp⟩,trivial⟩ ?_
 exact⟨rfl,⟨hp.weak (λb hb=>by simp at hb |-;rcases hb with hb|hb|hb<;>simp[hb]),a,c,h.was,h.ne,h.jl,h.ml⟩,f⟩
theorem JX(h:Two (JZ q jb mw N G0 G V k F) Y lo L w)(n:Nat)(hn:n<N):CQ 109 [.pointer (some ⟨jb,0,none⟩), .int .i64 (n:Int)] w (λv w'=>v= .agg (bv (G n)).toArray/\Two (JZ q jb mw N G0 G V k F) Y lo L w'/\mX lo L w w'):=by
 obtain⟨c,h⟩:=uU h;exact(Ql h n hn).to λv w' ⟨a,e,f⟩=>⟨a,e.close,f.weak (ax _) λb hb=>by simp[hb]⟩
end
section
variable {Y:World->List Nat->Prop}[hYT:mW Y]{q jb mw N lo:Nat}{L M:List Nat}{G0 G V:Nat->Pg}{k:Nat}{F:sG}{c:sH}{w w':World}
theorem PH(h:Two (JZ q jb mw N G0 G V k F) Y lo L w)(n:Nat)(hn:n<N)(X:Pg)(hX:X.length=512):CQ 162 [.pointer (some ⟨jb,0,none⟩), .int .i64 (n:Int), .agg (bv X).toArray] w (λ_ w'=>Two (JZ q jb mw N G0 (tQ G n X) V k F) Y lo L w'/\mX lo L w w'):=by
 obtain⟨c,h⟩:=uU h;have a3:=h.jl;have a4:=h.ml;have a5:=h.ne;have j:=mX.refl lo L w;have M:=(Bo h.p).2.2 n hn;have d2:=(Bo h.p).1;have O:=λL' w' (P:Two (GZ q N G V k) Y lo L' w')=>Cm P n hn hX
 have a6:=λL' w' (P:uV q jb mw N G0 G V k F c Y lo L' w')=>Ql P n hn
 have E:=h.was.put hn M X;obtain⟨G2,a7⟩:=aa (tQ G n X);obtain⟨a8,a9⟩:=aa (G n);rw[a7]at E |-;simp only[a7]at O;rw[a9]at M E;simp only[a9]at a6;have d3:(bv a8).length=512:=by rw[oh];exact M
 have d4:(bv X).length=512:=by rw[oh];exact hX
 have d5:zP.length=512:=bi;have d6:∀ v∈zP,Value.oneCell' v=true:=λv b1=>by rw[(dX.1 b1).2];rfl
 have b2:mw≠jb:=bW h.ne;cases hcn:c n with
 |some x=>
 have d7:(bv x).length=512:=by rw[oh];exact h.was.len n x hcn
 have Q:ru c n=some (.agg (bv x).toArray):=by unfold ru;rw[hcn];rfl
 rw[hcn,if_pos ig]at E;have hp:=h.p;have i:=h.row;have a:=h.map;unfold jV at i;refine nP (fn:=Tryz.f162) (rs:=[]) (n:=35) Tryz.func162 rfl rfl Tryz.ntmps162 dA rfl<|mR<|nz<|oV (bv X) rfl<|λp b3 D l B=>?_
 have b4:=j.size;have b5:jb<p:=ae i.lt D;have b0:mw<p:=ae a.lt D;replace hp:=hp.nA B D l.lt;replace j:=j.new B;replace i:=i.new B;replace a:=a.new B;refine mQ<|ng<|mR<|mP<|mO (nW rfl)<|mO (nk 6)<|mO (mZ i)<|mP<|mO (KY (k:=3) (e:=121) (.agg zP.toArray) (some (.agg (bv x).toArray)) dA dA Mi a rfl rfl n rfl hn eu Q)<|mP<|mO (nJ rfl rfl)<|mO (nJ rfl rfl)<|nz<|nU (List.replicate 512 (Value.int .u8 0)) dA<|λr b6 C u y=>?_
 have R:jb<r:=ae i.lt C;have S:mw<r:=ae a.lt C;have T:p<r:=ae l.lt C;replace hp:=hp.nA y C u.lt;replace j:=j.new y;replace i:=i.new y;replace a:=a.new y;replace l:=l.new y;refine nH<|nT 512 (bv x) u<|λb7 u z=>?_
 replace hp:=hp.only z eG;replace j:=j.oq z;replace i:=i.only z (ai R);replace a:=a.only z (ai S);replace l:=l.only z (ai T);refine nV<|mP<|mO (sD rfl)<|mQ<|Gb rfl (rfl)<|nL<|ny ?_
 have b8:jb≠p:=by have:=h.row.lt;omega
 refine vK lo ((r::p::jb::mw::L)) dA ?_;intro U s Z a0;replace hp:=hp.new s;replace j:=j.new s;replace i:=i.new s;replace a:=a.new s;replace l:=l.new s;replace u:=u.new s;have a1:=i;have m:=a;have b9:=l;refine mU 0 (nK)<|mU 1 (nW rfl)<|mU 2 (nk 5)<|nI 3 (λw' f=>ou rfl (Ld.qN (a1.nu f jO) dA rfl))<|mU 4 (nK)<|nI 5 (λw' f=>ou rfl (Ld.qp (k:=512) (b9.nu f jO) dA dA gp))<|nS 6 dA<|qf rfl rfl (nX dA rfl) (O _ U hp) ?_
 rintro _ c4 ⟨rfl,hp,A⟩;have J:=a0.uK Z A.wk;refine⟨J,?_⟩;replace j:=j.lq A;replace i:=i.nu A.kp dB;replace a:=a.nu A.kp dB;replace l:=l.kl A;replace u:=u.kl A;refine yM 7 dA rfl (λ_=>nX dA rfl) (λw' f=>Cn w')<|oL dA<|zI [] trivial ?_;exact⟨Rp (hp.weak (λb hb=>by simp at hb |-;rcases hb with hb|hb|hb<;>simp[hb])) i a E a5 a3 a4,j⟩
 |none=>
 have Q:ru c n=none:=by unfold ru;rw[hcn];rfl
 rw[hcn,if_neg ig]at E;have i:=h.row;have a:=h.map;unfold jV at i;refine nP (fn:=Tryz.f162) (rs:=[]) (n:=35) Tryz.func162 rfl rfl Tryz.ntmps162 dA rfl<|mR<|nz<|oV (bv X) rfl<|λp b3 D l B=>?_
 have b4:=j.size;have b5:jb<p:=ae i.lt D;have b0:mw<p:=ae a.lt D;replace h:=h.nA B D l.lt;replace j:=j.new B;replace i:=i.new B;replace a:=a.new B;refine mQ<|ng<|mR<|mP<|mO (nW rfl)<|mO (nk 6)<|mO (mZ i)<|mP<|mO (KY (k:=3) (e:=121) (.agg zP.toArray) none dA dA Mi a rfl rfl n rfl hn eu Q)<|mP<|mO (nJ rfl rfl)<|mO (nJ rfl rfl)<|nz<|nU (List.replicate 512 (Value.int .u8 0)) dA<|λr b6 C u y=>?_
 have R:jb<r:=ae i.lt C;have S:mw<r:=ae a.lt C;have T:p<r:=ae l.lt C;replace h:=h.nA y C u.lt;replace j:=j.new y;replace i:=i.new y;replace a:=a.new y;replace l:=l.new y;refine nH<|nT 512 (zP) u<|λb7 u z=>?_
 replace h:=h.only z eG;replace j:=j.oq z;replace i:=i.only z (ai R);replace a:=a.only z (ai S);replace l:=l.only z (ai T);refine nV<|mP<|mO (sD rfl)<|mQ<|Td rfl (rfl) ?_
 have d8:=h.ml;have d9:=a.lt;refine vK (lo) ((jb::r::p::L)) dA ?_;intro U s Z a0;replace h:=h.new s;replace j:=j.new s;replace i:=i.new s;replace a:=a.new s;replace l:=l.new s;have a1:=i;have m:=a;refine mU 0 (nK)<|mU 1 (nW rfl)<|mU 2 (nk 6)<|nI 3 (λw' f=>ou rfl (Ld.qN (a1.nu f jO) dA rfl))<|mU 4 (nK)<|mU 5 (nK)<|mU 6 (nK)<|nS 7 dA<|qf rfl rfl (nX dA rfl) (a6 _ U h) ?_
 rintro _ e0 ⟨rfl,h,a2⟩;have a:=h.map;have i:=h.row;have J:=a0.uK Z a2.wk;refine⟨J,?_⟩;replace j:=j.lq a2;replace l:=l.kl a2;refine nS 8 dA ?_;have hp:=h.p;have e1:mw∉jb::r::p::L:=λe=>by
  have K:=h.ml.2;simp only[ak,not_or]at K;simp only[ak]at e;rcases e with e|e|e|e
  .exact b2 e
  .exact K.1 e
  .exact K.2.1 e
  .exact K.2.2 e
 have e2:=h.ml.1;have e3:r≠mw:=λe=>h.ml.2 (by rw[<-e];simp)
 have e4:p≠mw:=λe=>h.ml.2 (by rw[<-e];simp)
 have e5:mw∉L:=λe=>h.ml.2 kw
 have e6:jb≠mw:=h.ne;refine qR rfl rfl<|LM (k:=3) (e:=121) (.agg (bv a8).toArray) dA dA a rfl rfl rfl (n) jZ eu eu<|λe7 a H=>?_
 have c5:=J.add1 H iD;refine⟨c5,?_⟩;replace j:=j.oq H;replace i:=i.only H eu;replace l:=l.only H (bA b0);replace hp:=hp.only H eG;rw[Rn]at a;refine oL dA<|ny ?_
 have b8:jb≠p:=by have:=h.row.lt;omega
 refine vK lo ((jb::mw::r::p::L)) dA ?_;intro c6 I c7 c8;replace j:=j.new I;replace i:=i.new I;replace a:=a.new I;replace l:=l.new I;replace hp:=hp.new I;have c9:=i;have t:=a;have d0:=l;refine mU 0 (nK)<|mU 1 (nW rfl)<|mU 2 (nk 5)<|nI 3 (λw' f=>ou rfl (Ld.qN (c9.nu f jS) dA rfl))<|mU 4 (nK)<|nI 5 (λw' f=>ou rfl (Ld.qp (k:=512) (d0.nu f jS) dA dA gp))<|nS 6 dA<|qf rfl rfl (nX dA rfl) (O _ c6 hp) ?_
 rintro _ c4 ⟨rfl,hp,A⟩;have d1:=c8.uK c7 A.wk;refine⟨d1,?_⟩;replace j:=j.lq A;replace i:=i.nu A.kp dB;replace a:=a.nu A.kp dB;refine yM 7 dA rfl (λ_=>nX dA rfl) (λw' f=>Cn w')<|oL dA<|zI [] trivial ?_;exact⟨Rp (hp.weak (λb hb=>by simp at hb |-;rcases hb with hb|hb|hb<;>simp[hb])) i a E a5 a3 a4,j⟩
end
def RL(G:Nat->Pg)(n:Nat)(V:View):Prop:=Good V/\G n=oG V
def zf(S:Nat->View):Nat->List Nat->Prop
 |n,[]=>n=0
 |n,m::l=>n=m/\n≠0/\zf S (S m).next l
section
variable {Y:World->List Nat->Prop}[hYT:mW Y]{q jb mw N lo:Nat}{L:List Nat}{G0 G V:Nat->Pg}{k:Nat}{F:sG}{c:sH}{w w':World}
theorem JE(h:Two (JZ q jb mw N G0 G V k F) Y lo L w)(n kind:Nat)(hn:1<=n)(hf:n<F.fresh)(hfN:F.fresh<=N){U:View}(hU:RL G n U)(hk:U.kind=kind):CQ 177 [.pointer (some ⟨jb,0,none⟩), .int .i64 (n:Int), .int .i64 (kind:Int)] w (λv w'=>v= .agg (bv (oG U)).toArray/\Two (JZ q jb mw N G0 G V k F) Y lo L w'/\mX lo L w w'):=by
 have M:=(Eg h).1;obtain⟨c,h⟩:=uU h;have a:=mX.refl lo L w;have A:=uO hU.1;have l:=λL' w' (B:uV q jb mw N G0 G V k F c Y lo L' w')=>Ql B n eu
 have s:=λw=>OC U w hU.1
 have m:=λw=>MW U w hU.1
 rw[hk]at m;simp only[hU.2]at l;obtain⟨Q,t⟩:=aa (oG U);rw[t]at A |-;simp only[t]at l s m;have g:=h.row;have O:=h.jl;unfold jV at g;refine nP (fn:=Tryz.f177) (rs:=[.cell 6 121]) (n:=33) Tryz.func177 rfl rfl Tryz.ntmps177 dA rfl<|mR<|nz<|nU (List.replicate 512 (Value.int .u8 0)) dA<|λC u D e o=>?_
 replace h:=h.nA o D e.lt;replace a:=a.new o;replace g:=g.new o;refine pV<|mP<|mO (tN rfl rfl)<|mP<|zU 10 rfl (eu)<|mY<|mP<|mY<|mP<|mY<|mO (nW rfl)<|mY<|mO (nk 0)<|mY<|mO (nk 0)<|mY<|mO (mZ g)<|mY<|mO (pE rfl rfl)<|mO (pO rfl)<|qi rfl (nX dA rfl) (Cu eu u) ?_
 rintro _ _ ⟨rfl,rfl⟩;refine pV<|mP<|mP<|nD (l _ u h) ?_;rintro _ P ⟨rfl,h,v⟩;have g:=h.row;replace a:=a.lq v;replace e:=e.kl v;refine nz<|nU (List.replicate 512 (Value.int .u8 0)) dA<|λE R y f p=>?_
 have H:C<E:=ae e.lt y;replace h:=h.nA p y f.lt;replace a:=a.new p;replace e:=e.new p;refine nH<|nT 512 (bv Q) f<|λI f r=>?_
 replace h:=h.only r eG;replace a:=a.oq r;replace e:=e.only r (ai H);refine pV<|mO (oI 512 f)<|nD (s I) ?_
 rintro _ J ⟨rfl,i⟩;replace h:=h.new i;replace a:=a.new i;replace e:=e.new i;replace f:=f.new i;refine mP<|OX 25 rfl (rfl)<|mY<|mO (oI 512 f)<|mY<|nD (m J) ?_;rintro _ K ⟨rfl,j⟩;replace h:=h.new j;replace a:=a.new j;replace e:=e.new j;replace f:=f.new j;refine mY<|mP<|mY<|mO (qy rfl rfl)<|mO (pO rfl)<|nD (Cu rfl K) ?_;rintro _ _ ⟨rfl,rfl⟩;refine pV<|mO (oI 512 f)<|nH<|nT 512 (bv Q) e<|λS e z=>?_
 replace h:=h.only z eG;replace a:=a.oq z;refine mQ<|nQ<|nR [_] ⟨⟨_,rfl,Ld.qp (k:=512) e dA dA gp⟩,trivial⟩ ?_
 exact⟨rfl,(h.weak (λb hb=>by simp[hb])).close,a⟩
end
end Go.Proofs.YtpaniebomegnbaaGreat
