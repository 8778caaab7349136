import Derived.Test.YtpaniebomegnbaaGreatM2
import Derived.Lib.BufferWrite
set_option maxHeartbeats 8000000
set_option maxRecDepth 20000
namespace Go.Proofs.YtpaniebomegnbaaGreat
open Go Go.RowKit Coup
theorem Wp(p:Option Addr)(n c:Nat)(l:List UInt8)(i:Nat)(w:World)(h:nM w p n 128 (bv l))(hi:i / 2<n)(hn:n<=1000000):
 CQ 256 [.slice p n c,VB i] w (λv w'=>v= .agg (bv (pF l i)).toArray/\VD w w'):=Ho (Ns p n c l i w h hi hn)
theorem UK(hb:List UInt8)(hl:hb.length=64)(b:Bool)(hm:vT (uk hb) (ut hb)=b)(w:World):
  CQ 255 [.agg (bv hb).toArray] w (λv w'=>v= .tuple #[.agg (sW (uk hb) (ut hb) (EP hb) (vU hb) (wL hb)).toArray, .bool b]/\VD w w'):=by
 have:=Ho (MJ hb hl w)
 rwa [hm]at this
theorem BD(w:World):CQ 254 [] w (λv w'=>v=Tq/\VD w w'):=Ho (Km w)
theorem zrX(p:Option Addr)(n c:Nat)(l:List UInt8)(w:World)(h:nM w p n 1 (bv l))(hn:n<=8):CQ 257 [.slice p n c] w (λv w'=>v= .int .u64 (qX l)/\w=w'):=Ho (Qy p n c l w h hn)
def Od(h:List UInt8)(c nn i m:Nat):Bool:=vT (uk h) (ut h) && decide (uk h=c/\ut h=nn) && decide (EP h=i) && decide (vU h=m)
def bodies(l:List UInt8)(m:Nat):List UInt8:=(List.range m).flatMap λi=>wL (pF l i)
theorem YA(l:List UInt8)(m:Nat):bodies l (m+1)=bodies l m++wL (pF l m):=by simp[bodies,fQ]
theorem zhp(l:List UInt8):∀ m,64*m<=l.length->(bodies l m).length=48*m
 |0,_=>rfl
 |m+1,h=>by rw[YA,aA,zhp l m dB,wL,aM,Ry _ _ dB];omega
def AZ(l:List UInt8)(m:Nat):Nat:=qX ((bodies l m).take 4)
def IY(l:List UInt8)(c nn m:Nat):Bool:=
 (List.range m).all (λi=>Od (pF l i) c nn i m) && decide (AZ l m<=32768) && decide (qE (AZ l m)=m) && ((bodies l m).drop (4+AZ l m)).all (· == 0)
def Xy(l:List UInt8)(n c nn m:Nat):Bool:=vT c nn && decide (1<=m) && decide (m<=683) && decide ((m+1) / 2<=n)
def wC(l:List UInt8)(n:Nat):Bool:=
 decide (0<n) && Xy l n (uk (pF l 0)) (ut (pF l 0)) (vU (pF l 0)) && IY l (uk (pF l 0)) (ut (pF l 0)) (vU (pF l 0))
def sD(l:List UInt8):List UInt8:=((bodies l (vU (pF l 0))).drop 4).take (AZ l (vU (pF l 0)))
def JR(l:List UInt8)(n:Nat)(w:World)(v:Value)(w':World):Prop:=
 VD w w'/\((wC l n=false/\v=Tq)\/(wC l n=true/\∃ sp,v= .tuple #[.agg #[.int .u64 (uk (pF l 0)),VB (ut (pF l 0))], .slice sp (sD l).length (sD l).length,VB (qN (sD l).length:Nat),VB 0]/\
  nM w' sp (sD l).length 1 (bv (sD l))))
theorem zus(l:List UInt8)(m:Nat):AZ l m<4294967296:=Ck _ 4 jY
theorem Ro(p:Option Addr)(cp:Nat)(l:List UInt8)(w:World):CQ 251 [.slice p 0 cp] w (λv w'=>JR l 0 w v w'):=by
 have a:=Below.refl w.heap.size w;have g:wC l 0=false:=by simp[wC]
 refine nZ (rs:=[.cell 2 236, .tmp 3, .tmp 4, .tmp 5]) (n:=152) Tryz.func251 rfl rfl Tryz.ntmps251 dA rfl<|ny<|nK<|oD ([.int .u64 0,VB 0]) dA<|λo w2 h c i=>?_
 have j:=ag a.size h;replace a:=a.acc i;refine nA<|nA<|oG<|nA<|nk<|nI<|nI<|nO<|ng<|mZ (oV (e:=265) (sz:=128) dA rfl rfl)<|mZ (qB rfl rfl)<|nk<|uT rfl (rfl)<|ny<|ng<|qA rfl (uH dA rfl rfl) (BD w2) ?_
 rintro _ p ⟨rfl,f⟩;replace c:=c.new f;replace a:=a.acc f;refine mZ (nW rfl rfl)<|mZ (nW rfl rfl)<|mZ (nW rfl rfl)<|mZ (nW rfl rfl)<|nT<|oC 2 ([.int .u64 0,VB 0]) c<|λq c m=>?_
 replace a:=m.below a j;refine mr ?_;exact⟨a, .inl ⟨g,rfl⟩⟩
theorem Pi(p:Option Addr)(n cp:Nat)(l:List UInt8)(w:World)(h:nM w p n 128 (bv l))(hn:n<=1000000)(h0:0<n)(hm:vT (uk (pF l 0)) (ut (pF l 0))=false):
  CQ 251 [.slice p n cp] w (λv w'=>JR l n w v w'):=by
 have a:=Below.refl w.heap.size w;have I:l.length=n*128:=by simpa [oL]using h.len
 have u:wC l n=false:=by simp[wC,Xy,hm]
 have g:(pF l 0).length=64:=Ry _ _ dB;obtain⟨L,f⟩:∃ L,L=sW (uk (pF l 0)) (ut (pF l 0)) (EP (pF l 0)) (vU (pF l 0)) (wL (pF l 0)):=⟨_,rfl⟩;have J:L.length=52:=by rw[f,Ol,wL,aM,g]
 have K:∀ v∈L,v.oneCell'=true:=by rw[f];exact SI _ _ _ _ _
 have i:=λw'=>UK (pF l 0) g false hm w'
 rw[<-f]at i;clear f;refine nZ (rs:=[.cell 2 236, .tmp 3, .tmp 4, .tmp 5]) (n:=152) Tryz.func251 rfl rfl Tryz.ntmps251 dA rfl<|ny<|nK<|oD ([.int .u64 0,VB 0]) dA<|λy w2 z c A=>?_
 have B:=ag a.size z;replace a:=a.acc A;refine nA<|nA<|oG<|nA<|nk<|nI<|nI<|nO<|ng<|mZ (oV (e:=265) (sz:=128) dA rfl rfl)<|mZ (qB rfl rfl)<|nk<|qg rfl (dB)<|nU<|nJ<|ny<|ng<|qA rfl (oz dA rfl) (Wp p n cp l 0 w2 (h.below a (ax _)) dB hn) ?_
 rintro _ C ⟨rfl,j⟩;replace c:=c.new j;replace a:=a.acc j;refine nP (i C) ?_;rintro _ M ⟨rfl,m⟩;replace c:=c.new m;replace a:=a.acc m;refine ng<|mZ (nW rfl rfl)<|mZ (nW rfl rfl)<|nK<|oD (sW 0 0 0 0 (pX 48)) dA<|λD N o q r=>?_
 have E:=ag a.size o;have F:y<D:=ae c.lt o;replace c:=c.new r;replace a:=a.acc r;refine nT<|oC 52 (L) q<|λG q s=>?_
 replace c:=c.only s (ai F);replace a:=s.below a E;refine nA<|nk<|nI<|ny<|ng<|mZ (sj rfl)<|ng<|BU 33 rfl (rfl)<|nN<|nN<|nN<|mZ (pK rfl)<|ng<|nN<|nN<|nN<|mZ (pK rfl)<|ng<|nN<|nN<|nN<|nN<|nN<|nN<|nN<|mZ (pK rfl)<|nk<|yB rfl<|ny<|ng<|qA rfl (uH dA rfl rfl) (BD G) ?_
 rintro _ O ⟨rfl,t⟩;replace c:=c.new t;replace a:=a.acc t;refine mZ (nW rfl rfl)<|mZ (nW rfl rfl)<|mZ (nW rfl rfl)<|mZ (nW rfl rfl)<|nT<|oC 2 ([.int .u64 0,VB 0]) c<|λP c H=>?_
 replace a:=H.below a B;refine mr ?_;exact⟨a, .inl ⟨u,rfl⟩⟩
theorem zqB{l:List UInt8}{c nn m i:Nat}(hi:i<m)(h:Od (pF l i) c nn i m=false):IY l c nn m=false:=by
 have:(List.range m).all (λi=>Od (pF l i) c nn i m)=false:=iX.2 ⟨i,bZ.2 hi,by simp[h]⟩;simp[IY,this]
theorem Jt(p:Option Addr)(n cp:Nat)(l:List UInt8)(w:World)(h:nM w p n 128 (bv l))(hn:n<=1000000)(h0:0<n)(hm:vT (uk (pF l 0)) (ut (pF l 0))=true):
   CQ 251 [.slice p n cp] w (λv w'=>JR l n w v w'):=by
 have r:=Below.refl w.heap.size w;have m1:l.length=n*128:=by simpa [oL]using h.len
 have d9:(pF l 0).length=64:=Ry _ _ dB;obtain⟨L,N⟩:∃ L,L=sW (uk (pF l 0)) (ut (pF l 0)) (EP (pF l 0)) (vU (pF l 0)) (wL (pF l 0)):=⟨_,rfl⟩;have m2:L.length=52:=by rw[N,Ol,wL,aM,d9]
 have m3:∀ v∈L,v.oneCell'=true:=by rw[N];exact SI _ _ _ _ _
 have a7:=λw'=>UK (pF l 0) d9 true hm w'
 have e0:L[0]?=some (.int .u64 (uk (pF l 0))):=by rw[N];rfl
 have e1:L[1]?=some (VB (ut (pF l 0))):=by rw[N];rfl
 have O:L[3]?=some (VB (vU (pF l 0))):=by rw[N];rfl
 have e2:∀ v w',JR l n w v w'=(VD w w'/\((wC l n=false/\v=Tq)\/(wC l n=true/\∃ e3,v= .tuple #[.agg #[.int .u64 (uk (pF l 0)),VB (ut (pF l 0))], .slice e3 (sD l).length (sD l).length,VB (qN (sD l).length:Nat),VB 0]/\
   nM w' e3 (sD l).length 1 (bv (sD l))))):=λ_ _=>rfl
 have Q:wC l n=(decide (0<n) && (vT (uk (pF l 0)) (ut (pF l 0)) && decide (1<=vU (pF l 0)) && decide (vU (pF l 0)<=683) && decide ((vU (pF l 0)+1) / 2<=n)) && IY l (uk (pF l 0)) (ut (pF l 0)) (vU (pF l 0))):=rfl;have e4:sD l=((bodies l (vU (pF l 0))).drop 4).take (AZ l (vU (pF l 0))):=rfl;have m4:vU (pF l 0)<65536:=Ck _ 2 jY;simp only[e2];clear e2;rw[<-N]at a7;clear N;generalize uk (pF l 0)=c at*;generalize ut (pF l 0)=y at*;generalize vU (pF l 0)=m at*;generalize wC l n=J at*;generalize sD l=T at*;have e5:IY l c y m=false->J=false:=by intro q;rw[Q,q,eO]
 refine nZ (rs:=[.cell 2 236, .tmp 3, .tmp 4, .tmp 5]) (n:=152) Tryz.func251 rfl rfl Tryz.ntmps251 dA rfl<|ny<|nK<|oD ([.int .u64 0,VB 0]) dA<|λU w2 g1 a g2=>?_
 have c5:=ag r.size g1;replace r:=r.acc g2;refine nA<|nA<|oG<|nA<|nk<|nI<|nI<|nO<|ng<|mZ (oV (e:=265) (sz:=128) dA rfl rfl)<|mZ (qB rfl rfl)<|nk<|qg rfl (dB)<|nU<|nJ<|ny<|ng<|qA rfl (oz dA rfl) (Wp p n cp l 0 w2 (h.below r (ax _)) dB hn) ?_
 rintro _ g3 ⟨rfl,e6⟩;replace a:=a.new e6;replace r:=r.acc e6;refine nP (a7 g3) ?_;rintro _ m5 ⟨rfl,e7⟩;replace a:=a.new e7;replace r:=r.acc e7;refine ng<|mZ (nW rfl rfl)<|mZ (nW rfl rfl)<|nK<|oD (sW 0 0 0 0 (pX 48)) dA<|λa8 m6 e8 s e9=>?_
 have g4:=ag r.size e8;have g5:U<a8:=ae a.lt e8;replace a:=a.new e9;replace r:=r.acc e9;refine nT<|oC 52 (L) s<|λV s f0=>?_
 replace a:=a.only f0 (ai g5);replace r:=f0.below r g4;refine nA<|nk<|nI<|ny<|ng<|mZ (sj rfl)<|ng<|Ow 33 rfl (rfl)<|nE<|mZ (nG 3)<|nE<|mZ (oK rfl (Ld.ru s dA O))<|nE<|mZ (pI rfl rfl)<|mZ (oP rfl)<|ng<|sZ 38 rfl (λg6=>?_)<|λg6=>?_
 ·
  refine nN<|nN<|nN<|mZ (pK rfl)<|ng<|nN<|nN<|nN<|nN<|nN<|nN<|nN<|mZ (pK rfl)<|nk<|yB rfl<|ny<|ng<|qA rfl (uH dA rfl rfl) (BD V) ?_
  rintro _ f1 ⟨rfl,M⟩;replace a:=a.new M;replace r:=r.acc M;refine mZ (nW rfl rfl)<|mZ (nW rfl rfl)<|mZ (nW rfl rfl)<|mZ (nW rfl rfl)<|nT<|oC 2 ([.int .u64 0,VB 0]) a<|λm7 a g7=>?_
  replace r:=g7.below r c5;refine mD ?_
  · refine⟨r, .inl ⟨?_,rfl⟩⟩
    rw[Q,show decide (1<=m)=false from decide_eq_false dB];simp
 ·
  refine nE<|mZ (nG 3)<|nE<|mZ (oK rfl (Ld.ru s dA O))<|nE<|mZ (rz rfl rfl)<|mZ (oP rfl)<|ng<|sZ 43 rfl (λg8=>?_)<|λg8=>?_
  ·
   refine nN<|nN<|nN<|nN<|nN<|nN<|nN<|mZ (pK rfl)<|nk<|yB rfl<|ny<|ng<|qA rfl (uH dA rfl rfl) (BD V) ?_
   rintro _ f1 ⟨rfl,M⟩;replace a:=a.new M;replace r:=r.acc M;refine mZ (nW rfl rfl)<|mZ (nW rfl rfl)<|mZ (nW rfl rfl)<|mZ (nW rfl rfl)<|nT<|oC 2 ([.int .u64 0,VB 0]) a<|λm8 a g9=>?_
   replace r:=g9.below r c5;refine mD ?_
   · refine⟨r, .inl ⟨?_,rfl⟩⟩
     rw[Q,show decide (m<=683)=false from decide_eq_false dB];simp
  ·
   refine nE<|mZ (nG 3)<|nE<|mZ (oK rfl (Ld.ru s dA O))<|nE<|mZ (oJ rfl rfl (nV dB))<|nE<|mZ (NN rfl rfl dB dB)<|nE<|ng<|nE<|mZ (oV (e:=265) (sz:=128) dA rfl rfl)<|nE<|mZ (rz rfl rfl)<|mZ (oP rfl)<|nk<|oZ rfl (λh1=>?_)<|λh1=>?_
   ·
    refine ny<|ng<|qA rfl (uH dA rfl rfl) (BD V) ?_
    rintro _ f1 ⟨rfl,M⟩;replace a:=a.new M;replace r:=r.acc M;refine mZ (nW rfl rfl)<|mZ (nW rfl rfl)<|mZ (nW rfl rfl)<|mZ (nW rfl rfl)<|nT<|oC 2 ([.int .u64 0,VB 0]) a<|λm9 a h2=>?_
    replace r:=h2.below r c5;refine mD ?_
    · refine⟨r, .inl ⟨?_,rfl⟩⟩
      rw[Q,show decide ((m+1) / 2<=n)=false from decide_eq_false dB];simp
   ·
    refine nU<|nJ<|ny<|nA<|nk<|nI<|ny<|mZ (nG 3)<|mZ (oK rfl (Ld.ru s dA O))<|ng<|nk<|pE ?_
    have n0:=s.lt;have n1:=a.lt;refine qY (α:=Nat × Value) (0,VC) (λk=>[(60,VB (k.1:Nat)),(9,k.2),(59,VB m),(0, .slice p n cp),(6, .func (.func 254) #[] #[]),(7,VA a8),(2,VA U)])
      (λk w'=>k.1<=m/\(∀ j,j<k.1->Od (pF l j) c y j m=true)/\og w' V.heap.size 5 1 k.2 (48*k.1) (bv (bodies l k.1))/\row w' a8 L 298/\row w' U [.int .u64 0,VB 0] 236/\VD w w'/\V.heap.size<=w'.heap.size) (λk=>m - k.1)
      VF ⟨aC _,(by intro j A;exact absurd A (gJ _)),xV _ _ _ _,s,a,r,ax _⟩ ?_
    rintro⟨k,n2⟩ f R ⟨h3,c6,C,s,a,g,n3⟩;simp only at h3 c6 C;have o:=Below.refl R.heap.size R;have n4:=g.size
    by_cases h4:k<m
    · have a9:(pF l k).length=64:=Ry _ _ dB
      have D:∃ L,L=sW (uk (pF l k)) (ut (pF l k)) (EP (pF l k)) (vU (pF l k)) (wL (pF l k)):=⟨_,rfl⟩;obtain⟨E,F⟩:=D;have n5:E.length=52:=by rw[F,Ol,wL,aM,a9]
      have n6:∀ v∈E,v.oneCell'=true:=by rw[F];exact SI _ _ _ _ _
      have c7:=λb (hb:vT (uk (pF l k)) (ut (pF l k))=b) w'=>UK (pF l k) a9 b hb w'
      have h5:E[0]?=some (.int .u64 (uk (pF l k))):=by rw[F];rfl
      have k1:E[1]?=some (VB (ut (pF l k))):=by rw[F];rfl
      have k2:E[2]?=some (VB (EP (pF l k))):=by rw[F];rfl
      have k3:E[3]?=some (VB (vU (pF l k))):=by rw[F];rfl
      have h6:(E.drop 4).take (48*1)=bv (wL (pF l k)):=by
        rw[F];exact aQ (by show(bv (wL (pF l k))).length<=_;rw[oL,wL,aM,a9];omega)
      have X:Od (pF l k) c y k m=(vT (uk (pF l k)) (ut (pF l k)) && decide (uk (pF l k)=c/\ut (pF l k)=y) && decide (EP (pF l k)=k) && decide (vU (pF l k)=m)):=rfl;have h7:=YA l k;have c8:(wL (pF l k)).length=48:=by rw[wL,aM,a9]
      rw[<-F]at c7;clear F;generalize uk (pF l k)=b0 at*;generalize ut (pF l k)=b1 at*;generalize EP (pF l k)=f2 at*;generalize vU (pF l k)=f3 at*;have b2:Od (pF l k) c y k m=false->J=false:=λq=>e5 (zqB h4 q)
      rcases G:vT (b0:Int) b1 with _|_
      · skip
        refine mE ?_;rintro _ c9 ⟨rfl,Y⟩;replace g:=g.acc Y;replace o:=o.acc Y;refine nP (c7 _ G c9) ?_;rintro _ h8 ⟨rfl,a0⟩;replace g:=g.acc a0;replace o:=o.acc a0;refine ng<|mZ (nW rfl rfl)<|mZ (nW rfl rfl)<|nK<|oD (sW 0 0 0 0 (pX 48)) dA<|λh9 i0 a1 H a2=>?_
        have d0:=ag g.size a1;have d1:=ag o.size a1;replace g:=g.acc a2;replace o:=o.acc a2;refine nT<|oC 52 (E) H<|λi1 H f4=>?_
        replace g:=f4.below g d0;replace o:=f4.below o d1;refine nA<|nk<|nI<|ny<|ng<|mZ (sj rfl)<|ng<|BU 72 rfl (rfl)<|nN<|nN<|nN<|nN<|nN<|mZ (pK rfl)<|ng<|nN<|nN<|nN<|nN<|mZ (pK rfl)<|ng<|nN<|nN<|nN<|nN<|nN<|mZ (pK rfl)<|nk<|yB rfl<|ny<|ng<|qA rfl (uH dA rfl rfl) (BD i1) ?_
        rintro _ d2 ⟨rfl,B⟩;replace g:=g.acc B;replace o:=o.acc B;refine mF ?_;have a:=a.new o;have b3:=o.size;refine nT<|oC 2 ([.int .u64 0,VB 0]) a<|λn7 a i2=>?_
        replace g:=i2.below g dB;refine mG ?_;exact⟨g, .inl ⟨b2 (by rw[X,G];rfl),rfl⟩⟩
      · skip
        refine mE ?_;rintro _ c9 ⟨rfl,Y⟩;replace g:=g.acc Y;replace o:=o.acc Y;refine nP (c7 _ G c9) ?_;rintro _ h8 ⟨rfl,a0⟩;replace g:=g.acc a0;replace o:=o.acc a0;refine ng<|mZ (nW rfl rfl)<|mZ (nW rfl rfl)<|nK<|oD (sW 0 0 0 0 (pX 48)) dA<|λh9 i0 a1 H a2=>?_
        have d0:=ag g.size a1;have d1:=ag o.size a1;replace g:=g.acc a2;replace o:=o.acc a2;refine nT<|oC 52 (E) H<|λd3 H f5=>?_
        replace g:=f5.below g d0;replace o:=f5.below o d1;refine nA<|nk<|nI<|ny<|ng<|mZ (sj rfl)<|ng<|Ow 72 rfl (rfl)<|nE<|mZ (nG 0)<|nE<|mZ (oK rfl (Ld.JV (H.range 0 [.int .u64 b0,VB b1] (Wd h5 k1)) dA dA))<|nE<|mZ (nG 0)<|nE<|mZ (oK rfl (Ld.JV ((s.new o).range 0 [.int .u64 c,VB y] (Wd e0 e1)) dA dA))<|nE<|mZ (VH (k0:=.u64) (k1:=.i64) dA rfl rfl)<|mZ (oP rfl)<|ng<|Kg 79 rfl (λd4=>?_)<|λd4=>?_
        ·
         refine nN<|nN<|nN<|nN<|mZ (pK rfl)<|ng<|nN<|nN<|nN<|nN<|nN<|mZ (pK rfl)<|nk<|yB rfl<|ny<|ng<|qA rfl (uH dA rfl rfl) (BD d3) ?_
         rintro _ d2 ⟨rfl,B⟩;replace g:=g.acc B;replace o:=o.acc B;refine mF ?_;have a:=a.new o;have b3:=o.size;refine nT<|oC 2 ([.int .u64 0,VB 0]) a<|λn8 a i3=>?_
         replace g:=i3.below g dB;refine mG ?_
         · simp only[ed,decide_eq_false_iff_not]at d4
           exact⟨g, .inl ⟨b2 (by rw[X,G,show decide (b0=c/\b1=y)=false from decide_eq_false dB];rfl),rfl⟩⟩
        ·
         simp only[Bool.not_eq_false',decide_eq_true_eq]at d4;refine nE<|mZ (nG 2)<|nE<|mZ (oK rfl (Ld.ru H dA k2))<|nE<|ng<|nE<|mZ (pJ rfl rfl)<|mZ (oP rfl)<|ng<|sZ 85 rfl (λi4=>?_)<|λi4=>?_
         ·
          refine nN<|nN<|nN<|nN<|nN<|mZ (pK rfl)<|nk<|yB rfl<|ny<|ng<|qA rfl (uH dA rfl rfl) (BD d3) ?_
          rintro _ d2 ⟨rfl,B⟩;replace g:=g.acc B;replace o:=o.acc B;refine mF ?_;have a:=a.new o;have b3:=o.size;refine nT<|oC 2 ([.int .u64 0,VB 0]) a<|λn9 a i5=>?_
          replace g:=i5.below g dB;refine mG ?_
          · exact⟨g, .inl ⟨b2 (by rw[X,show decide (f2=k)=false from decide_eq_false dB,eO];rfl),rfl⟩⟩
         ·
          refine nE<|mZ (nG 3)<|nE<|mZ (oK rfl (Ld.ru H dA k3))<|nE<|mZ (nG 3)<|nE<|mZ (oK rfl (Ld.ru (s.new o) dA O))<|nE<|mZ (pJ rfl rfl)<|mZ (oP rfl)<|nk<|oZ rfl (λi6=>?_)<|λi6=>?_
          ·
           refine ny<|ng<|qA rfl (uH dA rfl rfl) (BD d3) ?_
           rintro _ d2 ⟨rfl,B⟩;replace g:=g.acc B;replace o:=o.acc B;refine mF ?_;have a:=a.new o;have b3:=o.size;refine nT<|oC 2 ([.int .u64 0,VB 0]) a<|λo0 a i7=>?_
           replace g:=i7.below g dB;refine mG ?_
           · exact⟨g, .inl ⟨b2 (by rw[X,show decide (f3=m)=false from decide_eq_false dB,eO]),rfl⟩⟩
          ·
           refine nU<|nJ<|nO<|ng<|mZ (nG 4)<|mZ (yw (e:=5) (n:=48) (0) (48) (48) (48) dA rfl rfl rfl rfl ig dB dB dB dB dB) ?_
           have f6:=H.sl (m:=48) (sz:=1) 4 dB jB;rw[h6]at f6;have C:=C.new o;have s:=s.new o;have a:=a.new o;have b3:=o.size;refine nK<|tu (e:=5) (sz:=1) (bytes:=1) (z:=Value.int .u8 0) dA rfl dA rfl iT rfl C rfl f6 (uf _) jB dB (λo1=>dB)<|λi8 o2 i9 b4 o3=>?_
           replace s:=s.own C b4 dB;replace a:=a.own C b4 dB;replace g:=g.own C b4 dB;refine nA<|oI<|pO<|nJ<|nO<|mZ (oJ rfl rfl (Coup.nV dB))<|ng<|oI<|oM ⟨(k+1,i8),by simp only;omega,⟨rfl,by go_num,rfl,rfl,rfl,rfl,rfl,rfl⟩,by simp only;omega,?_,?_,s,a,g,by have:=b4.size;omega⟩
           · intro j A
             rcases dH j k with a3|a3
             · exact c6 j a3
             · obtain rfl:j=k:=by simp only at A;omega
               rw[X,G,decide_eq_true (by omega:b0=c/\b1=y),decide_eq_true (by omega:f2=j),decide_eq_true (by omega:f3=m)];rfl
           · simp only
             rw[h7,wR,show 48*(k+1)=48*k+48 by omega];exact i9
    · obtain rfl:k=m:=by omega
      have D:=C.form' dB;obtain⟨t,u,b5,rfl,o4,o5,o6⟩:=D;have I:=C.sl;have c8:=zhp l k dB;have D:∃ Z,Z=(bodies l k).drop (4+AZ l k):=⟨_,rfl⟩;obtain⟨Z,d5⟩:=D;have o7:=zus l k;have b6:J=(decide (AZ l k<=32768) && decide (qE (AZ l k)=k) && Z.all (· == 0)):=by
        rw[Q,hm,decide_eq_true h0,decide_eq_true (by omega:1<=k),decide_eq_true (by omega:k<=683),decide_eq_true (by omega:(k+1) / 2<=n),IY,<-d5,dC.2 (λj A=>c6 j (bZ.1 A))];simp only[fD]
      have j0:nM R (some ⟨t,u+0,none⟩) 4 1 (bv ((bodies l k).take 4)):=by
        have:=I.Fa 0 4 dB
        rwa [bV]at this
      have j1:∀ q c w',nM w' q 4 1 (bv ((bodies l k).take 4))->CQ 257 [.slice q 4 c] w' (λv w2=>v= .int .u64 (AZ l k)/\w'=w2):=λq c w' j2=>zrX q 4 c _ w' j2 dB
      clear Q e5;generalize AZ l k=K at*;refine ny<|mZ (pI rfl rfl)<|nk<|nI<|qg rfl (dB)<|qL<|qK<|rq<|qO<|nJ<|ny<|ng<|mZ (JW (e:=5) (0) (4) (4) (4) dA rfl rfl ⟨_,_,rfl,rfl⟩ ⟨_,_,rfl,rfl⟩ ig dB dB dB dB dB)<|nP (j1 _ _ R j0) ?_
      rintro _ _ ⟨rfl,rfl⟩;refine mZ (rP (k:=.i64) dA dA rfl (nV dB))<|nA<|nk<|nI<|nI<|qH [] dA ?_;intro b7 b8 o8;replace a:=a.new b8;replace s:=s.new b8;replace I:=I.new b8;replace g:=g.acc b8;have j3:=s;refine nu 0 (nS)<|nu 1 (rz rfl rfl)<|nu 2 (nS)<|EW 109 rfl (λj4=>?_)<|λj4=>?_
      ·
       refine oU 3 dA rfl<|oU 5 dA rfl<|oU 6 dA rfl<|oU 4 dA rfl<|oU 7 dA rfl<|nu 8 (pK rfl)<|pq dA<|nJ<|yB rfl<|ny<|ng<|qA rfl (uH dA rfl rfl) (BD b7) ?_
       rintro _ j5 ⟨rfl,a4⟩;replace a:=a.new a4;replace g:=g.acc a4;refine mZ (nW rfl rfl)<|mZ (nW rfl rfl)<|mZ (nW rfl rfl)<|mZ (nW rfl rfl)<|nT<|oC 2 ([.int .u64 0,VB 0]) a<|λo9 a j6=>?_
       replace g:=j6.below g dB;refine mD ?_
       · exact⟨g, .inl ⟨by rw[b6,decide_eq_false dB];rfl,rfl⟩⟩
      ·
       refine nu 3 (nS)<|zh 4 dA rfl (λ_=>oz dA rfl) (λw' S=>VV K dB w')<|nu 5 (nG 3)<|nR 6 (λw' S=>oK rfl (Ld.ru (j3.kq S) dA O))<|nu 7 (pJ rfl rfl)<|nu 8 (oP rfl)<|pq dA<|nJ<|oZ rfl (λj7=>?_)<|λj7=>?_
       ·
        refine ny<|ng<|qA rfl (uH dA rfl rfl) (BD b7) ?_
        rintro _ j5 ⟨rfl,a4⟩;replace a:=a.new a4;replace g:=g.acc a4;refine mZ (nW rfl rfl)<|mZ (nW rfl rfl)<|mZ (nW rfl rfl)<|mZ (nW rfl rfl)<|nT<|oC 2 ([.int .u64 0,VB 0]) a<|λp0 a j8=>?_
        replace g:=j8.below g dB;refine mD ?_
        · exact⟨g, .inl ⟨by rw[b6,decide_eq_false (by omega:¬qE K=k),eO];rfl,rfl⟩⟩
       ·
        have G:qE K=k:=by omega
        have j9:=XC K;rw[G]at j9;refine nU<|nJ<|nI<|ny<|ng<|ng<|mZ (oJ rfl rfl (nV dB))<|mZ (Oj (e:=5) (sz:=1) (4+K) (_) (_) dA rfl ⟨_,_,rfl,dB⟩ rfl rfl ig dB dB dB)<|mZ (oV (e:=5) (sz:=1) dA rfl rfl)<|ng<|nk<|pE ?_
        have k7:Z.length=48*k - (4+K):=by rw[d5,aM,c8]
        obtain⟨b9,k8,k9⟩:∃ b9,(if b5=4+K then some (⟨t,u,none⟩:Addr)else Option.map (λx:Addr=>x.add ((4+K)*1)) (some (⟨t,u,none⟩:Addr)))=some ⟨t,b9,none⟩/\nM b7 (some ⟨t,b9,none⟩) (48*k - (4+K)) 1 (bv Z):=by
          by_cases a5:b5=4+K
          · refine⟨u,if_pos a5,by rw[oL,k7,dD],by unfold maxLen;omega,λq=>dB⟩
          · refine⟨u+(4+K)*1,by rw[if_neg a5,dP,Addr.add_lit],?_⟩
            have:=I.Fa (4+K) (48*k - (4+K)) dB;rw[<-d5,aQ dB]at this;rw[dD];exact this
        refine qY (α:=Nat) 0 (λi=>[(127,VB (i:Nat)),(126,VB ((48*k - (4+K):Nat):Int)),(125, .slice (some ⟨t,b9,none⟩) (48*k - (4+K)) (b5 - (4+K))),(9, .slice (some ⟨t,u,none⟩) (48*k) b5),(13,VB K),(6, .func (.func 254) #[] #[]),(7,VA a8),(2,VA U)])
          (λi w'=>i<=48*k - (4+K)/\(∀ j,j<i->Z[j]?=some 0)/\w'=b7) (λi=>48*k - (4+K) - i)
          ⟨rfl,rfl,by rw[<-k8];rfl,rfl,rfl,rfl,rfl,rfl,rfl⟩ ⟨aC _,(by intro j A;exact absurd A (gJ _)),rfl⟩ ?_
        rintro i p1 l0 ⟨p2,f7,rfl⟩;refine ny<|mZ (pI rfl rfl)<|nk<|nI<|oZ rfl (λl1=>?_)<|λl1=>?_
        ·
         refine nU<|nJ<|nI<|pE<|ny ?_
         have D:∃ P,Z[i]?=some P:=⟨_,aG dB⟩;obtain⟨P,d6⟩:=D;refine mZ (uX (e:=5) dA rfl rfl (i) dB dB)<|mZ (oK rfl (Ld.sl1 k9 dA (v:=vE P) (by rw[ES,d6];rfl)))<|oG<|ng<|mZ (pJ rfl rfl)<|nk<|oZ rfl (λf8=>?_)<|λf8=>?_
         ·
          refine ny<|ng<|qA rfl (uH dA rfl rfl) (BD l0) ?_
          rintro _ p3 ⟨rfl,f9⟩;replace a:=a.new f9;replace g:=g.acc f9;refine mZ (nW rfl rfl)<|mZ (nW rfl rfl)<|mZ (nW rfl rfl)<|mZ (nW rfl rfl)<|nT<|oC 2 ([.int .u64 0,VB 0]) a<|λp4 a l2=>?_
          replace g:=l2.below g dB;refine nA<|nA<|nA<|nk<|nY<|sS<|qy<|zH<|sS<|qy<|ou [_,_,_,_] ⟨⟨_,rfl,Ld.qI (k:=2) a dA dA gp⟩,rfl,rfl,rfl,trivial⟩ ?_
          · refine⟨g, .inl ⟨?_,rfl⟩⟩
            have:Z.all (· == 0)=false:=iX.2 ⟨P,aO d6,by
              intro q;have l3:P=0:=by simpa using q
              exact f8 (by rw[l3];rfl)⟩
            rw[b6,this,eO]
         ·
          refine nU<|pO<|nJ<|nO<|mZ (oJ rfl rfl (Coup.nV dB))<|ng<|oI ?_
          have l4:P=0:=by
            exact iI.1 (by show P.toNat=0;omega)
          refine oM ⟨i+1,dB,VF,dB,?_,rfl⟩;intro j A;rcases dH j i with a3|a3
          · exact f7 j a3
          · obtain rfl:j=i:=by omega
            rw[d6,l4]
        ·
         have l5:J=true:=by
           have:Z.all (· == 0)=true:=dC.2 λx l6=>by
             have D:=eZ.1 l6;obtain⟨j,A⟩:=D;have:=f7 j (by have:=(aL.1 A).1;omega);rw[A]at this;simpa using this
           rw[b6,this,decide_eq_true G,decide_eq_true dB];rfl
         have d7:T.length=K:=by rw[e4,aI,aM,c8];omega
         obtain⟨a6,a7,l7⟩:∃ a6,(if 4+K=4 then some (⟨t,u,none⟩:Addr)else Option.map (λx:Addr=>x.add (4*1)) (some (⟨t,u,none⟩:Addr)))=some ⟨t,a6,none⟩/\∀ w',nM w' (some ⟨t,u,none⟩) (48*k) 1 (bv (bodies l k))->nM w' (some ⟨t,a6,none⟩) K 1 (bv T):=by
           by_cases a5:4+K=4
           · refine⟨u,if_pos a5,λw' _=>⟨by rw[oL,d7,dD],by unfold maxLen;omega,λq=>dB⟩⟩
           · refine⟨u+4*1,by rw[if_neg a5,dP,Addr.add_lit],λw' l8=>?_⟩
             have:=l8.Fa 4 K dB
             rwa [<-e4]at this
         refine qL<|qK<|rq<|qO<|nJ<|nI<|qH [U] dA ?_
         intro p5 c4 l9;replace a:=a.new c4;replace s:=s.new c4;replace I:=I.new c4;replace g:=g.acc c4;have g0:=s;refine nu 0 (nG 0)<|nR 1 (λw' S=>oK rfl (Ld.JV ((g0.kq S).range 0 [.int .u64 c,VB y] (Wd e0 e1)) dA dA))<|nu 2 (nS)<|nu 3 (nS)<|nu 4 (oJ rfl rfl (nV dB))<|nu 5 (nS)<|nu 6 (oJ rfl rfl (nV dB))<|nu 7 (Oj (e:=5) (sz:=1) (4) (4+K) (4+K) dA rfl ⟨_,_,rfl,rfl⟩ ⟨_,_,rfl,dB⟩ ⟨_,_,rfl,dB⟩ ig dB dB dB)<|nu 8 (nG 3)<|nR 9 (λw' S=>oK rfl (Ld.ru (g0.kq S) dA O))<|nu 10 (oJ rfl rfl (nV dB))<|nu 11 (NN rfl rfl dB dB)<|oh 12 dA<|rA rfl rfl<|oC 2 ([.int .u64 c,VB y]) a<|λp6 a d8=>?_
         have m0:=l9.aq d8;refine⟨m0,?_⟩;replace I:=I.only d8 dB;replace g:=d8.below g dB;refine nu 13 (rO)<|nu 14 (rO)<|nu 15 (rO)<|pq dA<|nJ<|nY<|ou [_,_,_,_] ⟨⟨_,rfl,Ld.qI (k:=2) a dA dA gp⟩,rfl,rfl,rfl,trivial⟩<|⟨g, .inr ⟨l5,some ⟨t,a6,none⟩,?_,by rw[d7];exact l7 _ I⟩⟩
         have e:Value.tuple #[.agg #[.int .u64 c,VB y], .slice (if 4+K=4 then some (⟨t,u,none⟩:Addr)else Option.map (λx:Addr=>x.add (4*1)) (some (⟨t,u,none⟩:Addr))) (4+K - 4) (4+K - 4),VB (((k:Int)+1) / 2),VB 0]=
             .tuple #[.agg #[.int .u64 c,VB y], .slice (some ⟨t,a6,none⟩) T.length T.length,VB (qN T.length:Nat),VB 0]:=by
           rw[a7,d7,qN,G,gF];rfl
         exact e
theorem YU(c nn:Nat)(b:List UInt8):(zI c nn b).length=128*qN b.length:=by
 rw[zI,aA,Eo _ (zqz c nn b),f_,pX,bz];unfold qN;omega
end Go.Proofs.YtpaniebomegnbaaGreat
namespace Coup
open Go Go.RowKit Go.ChangeShapes Go.WideShapes Go.Deep
section
variable {H:Type}{enc:TypeId × Value->H}{P:Program}{W:World}{base:Nat}{spare:Nat->Bool}{held:Bool}
def NW(enc:TypeId × Value->H)(P:Program)(W:World)(base:Nat)(spare:Nat->Bool)(held:Bool)(e:TypeId){α:Type}(Q:α->List Value->Prop):Prop:=
 ∀ fuel cs x,DataW.trod enc P W base spare held fuel e cs=some x->∃ r,Q r cs
theorem Sc{e:TypeId}{k:IntKind}(he:P.underlying e=some (.int k)):NW enc P W base spare held e (fun(i:Int) cs=>cs=[.int k i]/\(Lit.int k i).wf=true):=λe cs x a=>by
 obtain⟨n,rfl,_,c⟩:=DataW.trod_int he a;exact⟨n,rfl,c⟩
def yE{α:Type}(Q:α->List Value->Prop)(W:World)(n:Nat)(p:Option Addr)(len:Nat)(R:List α):Prop:=
 R.length=len/\∃ cs,nM W p len n cs/\∀ (i:Nat) (r:α),R[i]?=some r->Q r ((cs.drop (i*n)).take n)
theorem zrY{t e:TypeId}{n:Nat}{α:Type}{Q:α->List Value->Prop}(ht:P.underlying t=some (.slice e))(hC:P.cellsOf e=n)(hq:NW enc P W base spare held e Q):
  NW enc P W base spare held t (fun(R:List α) cs=>∃ p cp,cs=[.slice p R.length cp]/\R.length<=cp/\yE Q W n p R.length R):=λf cs x e=>by
 have g:∃ q m cp,cs=[.slice q m cp]:=by
  rcases open_slice ht e with⟨c,_⟩|⟨k,l,o,r,s,D,Pl,c,_⟩
  .exact⟨_,_,_,c⟩
  .exact⟨_,_,_,c⟩
 obtain⟨q,m,cp,rfl⟩:=g;obtain⟨⟨R,cs,a,h,i⟩,j⟩:=Z_ (enc:=enc) (d:=x.1) (p:=x.2) (n:=n) Q ht hC hq ⟨f,e⟩;exact⟨R,q,cp,by rw[a],by rw[a];exact j,by rw[a];exact⟨a,cs,h,i⟩⟩
theorem zpp{e:TypeId}{fs:Array Field}(hs:P.underlying e=some (.struct fs)){fuel:Nat}{cs:List Value}{x:DataW H × List MemPlace}(h:DataW.trod enc P W base spare held fuel e cs=some x):
  cs.length=P.cellsOf e/\∃ m,∀ (i:Nat) (f:Field),fs[i]?=some f->∃ y,DataW.trod enc P W base spare held m f.type ((cs.drop f.offset).take (P.cellsOf f.type))=some y:=by
 obtain⟨xs,m,rfl,_,e,g,j⟩:=DataW.trod_struct hs h;refine⟨e,m,λi f a=>?_⟩;have c:=j i f a;have k:i<xs.length:=by
  rw[g];exact(aX.1 a).1
 rw[aG k]at c;exact⟨_,c⟩
theorem Pv{fs:Array Field}{m:Nat}{cs:List Value}(hf:∀ (i:Nat) (f:Field),fs[i]?=some f->∃ y,DataW.trod enc P W base spare held m f.type ((cs.drop f.offset).take (P.cellsOf f.type))=some y)(i o k:Nat){f:Field}(hi:fs[i]?=some f)(ho:f.offset=o)(hc:P.cellsOf f.type=k):
  ∃ y,DataW.trod enc P W base spare held m f.type ((cs.drop o).take k)=some y:=by
 subst ho;subst hc;exact hf i f hi
theorem Im {t e:TypeId} {n:Nat} {α:Type} {Q:α->List Value->Prop} {a:Option Addr} {len cap:Nat} {d:DataW H} {p:List MemPlace} (ht:P.underlying t=some (.slice e)) (hC:P.cellsOf e=n) (hq:NW enc P W base spare held e Q)
  (h:DataW.Trod enc P W base spare held t (.slice a len cap) d p):(∃ R,yE Q W n a len R)/\len<=cap:=by
 obtain⟨⟨R,cs,a,c,e⟩,f⟩:=Z_ (n:=n) Q ht hC hq h;exact⟨⟨R,a,cs,c,e⟩,f⟩
end
namespace yE
variable {α:Type}{Q Q':α->List Value->Prop}{w w':World}{n:Nat}{p:Option Addr}{len:Nat}{R:List α}
theorem some(h:yE Q w n p len R)(h0:0<len*n):∃ g o,p=Option.some ⟨g,o,none⟩/\g<w.heap.size:=by
 obtain⟨_,cs,a,_⟩:=h;exact a.some h0
theorem max(h:yE Q w n p len R):len<=maxLen:=h.2.choose_spec.1.max
theorem get{i:Nat}(h:yE Q w n p len R)(hi:i<len):∃ a,R[i]?=Option.some a:=⟨_,aG (by have:=h.1;omega)⟩
theorem to(h:yE Q w n p len R)(hb:VD w w')(hq:∀ r cs,Q r cs->Q' r cs):yE Q' w' n p len R:=by
 obtain⟨a,cs,c,e⟩:=h;exact⟨a,cs,c.below hb (ax _),λi r f=>hq r _ (e i r f)⟩
theorem el{g o i:Nat}{a:α}(h:yE Q w n (Option.some ⟨g,o,none⟩) len R)(hi:R[i]?=Option.some a):∃ cs,Q a cs/\cs.length=n/\∀ j v,cs[j]?=Option.some v->w.cell? ⟨g,o+i*n+j,none⟩=Option.some v:=by
 obtain⟨g,cs,e,f⟩:=h;have k:=(aL.1 hi).1;have l:=e.len;have m:i*n+n<=len*n:=by rw[<-iJ];exact cz _ dB
 refine⟨_,f i a hi,by rw[aI,aM];omega,λj v c=>?_⟩;rw[bD]at c
 split at c
 .rw[bC]at c
  have:=e.cell _ c;rw[fM];exact this
 .cases c
theorem ldB{P:Program}{t g o i:Nat}{a:α}(h:yE Q w n (Option.some ⟨g,o,none⟩) len R)(ht:Nz P t=true)(hs:vS P t n=true)(hi:R[i]?=Option.some a):∃ cs,Q a cs/\cs.length=n/\∀ w',VD w w'->Ld P w' t ⟨g,o+i*n,none⟩ (.agg cs.toArray)/\∀ j v,cs[j]?=Option.some v->w'.cell? ⟨g,o+i*n+j,none⟩=Option.some v:=by
 obtain⟨cs,k,a,l⟩:=h.el hi;have m:0<n->g<w.heap.size:=λp=>by
  have r:=(aL.1 hi).1;obtain⟨s,t,e,q⟩:=h.some (eT (by have:=h.1;omega) p);cases e;exact q
 refine⟨cs,k,a,λw' hb=>?_⟩;have c:∀ j v,cs[j]?=Option.some v->w'.cell? ⟨g,o+i*n+j,none⟩=Option.some v:=λj v f=>by
  have u:=(aL.1 f).1;rw[<-l j v f];simp only[World.cell?,hb.block g (m dB)]
 exact⟨Ld.JV c ht (by rw[a];exact hs),c⟩
end yE
theorem PW(cs:List Value)(o k:Nat):cs.drop o=(cs.drop o).take k++cs.drop (o+k):=by
 rw[<-dR,bM]
theorem zrZ{W:World}{p:Option Addr}{len:Nat}{R:List Int}(h:yE (fun(i:Int) cs=>cs=[.int .u8 i]/\(Lit.int .u8 i).wf=true) W 1 p len R):∃ l:List UInt8,l.length=len/\nM W p len 1 (bv l):=by
 obtain⟨k,cs,a,c⟩:=h;have e:=a.len;obtain⟨l,rfl⟩:=zgz cs λi m=>by
  obtain⟨f,g⟩:=c i _ (aG (by omega:i<R.length));obtain⟨b,hb⟩:=byte_of_wf g;refine⟨b,?_⟩;have:=congrArg (λj=>j[0]?) f;rw[hb]at this;show cs[i]?=some (Value.int .u8 (b.toNat:Int));simpa [bD,bC]using this
 exact⟨l,by simpa [oL]using e,a⟩
end Coup
namespace Go.Proofs.YtpaniebomegnbaaGreat
open Go Go.RowKit Coup
structure Ch where
 num:Int
 page:List UInt8
def rV(c:Ch):List Value:=VB c.num::bv c.page
abbrev Rec:=List Ch
def sI(R:Rec):Prop:=∀ c∈R,c.page.length=512
def qp(R:Rec):List Value:=R.flatMap rV
theorem BG{c:Ch}(h:c.page.length=512):(rV c).length=513:=by rw[rV,aD,oL,h]
theorem Ao{R:Rec}(h:sI R):(qp R).length=R.length*513:=by
 induction R with
 |nil=>rfl
 |cons c R ih=>
  rw[qp,bP,aA,BG (h c (aK ..)),aD];have:=ih λx a=>h x (aj _ a)
  rw[qp]at this;omega
theorem n_{R:Rec}(h:sI R){i:Nat}{c:Ch}(hc:R[i]?=some c):((qp R).drop (i*513)).take 513=rV c:=by
 induction R generalizing i with
 |nil=>simp at hc
 |cons d R ih=>
  have a:=BG (h d (aK ..));cases i with
  |zero=>
   obtain rfl:d=c:=by simpa using hc
   rw[cO,bV,qp,bP,bN a]
  |succ i=>
   have e:R[i]?=some c:=by simpa using hc
   rw[qp,bP,show(i+1)*513=(rV d).length+i*513 by omega,fC,cK dB,aU,show(rV d).length+i*513 - (rV d).length=i*513 by omega];exact ih (λx f=>h x (aj _ f)) e
theorem Uk(R:Rec)(c:Ch):qp (R++[c])=qp R++rV c:=by rw[qp,bR];simp[qp]
theorem EC(c:Ch):∀ v∈rV c,v.oneCell'=true:=λv a=>by
 rcases ak.1 a with rfl|a
 .rfl
 .exact uf _ v a
theorem zut(R:Rec):∀ v∈qp R,v.oneCell'=true:=λv a=>by
 obtain⟨c,_,e⟩:=bG.1 a;exact EC c v e
theorem NP{w:World}{g o n:Nat}{R:Rec}(h:nM w (some ⟨g,o,none⟩) n 513 (qp R))(hR:sI R){i:Nat}{c:Ch}(hc:R[i]?=some c):Ld Tryz.prog w 164 ⟨g,o+i*513,none⟩ (.agg (rV c).toArray):=by
 have a:=(aL.1 hc).1;have c:=Ao hR;have:=Ld.zu (P:=Tryz.prog) (t:=164) (j:=i*513) (k:=513) h dA dA dB;rw[n_ hR hc]at this;exact this
def vO(n:Int):Int:=if 1<=n/\n<=60 then(qN (n.toNat*516):Nat)else 0
theorem NQ(n:Int)(w:World):CQ 95 [VB n] w (λv w'=>v=VB (vO n)/\w=w'):=by
 refine nZ (rs:=[.tmp 2]) (n:=12) Tryz.func95 rfl rfl Tryz.ntmps95 dA rfl<|ny<|nA<|nk<|nI<|ny<|ng<|mZ (pI rfl rfl)<|ng<|sZ 5 rfl (λa=>?_)<|λa=>?_
 ·
  refine mH ?_;exact⟨by rw[vO,if_neg dB];rfl,rfl⟩
 ·
  refine nE<|ng<|nE<|mZ (rz rfl rfl)<|mZ (oP rfl)<|nk<|oZ rfl (λc=>?_)<|λc=>?_
  ·
   refine lY ?_;exact⟨by rw[vO,if_neg dB];rfl,rfl⟩
  ·
   refine nU<|nJ<|ny<|ng<|mZ (yR rfl rfl (Coup.nV dB))<|nP (K_ (n*516) w) ?_
   rintro _ _ ⟨rfl,rfl⟩;refine nA<|nk<|nY<|ou [_] ⟨rfl,trivial⟩<|⟨?_,rfl⟩;show VB _=_
   congr 1
   rw[vO,if_pos dB,MZ,if_pos dB,show(n*516).toNat=n.toNat*516 by omega]
   rfl
theorem XL(p:Option Addr)(n c:Nat)(l:List UInt8)(w:World)(h:nM w p n 1 (bv l))(hn:n<=8):CQ 230 [.slice p n c] w (λv w'=>v= .int .u64 (qX l)/\w=w'):=by
 have m:l.length=n:=by simpa [oL]using h.len
 refine nZ (rs:=[.tmp 2]) (n:=18) Tryz.func230 rfl rfl Tryz.ntmps230 dA rfl<|ny<|nA<|nk<|nI<|ny<|ng<|mZ (oV (e:=5) (sz:=1) dA rfl rfl)<|ng<|nk<|pE ?_
 refine qY (α:=Nat) 0 (λk=>[(2, .int .u64 (qX (l.take k):Nat)),(7,VB (k:Nat)),(6,VB (n:Int)),(5, .slice p n c)]) (λk w'=>k<=n/\w=w') (λk=>n - k)
   VF ⟨aC _,rfl⟩ ?_
 rintro k f q ⟨r,rfl⟩;refine ny<|mZ (pI rfl rfl)<|nk<|nI<|oZ rfl (λj=>?_)<|λj=>?_
 ·
  refine lN ?_;have a:∃ x,l[k]?=some x:=⟨_,aG dB⟩;obtain⟨x,i⟩:=a;have a:=h.some dB;obtain⟨g,o,rfl,s⟩:=a;have t:=zmv l k dB;have hb:=x.toNat_lt;refine nO<|mZ (uX (e:=5) dA rfl rfl k dB dB)<|mZ (oK rfl (Ld.sl1 h dA (show(bv l)[k]?=some (.int .u8 (x.toNat:Int)) by rw[ES,i];rfl)))<|nA<|nk<|nO<|ng<|mZ (Qw rfl rfl dB (show IntKind.u64.wrap (((qX (l.take k):Nat):Int)*2 ^ (min (8:Int).toNat IntKind.u64.bits))=((256*qX (l.take k):Nat):Int) by rw[show(2:Int) ^ (min (8:Int).toNat IntKind.u64.bits)=256 from rfl,wu64 dB];omega))<|ng<|mZ (rP (k:=.u64) dA dA rfl (wu64 dB))<|mZ (OT rfl rfl ((Yr 8 (qX (l.take k):Nat) dB dB dB dB).trans (show _=((qX (l.take (k+1)):Nat):Int) by rw[RF l k x i];omega)))<|nA<|oI<|pO<|nJ<|nO<|mZ (oJ rfl rfl (Coup.nV dB))<|ng<|oI<|oM ⟨k+1,dB,⟨rfl,by go_num,rfl,rfl,rfl⟩,dB,rfl⟩
 ·
  refine qL<|qK<|rq<|qO<|nJ<|ny<|ng<|nA<|nk<|nY<|ou [_] ⟨rfl,trivial⟩<|⟨?_,rfl⟩
  rw[aQ dB]
  rfl
theorem Sm(x:Int):∃ b:UInt8,IntKind.u8.wrap x=(b.toNat:Int):=by
 have a:0<=IntKind.u8.wrap x/\IntKind.u8.wrap x<256:=by rw[IntKind.wrap_u8];omega
 refine⟨UInt8.ofNat (IntKind.u8.wrap x).toNat,?_⟩;rw[eU];omega
theorem zkC(n:Int):∃ l4:List UInt8,l4.length=4/\(0<=n->l4=oH 4 n.toNat)/\[Value.int .u8 (IntKind.u8.wrap (n.fdiv (2 ^ (min (24:Int).toNat IntKind.i64.bits)))), .int .u8 (IntKind.u8.wrap (n.fdiv (2 ^ (min (16:Int).toNat IntKind.i64.bits)))), .int .u8 (IntKind.u8.wrap (n.fdiv (2 ^ (min (8:Int).toNat IntKind.i64.bits)))), .int .u8 (IntKind.u8.wrap n)]=bv l4:=by
 show ∃ l4:List UInt8,l4.length=4/\(0<=n->l4=oH 4 n.toNat)/\[Value.int .u8 (IntKind.u8.wrap (n.fdiv (2 ^ 24))), .int .u8 (IntKind.u8.wrap (n.fdiv (2 ^ 16))), .int .u8 (IntKind.u8.wrap (n.fdiv (2 ^ 8))), .int .u8 (IntKind.u8.wrap n)]=bv l4
 by_cases e:0<=n
 .obtain⟨k,rfl⟩:∃ k:Nat,n=k:=⟨n.toNat,dB⟩
  exact⟨oH 4 k,rT _ _,λ_=>by rw[aW],SS k⟩
 .obtain⟨a,f⟩:=Sm (n.fdiv (2 ^ 24))
  obtain⟨b,hb⟩:=Sm (n.fdiv (2 ^ 16));obtain⟨c,g⟩:=Sm (n.fdiv (2 ^ 8));obtain⟨d,h⟩:=Sm n;exact⟨[a,b,c,d],rfl,λi=>absurd i e,by rw[f,hb,g,h];rfl⟩
def xO(n:Int):Bool:=decide (0<=n/\n<2147483648)
theorem Po(c:Ch)(hc:c.page.length=512)(gb base m:Nat)(u:Value)(xs:List UInt8)(w:World)(hr:row w gb [u] 23)(hu:og w base 5 1 u m (bv xs))(hgb:gb<base)(hbw:base<=w.heap.size)(hm:m<=1000000):
   CQ 214 [.agg (rV c).toArray,VA gb] w (λv w'=>v= .bool (xO c.num)/\∃ u' l4,l4.length=4/\(0<=c.num->l4=oH 4 c.num.toNat)/\row w' gb [u'] 23/\og w' base 5 1 u' (m+516) (bv (xs++(l4++c.page)))/\Kp (gb::u.ownBlock.toList) w w'):=by
 have c8:maxLen=9223372036854775807:=by decide
 have c9:=hr.lt;have d0:=BG hc;obtain⟨l4,p,I,a1⟩:=zkC c.num;have a2:=λb e=>(hu.lt b e).2
 refine nZ (rs:=[.tmp 3]) (n:=30) Tryz.func214 rfl rfl Tryz.ntmps214 dA rfl<|ny<|nK<|qi ((rV c)) rfl<|λq w2 d1 a r=>?_
 replace hr:=hr.new r;replace hu:=hu.new r;refine oG<|mZ (nG 0)<|mZ (nH a)<|nA<|nk<|nI<|qH (gb::u.ownBlock.toList) dA ?_
 intro d2 l K;replace hr:=hr.new l;replace hu:=hu.new l;replace a:=a.new l;refine nu 1 (nS)<|nu 2 (xm rfl rfl dB rfl)<|nu 3 (rP (k:=.u8) dA dA rfl rfl)<|nu 4 (nS)<|nu 5 (xm rfl rfl dB rfl)<|nu 6 (rP (k:=.u8) dA dA rfl rfl)<|nu 7 (nS)<|nu 8 (xm rfl rfl dB rfl)<|nu 9 (rP (k:=.u8) dA dA rfl rfl)<|nu 10 (nS)<|nu 11 (rP (k:=.u8) dA dA rfl rfl)<|nu 14 (nG 1)<|nu 15 (yw (e:=5) (n:=512) (0) (512) (512) (512) dA rfl rfl rfl rfl ig dB dB dB dB dB)<|zw 0 12 dA ?_ ?_
 ·
  refine Bi rfl rfl (nH hr) K<|oh 12 dA ?_
  have b3:=hr.lt;refine rf rfl rfl<|Jp (e:=5) [(0, .int .u8 (IntKind.u8.wrap (c.num.fdiv (2 ^ (min (24:Int).toNat IntKind.i64.bits))))),(1, .int .u8 (IntKind.u8.wrap (c.num.fdiv (2 ^ (min (16:Int).toNat IntKind.i64.bits))))),(2, .int .u8 (IntKind.u8.wrap (c.num.fdiv (2 ^ (min (8:Int).toNat IntKind.i64.bits))))),(3, .int .u8 (IntKind.u8.wrap c.num))] [.int .u8 0] 1 dA dA rfl dB dB kT kY<|λM N b4 o h=>?_
  have O:=K.add0 h;refine⟨O,?_⟩;replace hr:=hr.new h;replace hu:=hu.new h;replace a:=a.new h;replace o:row N M (bv l4) 5:=by rw[<-a1];exact o
  refine oh 13 dA ?_;have P:=o.tY (m:=4) (sz:=1) (by rw[oL,p]) dB;have s:=λb e=>(hu.lt b e).1
  have b5:=r.size;have b6:=l.size;have b7:=O.size;have b8:=a;refine rf rfl rfl<|tu (e:=5) (sz:=1) (bytes:=1) (z:=Value.int .u8 0) dA rfl dA rfl iT rfl hu rfl P (uf _) jB dB (λQ=>dB)<|λb9 R j t y=>?_
  have a3:=O.Gp hu t kP;refine⟨a3,?_⟩;have A:=Kp.rU t;replace a:=a.nD A (λhm=>by have:=a2 q (ah.1 hm);have:=s q (ah.1 hm);omega);replace hr:=hr.nD A (λhm=>by have:=s gb (ah.1 hm);omega);refine oh 16 dA ?_;have S:nM R (some ⟨q,0+1,none⟩) 512 1 (bv c.page):=by have B:=a.sl (m:=512) (sz:=1) (0+1) dB dB;rw[show(rV c).drop (0+1)=bv c.page from rfl,aQ (by rw[oL,hc];omega)]at B;exact B
  have T:=λb e=>(j.lt b e).1
  have c4:=λb e=>(j.lt b e).2
  refine rf rfl rfl<|tu (e:=5) (sz:=1) (bytes:=1) (z:=Value.int .u8 0) dA rfl dA rfl iT rfl j rfl S (uf _) jB dB (λQ=>dB)<|λc5 c6 C D c7=>?_
  have a4:=a3.add (Kp.rU D) (λg hm=>by first |exact Or.inr hm|exact Or.inr (aj _ hm)|(have:=(j.lt g (ah.1 hm)).1;left;omega)|exact(y g (ah.1 hm)).elim (λe=>Or.inr (ah.2 e)) (λe=>Or.inl dB)|exact(y g (ah.1 hm)).elim (λe=>Or.inr (aj _ (ah.2 e))) (λe=>Or.inl dB));refine⟨a4,?_⟩;have U:=Kp.rU D;have V:=C.form;obtain⟨X,Y,rfl⟩:=V;replace hr:=hr.nD U (λhm=>by have:=T gb (ah.1 hm);omega);refine oh 17 dA<|rA rfl rfl<|pQ hr<|λa5 hr a6=>?_
  have a7:=a4.aq a6;refine⟨a7,?_⟩;have Z:=a7;have E:=C.only a6 dB;refine pq dA<|nJ<|ny<|ng<|mZ (tV rfl rfl)<|ng ?_
  have F:og a5 base 5 1 (.slice X (m+4+512) Y) (m+516) (bv (xs++(l4++c.page))):=by
    rw[<-wR,<-wR,aH]at E;rw[show m+516=m+4+512 by omega];exact E
  have G:Kp (gb::u.ownBlock.toList) w a5:=(Kp.BH r).trans ((Kp.BH l).trans Z);refine sZ 26 rfl (λH=>?_)<|λH=>?_
  ·
   refine nE<|ng<|nE<|mZ (pI rfl rfl)<|mZ (pK rfl)<|nA<|nk<|nY<|ou [_] ⟨rfl,trivial⟩<|⟨?_,_,l4,p,I,hr,F,G⟩
   show Value.bool (decide _)=_
   congr 1
   unfold xO
   by_cases a0:c.num<2147483648<;>simp[H,a0]
  ·
   refine nN<|nN<|mZ (oP rfl)<|nA<|nk<|nY<|ou [_] ⟨rfl,trivial⟩<|⟨?_,_,l4,p,I,hr,F,G⟩
   show Value.bool false=_
   congr 1
   unfold xO;rw[decide_eq_false dB]
 ·
  have b3:=hr.lt;refine rf rfl rfl<|Jp (e:=5) [(0, .int .u8 (IntKind.u8.wrap (c.num.fdiv (2 ^ (min (24:Int).toNat IntKind.i64.bits))))),(1, .int .u8 (IntKind.u8.wrap (c.num.fdiv (2 ^ (min (16:Int).toNat IntKind.i64.bits))))),(2, .int .u8 (IntKind.u8.wrap (c.num.fdiv (2 ^ (min (8:Int).toNat IntKind.i64.bits))))),(3, .int .u8 (IntKind.u8.wrap c.num))] [.int .u8 0] 1 dA dA rfl dB dB kT kY<|λM N b4 o h=>?_
  have J:=K.add0 h;refine⟨J,?_⟩;replace hr:=hr.new h;replace hu:=hu.new h;replace a:=a.new h;replace o:row N M (bv l4) 5:=by rw[<-a1];exact o
  refine oh 0 dA<|Bi rfl rfl (nH hr) J<|oh 13 dA ?_
  have P:=o.tY (m:=4) (sz:=1) (by rw[oL,p]) dB;have s:=λb e=>(hu.lt b e).1
  have b5:=r.size;have b6:=l.size;have b7:=J.size;have b8:=a;refine rf rfl rfl<|tu (e:=5) (sz:=1) (bytes:=1) (z:=Value.int .u8 0) dA rfl dA rfl iT rfl hu rfl P (uf _) jB dB (λQ=>dB)<|λb9 R j t y=>?_
  have a8:=J.Gp hu t kP;refine⟨a8,?_⟩;have A:=Kp.rU t;replace a:=a.nD A (λhm=>by have:=a2 q (ah.1 hm);have:=s q (ah.1 hm);omega);replace hr:=hr.nD A (λhm=>by have:=s gb (ah.1 hm);omega);refine oh 16 dA ?_;have S:nM R (some ⟨q,0+1,none⟩) 512 1 (bv c.page):=by have B:=a.sl (m:=512) (sz:=1) (0+1) dB dB;rw[show(rV c).drop (0+1)=bv c.page from rfl,aQ (by rw[oL,hc];omega)]at B;exact B
  have T:=λb e=>(j.lt b e).1
  have c4:=λb e=>(j.lt b e).2
  refine rf rfl rfl<|tu (e:=5) (sz:=1) (bytes:=1) (z:=Value.int .u8 0) dA rfl dA rfl iT rfl j rfl S (uf _) jB dB (λQ=>dB)<|λc5 c6 C D c7=>?_
  have a9:=a8.add (Kp.rU D) (λg hm=>by first |exact Or.inr hm|exact Or.inr (aj _ hm)|(have:=(j.lt g (ah.1 hm)).1;left;omega)|exact(y g (ah.1 hm)).elim (λe=>Or.inr (ah.2 e)) (λe=>Or.inl dB)|exact(y g (ah.1 hm)).elim (λe=>Or.inr (aj _ (ah.2 e))) (λe=>Or.inl dB));refine⟨a9,?_⟩;have U:=Kp.rU D;have V:=C.form;obtain⟨X,Y,rfl⟩:=V;replace hr:=hr.nD U (λhm=>by have:=T gb (ah.1 hm);omega);refine oh 17 dA<|rA rfl rfl<|pQ hr<|λb0 hr b1=>?_
  have b2:=a9.aq b1;refine⟨b2,?_⟩;have Z:=b2;have E:=C.only b1 dB;refine pq dA<|nJ<|ny<|ng<|mZ (tV rfl rfl)<|ng ?_
  have F:og b0 base 5 1 (.slice X (m+4+512) Y) (m+516) (bv (xs++(l4++c.page))):=by
    rw[<-wR,<-wR,aH]at E;rw[show m+516=m+4+512 by omega];exact E
  have G:Kp (gb::u.ownBlock.toList) w b0:=(Kp.BH r).trans ((Kp.BH l).trans Z);refine sZ 26 rfl (λH=>?_)<|λH=>?_
  ·
   refine nE<|ng<|nE<|mZ (pI rfl rfl)<|mZ (pK rfl)<|nA<|nk<|nY<|ou [_] ⟨rfl,trivial⟩<|⟨?_,_,l4,p,I,hr,F,G⟩
   show Value.bool (decide _)=_
   congr 1
   unfold xO
   by_cases a0:c.num<2147483648<;>simp[H,a0]
  ·
   refine nN<|nN<|mZ (oP rfl)<|nA<|nk<|nY<|ou [_] ⟨rfl,trivial⟩<|⟨?_,_,l4,p,I,hr,F,G⟩
   show Value.bool false=_
   congr 1
   unfold xO;rw[decide_eq_false dB]
theorem Nr (c : Ch) (hc : c.page.length = 512) (gb base m : Nat) (u : Value) (xs : List UInt8) (w : World) (hr : row w gb [u] 23) (hu : og w base 5 1 u m (bv xs)) (hgb : gb < base) (hbw : base <= w.heap.size) (hm : m <= 1000000) :
  CQ 214 [.agg (rV c).toArray, .pointer (some ⟨gb, 0, none⟩)] w (λv w' => v = .bool (xO c.num) /\ (∃ u' l4, l4.length = 4 /\ (0 <= c.num -> l4 = oH 4 c.num.toNat) /\ row w' gb [u'] 23 /\ og w' base 5 1 u' (m + 516) (bv (xs ++ (l4 ++ c.page)))) /\ Below gb w w') :=
 (Po c hc gb base m u xs w hr hu hgb hbw hm).to λv w' ⟨h1, u', l4, h2, h3, h4, h5, h6⟩ => ⟨h1, ⟨u', l4, h2, h3, h4, h5⟩, h6.os, h6.tape, h6.output, h6.size, λi hi => h6.block i (Nat.lt_trans hi hr.lt) λhm => by
  rcases List.mem_cons.1 hm with e | e
  .omega
  .have := (hu.lt i (Option.mem_toList.1 e)).1
   omega⟩
def yH(R:Rec):List UInt8:=R.flatMap λc=>oH 4 c.num.toNat++c.page
theorem zpq{R:Rec}(h:sI R):(yH R).length=516*R.length:=by
 induction R with
 |nil=>rfl
 |cons c R ih=>
  rw[yH,bP,aA,aA,rT,h c (aK ..),aD];have:=ih λx a=>h x (aj _ a)
  rw[yH]at this;omega
theorem zr1(R:Rec)(c:Ch):yH (R++[c])=yH R++(oH 4 c.num.toNat++c.page):=by rw[yH,bR];simp[yH]
def yM(R:Rec):Bool:=decide (1<=R.length/\R.length<=60) && R.all λc=>xO c.num
theorem Rc{n:Nat}(h:1<=n/\n<=60):vO n=(qN (516*n):Nat)/\0<qN (516*n):=by
 rw[vO,if_pos dB,aW,eF n 516];exact⟨rfl,by unfold qN qE;omega⟩
theorem Yq{n:Nat}(h:¬(1<=n/\n<=60)):vO n=0:=by rw[vO,if_neg dB]
theorem De(R:Rec)(hR:sI R)(p:Option Addr)(n cp:Nat)(w:World)(h:nM w p n 513 (qp R))(hn:R.length=n)(hn2:n<=1000000):
   CQ 155 [.slice p n cp] w (λv w'=>((yM R=true/\∃ g o c,v= .tuple #[.slice (some ⟨g,o,none⟩) (516*n) c,VB 0]/\w.heap.size<=g/\516*n<=c/\nM w' (some ⟨g,o,none⟩) (516*n) 1 (bv (yH R)))\/(yM R=false/\v= .tuple #[VC,VB 2]))/\VD w w'):=by
 have a:=Below.refl w.heap.size w;have a4:maxLen=9223372036854775807:=by decide
 refine nZ (rs:=[.tmp 2, .tmp 3]) (n:=25) Tryz.func155 rfl rfl Tryz.ntmps155 dA rfl<|ny<|nA<|nA<|nk<|nI<|ny<|ng<|mZ (oV (e:=164) (sz:=513) dA rfl rfl)<|nP (NQ (n:Int) w) ?_
 rintro _ _ ⟨rfl,rfl⟩;refine mZ (qB rfl rfl)<|nk<|oZ rfl (λC=>?_)<|λC=>?_
 ·
  refine ny<|nA<|nA<|nk<|nY<|qy<|ou [_,_] ⟨rfl,rfl,trivial⟩ ?_
  have s:¬(1<=n/\n<=60):=λl=>by have:=Rc l;omega
  exact⟨.inr ⟨by rw[yM,hn,decide_eq_false s];rfl,rfl⟩,a⟩
 ·
  have J:1<=n/\n<=60:=by
    by_cases l:1<=n/\n<=60
    · exact l
    · exact absurd (Yq l) C
  refine nU<|nJ<|ny<|nK<|oD ([VC]) dA<|λq a5 a6 i K=>?_
  replace a:=a.acc K;refine qx<|mZ (uV)<|nA<|nk<|nI<|ny<|ng<|mZ (oV (e:=164) (sz:=513) dA rfl rfl)<|ng<|nk<|pE ?_
  have a7:=i.lt;refine qY (α:=Nat) 0 (λk=>[(15,VB (k:Nat)),(14,VB (n:Int)),(13, .slice p n cp),(5, .func (.func 214) #[] #[VA q]),(4,VA q)])
    (λk w'=>k<=n/\(∃ u,row w' q [u] 23/\og w' (q+1) 5 1 u (516*k) (bv (yH (R.take k))))/\(∀ j c,j<k->R[j]?=some c->xO c.num=true)/\VD w w') (λk=>n - k)
    VF ⟨aC _,⟨_,i,xV _ _ _ _⟩,(by intro j c t;exact absurd t (gJ _)),a⟩ ?_
  clear i a;rintro k f a8 ⟨a9,⟨u,i,m⟩,D,a⟩;refine ny<|mZ (pI rfl rfl)<|nk<|nI<|oZ rfl (λL=>?_)<|λL=>?_
  ·
   refine lN ?_;have r:∃ c,R[k]?=some c:=⟨_,aG dB⟩;obtain⟨c,l⟩:=r;have E:=hR c (aO l);have b0:=BG E;have hp:=h.below a (ax _);have r:=h.some dB;obtain⟨b1,op,rfl,b2⟩:=r;have M:R.take (k+1)=R.take k++[c]:=by rw[bf,l];rfl
   have b3:=EC c;have N:=λb e=>(m.lt b e).2
   refine nO<|mZ (qZ (e:=164) (sz:=513) dA rfl rfl k dB dB)<|mZ (oK rfl (NP (h.below a (ax _)) hR l))<|nK<|oD (([VB 0])++(List.replicate 512 (Value.int .u8 0))) dA<|λF b4 G y z=>?_
   have O:=ag a.size G;have P:q<F:=ae i.lt G;replace i:=i.new z;replace m:=m.new z;replace a:=a.acc z;have Q:=m;refine nT<|oC 513 (rV c) y<|λS y A=>?_
   replace i:=i.only A (ai P);replace a:=A.below a O;have T:=Q.nD (Kp.rJ A) (λb hb e=>by have b5:=N b e;have b6:b=F:=kR;omega);refine qx<|ng<|mZ (pz 513 y) ?_
   have b7:=y.lt;have b8:=i.lt;refine qA rfl (uH dA rfl rfl) (Nr c E q (q+1) (516*k) u _ S i T dB dB dB) ?_;rintro _ b9 ⟨rfl,⟨c4,c5,c6,U,i,H⟩,V⟩;replace a:=Qg a V dB;refine mZ (sj rfl)<|nk<|Ki rfl (λs=>?_)<|λs=>?_
   ·
    refine ny<|nA<|nA<|nk<|nY<|sS<|qy<|zH<|sS<|qy<|ou [_,_] ⟨rfl,rfl,trivial⟩<|⟨.inr ⟨?_,rfl⟩,a⟩
    have X:xO c.num=false:=by cases hx:xO c.num with|false=>rfl|true=>simp[hx]at s
    have Y:R.all (λc=>xO c.num)=false:=by
      rw[iX];exact⟨c,aO l,by rw[X];simp⟩
    rw[yM,Y,eO]
   ·
    have I:xO c.num=true:=by cases hx:xO c.num with|true=>rfl|false=>simp[hx]at s
    have Z:0<=c.num:=(of_decide_eq_true I).1;rw[U Z,<-zr1,<-M,show 516*k+516=516*(k+1) by omega]at H;refine nU<|pO<|nJ<|nO<|mZ (oJ rfl rfl (Coup.nV dB))<|ng<|oI<|oM ⟨k+1,dB,⟨by go_num,rfl,rfl,rfl,rfl,rfl⟩,dB,⟨_,i,H⟩,λj d t B=>?_,a⟩
    by_cases a0:j<k
    · exact D j d a0 B
    · obtain rfl:j=k:=by omega
      rw[l]at B;cases B;exact I
  ·
   have a1:k=n:=by omega
   rw[a1,aQ dB]at m;have a2:yM R=true:=by
     rw[yM,hn,decide_eq_true J,fD,dC];intro c l;have r:=iQ l;obtain⟨j,t⟩:=r;exact D j c (by have:=(aL.1 t).1;omega) t
   have r:=m.form' dB;obtain⟨g,o,c,rfl,c7,c8,a3⟩:=r;have c9:=m.2;refine qL<|qK<|rq<|qO<|nJ<|ny<|mZ (nH i)<|nA<|nA<|nk<|nY<|ou [_,_] ⟨rfl,rfl,trivial⟩<|⟨.inl ⟨a2,g,o,c,rfl,dB,a3,m.sl⟩,a⟩
def zk(b:List UInt8)(i:Nat):Ch:=⟨(qX ((b.drop (516*i)).take 4):Nat),(b.drop (516*i+4)).take 512⟩
def Bf(b:List UInt8)(n:Nat):Rec:=(List.range n).map (zk b)
def zN(b:List UInt8):Bool:=decide (b.length % 516=0) && decide (1<=b.length / 516/\b.length / 516<=60) && (Bf b (b.length / 516)).all λc=>xO c.num
def zO(b:List UInt8):Option Rec:=if zN b then some (Bf b (b.length / 516))else none
theorem zuu(b:List UInt8)(n:Nat):Bf b (n+1)=Bf b n++[zk b n]:=by simp[Bf,fQ]
theorem Xl(b:List UInt8)(n:Nat):(Bf b n).length=n:=by simp[Bf]
theorem ME(b:List UInt8){n i:Nat}(h:i<n):(Bf b n)[i]?=some (zk b i):=by rw[Bf,aV,eH h];rfl
theorem ZJ{b:List UInt8}{i:Nat}(h:516*i+516<=b.length):(zk b i).page.length=512:=by
 show((b.drop (516*i+4)).take 512).length=512;rw[aI,aM];omega
theorem Vk {ρ : Env} {w : World} {d : Option Nat} {ty : TypeId} {pos : String} {af : Array Edge} {gd : Option (Nat × Bool)} {x y : Operand} {a : Int} {l : List UInt8} {L : List Value} (hl : l.length = 512) (hL : rV ⟨a, l⟩ = L) (hx : ev ρ x = .int .i64 a) (hy : ev ρ y = .agg (bv l).toArray) :
  (execOp (ev ρ) ⟨d, .build 164 #[(0, x), (1, y)], ty, pos, af, gd⟩).run Tryz.prog w = .ok (.value (.agg L.toArray)) w := by
 rw [<- hL]
 have h := VN (P := Tryz.prog) (t := 164) (ρ := ρ) (w := w) (d := d) (ty := ty) (pos := pos) (af := af) (gd := gd) (k := 513) (parts := [(0, x), (1, y)]) [(0, .int .i64 a), (1, .agg (bv l).toArray)] [(0, 1), (1, 512)] (by kernel_rfl) (by kernel_rfl) (by simp [hx, hy])
  (by
   intro i hi
   rcases i with _ | _ | i
   .simp [Value.cells]
   .simp [Value.cells, oL, hl]
   .exfalso; simp only [List.length_cons, List.length_nil] at hi; omega) (by simp [Value.cells, oL, hl])
 rw [h]
 simp [Value.cells, rV]
theorem XZ(b:List UInt8)(p:Option Addr)(n cp:Nat)(w:World)(h:nM w p n 1 (bv b))(hcp:n<=cp)(hn2:n<=1000000):
   CQ 233 [.slice p n cp] w (λv w'=>((∃ r g o c,zO b=some r/\v= .tuple #[.slice (some ⟨g,o,none⟩) r.length c,VB 0]/\w.heap.size<=g/\r.length<=c/\nM w' (some ⟨g,o,none⟩) r.length 513 (qp r))\/(zO b=none/\v= .tuple #[VC,VB 4]))/\VD w w'):=by
 have a:=Below.refl w.heap.size w;have b9:maxLen=9223372036854775807:=by decide
 have y:b.length=n:=by simpa [oL]using h.len
 refine nZ (rs:=[.tmp 2, .tmp 3]) (n:=51) Tryz.func233 rfl rfl Tryz.ntmps233 dA rfl<|ny<|nA<|nA<|nk<|nI<|ny<|ng<|mZ (oV (e:=5) (sz:=1) dA rfl rfl)<|mZ (Yk rfl rfl dB dB)<|mZ (pJ rfl rfl)<|ng<|sZ 11 rfl (λZ=>?_)<|λZ=>?_
 ·
  refine nN<|nN<|nN<|nN<|nN<|mZ (pK rfl)<|nk<|vD rfl (rfl)<|ny<|nA<|nA<|nk<|nY<|qy<|ou [_,_] ⟨rfl,rfl,trivial⟩ ?_
  exact⟨.inr ⟨by rw[zO,zN,y,decide_eq_false dB];rfl,rfl⟩,a⟩
 ·
  refine nE<|ng<|nE<|mZ (oV (e:=5) (sz:=1) dA rfl rfl)<|nE<|mZ (NN rfl rfl dB dB)<|nE<|nP (NQ ((n:Int) / 516) w) ?_
  rintro _ _ ⟨rfl,rfl⟩;refine nE<|mZ (qB rfl rfl)<|mZ (oP rfl)<|nk<|oZ rfl (λA=>?_)<|λA=>?_
  ·
   refine ny<|nA<|nA<|nk<|nY<|qy<|ou [_,_] ⟨rfl,rfl,trivial⟩ ?_
   have B:¬(1<=n / 516/\n / 516<=60):=λl=>by have:=Rc l;rw[show((n / 516:Nat):Int)=(n:Int) / 516 by omega]at this;omega
   exact⟨.inr ⟨by rw[zO,zN,y,decide_eq_false B];simp,rfl⟩,a⟩
  ·
   have J:1<=n / 516/\n / 516<=60:=by
     by_cases l:1<=n / 516/\n / 516<=60
     · exact l
     · have:=Yq l
       rw[show((n / 516:Nat):Int)=(n:Int) / 516 by omega]at this;exact absurd this A
   have a0:∃ m,n=516*m:=⟨n / 516,dB⟩;obtain⟨m,c4⟩:=a0;have K:n / 516=m:=by omega
   rw[K]at J;refine nU<|nJ<|ny<|nA<|nk<|nI<|ny<|nA<|oI<|nJ<|pE ?_
   refine qY (α:=Nat × Value) (0,VC) (λk=>[(5,VB ((516*k.1:Nat):Int)),(4,k.2),(0, .slice p n cp)])
     (λk w'=>k.1<=m/\og w' w.heap.size 164 513 k.2 k.1 (qp (Bf b k.1))/\(∀ j,j<k.1->xO (zk b j).num=true)/\VD w w') (λk=>m - k.1)
     VF ⟨aC _,xV _ _ _ _,(by intro j s;exact absurd s (gJ _)),a⟩ ?_
   clear a;rintro⟨k,u⟩ f L ⟨a1,q,D,a⟩;dsimp only at a1 q D |-;refine nI<|ny<|ng<|ng<|mZ (oV (e:=5) (sz:=1) dA rfl rfl)<|mZ (pI rfl rfl)<|nk<|oZ rfl (λa2=>?_)<|λa2=>?_
   ·
    refine lN ?_;have a3:=h.below a (ax _);have E:=h.some dB;obtain⟨M,op,rfl,c5⟩:=E;have a4:=a3.Fa (516*k) 4 dB;have a5:=ZJ (b:=b) (i:=k) dB;obtain⟨x,r⟩:=aa (qX ((b.drop (516*k)).take 4));have c6:x<4294967296:=by rw[<-r];exact Ck _ 4 jY
    have N:=λc=>XL (some ⟨M,op+516*k,none⟩) 4 c _ L a4 dB
    simp only[r]at N;refine nO<|ng<|ng<|ng<|mZ (oJ rfl rfl (Coup.nV dB))<|ng<|mZ (oJ rfl rfl (Coup.nV dB))<|mZ (JW (e:=5) (516*k) (516*k+4) (516*k+4) (4) dA rfl ⟨_,_,rfl,dB⟩ ⟨_,_,rfl,dB⟩ ⟨_,_,rfl,dB⟩ ig dB dB dB dB dB)<|nP (N _) ?_
    rintro _ _ ⟨rfl,rfl⟩;refine nA<|nk<|nI<|ny<|ng<|mZ (tV rfl rfl)<|nk<|oZ rfl (λa6=>?_)<|λa6=>?_
    ·
     refine ny<|nA<|nA<|nk<|nY<|qy<|sS<|qy<|zH<|sS<|qy<|ou [_,_] ⟨rfl,rfl,trivial⟩ ?_
     have B:¬(xO (zk b k).num=true):=λl=>by
       have A:=(of_decide_eq_true l).2;have O:(zk b k).num=(x:Int):=by rw[<-r];rfl
       omega
     have F:zO b=none:=by
       have G:(Bf b (b.length / 516)).all (λc=>xO c.num)=false:=by
         rw[iX];exact⟨zk b k,aO (ME b (n:=b.length / 516) (i:=k) dB),B⟩
       rw[zO,zN,G,eO];rfl
     exact⟨.inr ⟨F,rfl⟩,a⟩
    ·
     have Q:xO (zk b k).num=true:=by
       have O:(zk b k).num=(x:Int):=by rw[<-r];rfl
       rw[xO,O];exact decide_eq_true dB
     have a7:((bv b).drop (516*k+4)).take 512=bv (zk b k).page:=by rw[<-AA,<-EE];rfl
     have H:(zk b k).page.length=512:=a5;have R:rV ⟨(x:Int),(zk b k).page⟩=rV (zk b k):=by rw[<-r];rfl
     have S:Ld Tryz.prog L 121 ⟨M,op+(516*k+4),none⟩ (.agg (bv (zk b k).page).toArray):=by
       have T:=Ld.zu (P:=Tryz.prog) (t:=121) (j:=516*k+4) (k:=512) (h.below a (ax _)) dA dA (by rw[oL];omega);rw[a7]at T;exact T
     have U:=zuu b k;obtain⟨C,V⟩:=aa (zk b k);rw[V]at U S H R Q;have a8:=BG H;have a9:=EC C;refine nU<|nJ<|nO<|ng<|ng<|mZ (rP (k:=.i64) dA dA rfl (show IntKind.i64.wrap (x:Int)=(x:Int) by rw[nV dB]))<|ng<|ng<|mZ (oJ rfl rfl (Coup.nV dB))<|ng<|mZ (oJ rfl rfl (Coup.nV dB))<|ng<|mZ (oJ rfl rfl (Coup.nV dB))<|mZ (JW (e:=5) (516*k+4) (516*k+516) (516*k+516) (512) dA rfl ⟨_,_,rfl,dB⟩ ⟨_,_,rfl,dB⟩ ⟨_,_,rfl,dB⟩ ig dB dB dB dB dB)<|mZ (zkq (n:=512) (e:=5) (sz:=1) dA rfl dB)<|mZ (oK rfl (S))<|mZ (Vk H R rfl rfl)<|nK<|tT (e:=164) (.agg (rV C).toArray) (rV C) (([VB 0])++(List.replicate 512 (Value.int .u8 0))) 513 dA dA rfl rfl iw ⟨iT,iT⟩<|λc7 c8 b0 b1 X=>?_
     have c9:=ag a.size b0;replace q:=q.new X;replace a:=a.acc X;have b2:=b1.tY (m:=1) (sz:=513) a8 dB;have d0:=a.size;refine nK<|tu (e:=164) (sz:=513) (bytes:=520) (z:=.agg (([VB 0])++(List.replicate 512 (Value.int .u8 0))).toArray) dA rfl dA rfl iT rfl q rfl b2 a9 jB dB (λd1=>dB)<|λb3 d2 Y b4 d3=>?_
     replace a:=a.own q b4 dB;refine nA<|oI<|pO<|nJ<|nO<|ng<|mZ (oJ rfl rfl (Coup.nV dB))<|nA<|oI ?_
     rw[<-Uk,<-U]at Y;refine oM ⟨(k+1,b3),dB,⟨by go_num,rfl,rfl,rfl⟩,dB,Y,λj s=>?_,a⟩
     by_cases b5:j<k
     · exact D j b5
     · obtain rfl:j=k:=by omega
       rw[V];exact Q
   ·
    have b6:k=m:=by omega
    subst b6;have F:zO b=some (Bf b k):=by
      have G:(Bf b k).all (λc=>xO c.num)=true:=by
        rw[dC];intro c l;obtain⟨j,s,rfl⟩:=bg.1 l;exact D j<|bZ.1 s
      rw[zO,zN,y,K,G,decide_eq_true (by omega:n % 516=0),decide_eq_true J];rfl
    have I:=Xl b k;have E:=q.form' dB;obtain⟨g,o,c,rfl,b7,d4,b8⟩:=E;refine qL<|qK<|rq<|qO<|nJ<|ny<|ng<|nA<|nA<|nk<|nY<|ou [_,_] ⟨rfl,rfl,trivial⟩ ?_
    exact⟨.inl ⟨_,g,o,c,F,by rw[I];rfl,b7,by rw[I];exact b8,by rw[I];exact q.sl⟩,a⟩
end Go.Proofs.YtpaniebomegnbaaGreat
namespace Coup
open Go Go.RowKit
section
variable {P:Program}{ρ:Env}{w:World}{d:Option Nat}{ty:TypeId}{pos:String}{af:Array Edge}{gd:Option (Nat × Bool)}{K:Value->World->Prop}
theorem zuv {dT sT e:Nat} {x y:Operand} {dLen dCap:Nat} (cs:List UInt8) (hu:P.underlying dT=some (.slice e)) (hsz:vS P e 1=true) (g off:Nat) (hd:ev ρ x= .slice (some ⟨g,off,none⟩) dLen dCap) (hs:ev ρ y=strOf cs)
  {l:List Value} {t:Nat} (hr:row w g l t) (hle:cs.length<=dLen) (hfit:off+cs.length<=l.length)
  (h:∀ w',row w' g (splice l off (bv cs)) t->Only g w w'->K (goInt cs.length) w'):Mk P ρ w ⟨d, .call ⟨.builtin .copy,#[x,y],#[dT,sT]⟩,ty,pos,af,gd⟩ K:=by
 have a:ByteArray.size ⟨cs.toArray⟩=cs.length:=by simp[ByteArray.size]
 have c:=Go.Lib.run_copy_row_string (P:=P) w dT sT ty e g off dLen dCap ⟨cs.toArray⟩ l.toArray t hu (RD hsz) hr (by rw[a];exact hle) (by rw[a];simpa using hfit);rw[a]at c;have f:(l.toArray.toList.take off++Go.Lib.byteCells (ByteArray.data ⟨cs.toArray⟩).toList++l.toArray.toList.drop (off+cs.length))=splice l off (bv cs):=by
  rw[splice,oL,aH];simp[Go.Lib.byteCells,bv,vE]
 rw[f]at c;refine⟨_,_,?_,h _ (by simpa [row]using setRow_heap w g _ _ t _ hr) (Only.setRow _)⟩;simp only[strOf]at hs;simp[execOp,resolve,invoke,builtin,hd,hs,c,Result.andThen]
end
end Coup
namespace Go.Proofs.YtpaniebomegnbaaGreat
open Go Go.RowKit Coup
def rE:List UInt8:=[67,80,76,71]
def uG(c s:Nat):List UInt8:=rE++(oH 8 c++(oH 8 s++pX 108))
theorem zmH(c s:Nat):(uG c s).length=128:=by simp[uG,rE,rT,pX]
def hdF(c s i j:Nat):UInt8:=if j<4 then rE.getD j 0 else if j<12 then(if j - 4<i then(oH 8 c).getD (j - 4) 0 else 0)else if j<20 then(if j - 12<i then(oH 8 s).getD (j - 12) 0 else 0)else 0
def Bw(c s i:Nat):List UInt8:=(List.range 128).map (hdF c s i)
theorem XJ(c s i j:Nat):(Bw c s i)[j]?=if j<128 then some (hdF c s i j)else none:=by
 rw[Bw,aV]
 by_cases a:j<128
 .rw[eH a,if_pos a];rfl
 .rw[bK (by rw[gH];omega),if_neg a];rfl
theorem RU(c s i:Nat):(Bw c s i).length=128:=by simp[Bw]
theorem zr2{x j:Nat}(h:j<8):(oH 8 x)[j]?=some ((oH 8 x).getD j 0):=by
 rw[bI,aG (by rw[rT];exact h)];rfl
theorem Ym(c s:Nat):Bw c s 8=uG c s:=by
 refine dI λj=>?_
 rw[XJ];unfold uG hdF
 by_cases a:j<4
 .rw[if_pos dB,if_pos a,bF (by simpa [rE]using a)]
  match j,a with
  |0,_=>rfl
  |1,_=>rfl
  |2,_=>rfl
  |3,_=>rfl
 .rw[bB (by simp[rE];omega),show rE.length=4 from rfl,if_neg a]
  by_cases c:j<12
  .rw[if_pos dB,if_pos c,if_pos dB,bF kX,zr2 dB]
  .rw[if_neg c,bB kX,rT,show j - 4 - 8=j - 12 by omega]
   by_cases e:j<20
   .rw[if_pos dB,if_pos e,if_pos dB,bF kX,zr2 dB]
   .rw[if_neg e,bB kX,rT]
    by_cases f:j<128
    .rw[if_pos f,pX,iR,if_pos dB]
    .rw[if_neg f,pX,iR,if_neg dB]
theorem zr4(c s:Nat):splice (List.replicate 128 (Value.int .u8 0)) 0 (bv rE)=bv (Bw c s 0):=by
 have e:splice (List.replicate 128 (Value.int .u8 0)) 0 (bv rE)=bv (rE++pX 124):=by
  simp only[splice,dz,aU,aZ,oL,wR,PT];rw[show rE.length=4 from rfl,iW];rfl
 rw[e]
 congr 1
theorem zuw(c s i:Nat)(h:i<8):((Bw c s i).set (4+i) ((oH 8 c).getD i 0)).set (12+i) ((oH 8 s).getD i 0)=Bw c s (i+1):=by
 refine dI λj=>?_
 rw[ek,bA,RU,ek,RU,XJ,XJ];unfold hdF
 by_cases h:12+i=j
 .subst h
  rw[if_pos rfl,if_pos dB,if_pos dB,if_neg dB,if_neg dB,if_pos dB,if_pos dB,gF]
 .rw[if_neg h]
  by_cases k:4+i=j
  .subst k
   rw[if_pos rfl,if_pos dB,if_pos dB,if_neg dB,if_pos dB,if_pos dB,gF]
  .rw[if_neg k]
   by_cases c:j<128
   .rw[if_pos c,if_pos c]
    congr 1
    by_cases e:j<4
    .rw[if_pos e,if_pos e]
    .rw[if_neg e,if_neg e]
     by_cases f:j<12
     .rw[if_pos f,if_pos f]
      by_cases a:j - 4<i
      .rw[if_pos a,if_pos dB]
      .rw[if_neg a,if_neg dB]
     .rw[if_neg f,if_neg f]
      by_cases g:j<20
      .rw[if_pos g,if_pos g]
       by_cases a:j - 12<i
       .rw[if_pos a,if_pos dB]
       .rw[if_neg a,if_neg dB]
      .rw[if_neg g,if_neg g]
   .rw[if_neg c,if_neg c]
theorem Zq{x i:Nat}(h:i<8)(s:Int)(hs:s=((56 - 8*i:Nat):Int)):IntKind.u8.wrap ((x:Int) / 2 ^ (56 - 8*i))=(((oH 8 x).getD i 0).toNat:Int):=by
 have a:=YT x (8 - 1 - i);rw[bI,Zz 8 x i h];rw[show 56 - 8*i=8*(8 - 1 - i) by omega,IntKind.wrap_u8]
 injection a
theorem Dx(l:List UInt8)(i:Nat)(b:UInt8):(bv l).set i (.int .u8 (b.toNat:Int))=bv (l.set i b):=by simp[bv,fO,vE]
theorem zpr(c s:Nat)(w:World)(hc:c<18446744073709551616)(hs:s<18446744073709551616):
   CQ 229 [.agg #[.int .u64 c, .int .u64 s]] w (λv w'=>v= .agg (bv (uG c s)).toArray/\VD w w'):=by
 have a:=Below.refl w.heap.size w;refine nZ (rs:=[.cell 2 265]) (n:=31) Tryz.func229 rfl rfl Tryz.ntmps229 dA rfl<|ny<|nK<|qi ([.int .u64 c, .int .u64 s]) rfl<|λo w1 R h H=>?_
 replace a:=a.acc H;refine nK<|oD (List.replicate 128 (Value.int .u8 0)) dA<|λj w2 A g B=>?_
 have p:=ag a.size A;have q:o<j:=ae h.lt A;replace h:=h.new B;replace a:=a.acc B;refine qx<|mZ (yw (e:=5) (n:=128) (0) (128) (128) (128) dA rfl rfl rfl rfl ig dB dB dB dB dB)<|nK<|zuv (e:=5) rE dA dA j 0 rfl rfl g iT (by simp[rE])<|λS g C=>?_
 replace h:=h.only C (ai q);replace a:=C.below a p;rw[zr4 c s]at g;refine nk<|nI<|ny<|ng<|nk<|pE ?_
 refine qY (α:=Nat) 0 (λi=>[(6,VB (i:Nat)),(1,VA o),(2,VA j)])
   (λi w'=>i<=8/\row w' o [.int .u64 c, .int .u64 s] 229/\row w' j (bv (Bw c s i)) 265/\VD w w') (λi=>8 - i)
   VF ⟨aC _,h,g,a⟩ ?_
 clear h g a;rintro i f T ⟨U,h,g,a⟩;have V:o≠j:=by omega
 have r:(bv (Bw c s i)).length=128:=by rw[oL];exact RU _ _ _
 refine ny<|mZ (pI rfl rfl)<|nk<|nI<|oZ rfl (λI=>?_)<|λI=>?_
 ·
  refine nU<|nJ<|nI<|pE<|ny<|ng<|nA<|nk ?_
  obtain⟨L,l⟩:=aa (Bw c s i);have J:=Zq (x:=c) (i:=i) dB _ rfl;have K:=Zq (x:=s) (i:=i) dB _ rfl;have D:=zuw c s i dB;have X:L.length=128:=by rw[<-l];exact RU _ _ _
  rw[l]at g r D;refine qH [j] dA ?_;intro Y t M;replace h:=h.new t;replace g:=g.new t;replace a:=a.acc t;have E:=h;refine nu 0 (nS)<|nu 1 (oJ rfl rfl (Coup.nV dB))<|nu 2 (nS)<|nu 3 (oJ rfl rfl (Coup.nV dB))<|nu 4 (nG 0)<|nR 5 (λw' u=>nH (E.kq u))<|nu 6 (nS)<|nu 7 (yR rfl rfl (Coup.nV dB))<|nu 8 (vZ rfl rfl (Coup.nV dB))<|nu 9 (xm rfl rfl dB (KC (56 - 8*i) dB dB))<|nu 10 (rP (k:=.u8) dA dA rfl J)<|nu 11 (nG 1)<|nR 12 (λw' u=>nH (E.kq u))<|nu 13 (nS)<|nu 14 (yR rfl rfl (Coup.nV dB))<|nu 15 (vZ rfl rfl (Coup.nV dB))<|nu 16 (xm rfl rfl dB (KC (56 - 8*i) dB dB))<|nu 17 (rP (k:=.u8) dA dA rfl K)<|nu 18 (Bl (e:=5) (m:=128) dA rfl rfl (4+i) dB dB)<|oh 19 dA<|rA rfl rfl<|pQ g<|λZ g y=>?_
  have F:=M.aq y;refine⟨F,?_⟩;replace h:=h.only y (ai q);replace a:=y.below a p;refine nu 20 (Bl (e:=5) (m:=128) dA rfl rfl (12+i) dB dB)<|oh 21 dA<|rA rfl rfl<|pQ g<|λN g z=>?_
  have O:=F.aq z;refine⟨O,?_⟩;replace h:=h.only z (ai q);replace a:=z.below a p;refine pq dA<|pO<|nJ<|nO<|mZ (oJ rfl rfl (Coup.nV dB))<|ng<|oI ?_
  have G:row N j (((bv L).set (0+(4+i)) (.int .u8 (((oH 8 c).getD i 0).toNat:Int))).set (0+(12+i)) (.int .u8 (((oH 8 s).getD i 0).toNat:Int))) 265:=g;rw[aZ,aZ,Dx,Dx,D]at G;refine oM ⟨i+1,dB,⟨by go_num,rfl,rfl,rfl⟩,dB,h,G,a⟩
 ·
  have P:i=8:=by omega
  subst P;rw[Ym]at g;rw[Ym]at r;obtain⟨L,l⟩:=aa (uG c s);rw[l]at g r;rw[l];refine qL<|qK<|rq<|qO<|nJ<|ny<|mZ (pz 128 g)<|nT<|oC 128 (bv L) g<|λa0 g Q=>?_
  replace a:=Q.below a p;refine nk<|nY<|ou [_] ⟨⟨_,rfl,Ld.qI (k:=128) g dA dA gp⟩,trivial⟩ ?_
  exact⟨rfl,a⟩
def sK(s:List UInt8):Nat:=qX ((s.drop 4).take 8)
def ug(s:List UInt8):Nat:=qX ((s.drop 12).take 8)
def Ae(s:List UInt8):Bool:=decide (Av s sG=uG (sK s) (ug s)) && decide (1<=ug s) && decide (ug s<=sK s) && decide (sK s<=4611686018427387904)
theorem GJ(a b:List UInt8)(ha:a.length=128)(hb:b.length=128)(w:World):CQ 231 [.agg (bv a).toArray, .agg (bv b).toArray] w (λv w'=>v= .agg (bv (Av a b)).toArray/\VD w w'):=Ho (KY a b ha hb w)
theorem zux(s:List UInt8)(w:World)(hs:s.length=128):
   CQ 186 [.agg (bv s).toArray] w (λv w'=>v= .tuple #[.agg #[.int .u64 (sK s), .int .u64 (ug s)], .bool (Ae s)]/\VD w w'):=by
 have a:=Below.refl w.heap.size w;have b6:maxLen=9223372036854775807:=by decide
 have b7:(bv s).length=128:=by rw[oL];exact hs
 have O:sK s<18446744073709551616:=Ck _ 8 jY;have P:ug s<18446744073709551616:=Ck _ 8 jY;obtain⟨Z,Q,R,S⟩:=WW;refine nZ (rs:=[.cell 2 229, .tmp 3]) (n:=36) Tryz.func186 rfl rfl Tryz.ntmps186 dA rfl<|ny<|nK<|qi ((bv s)) rfl<|λU w1 b8 g V=>?_
 replace a:=a.acc V;refine nK<|oD ([Value.int .u64 0,Value.int .u64 0]) dA<|λX w2 Y c A=>?_
 have l:=ag a.size Y;replace g:=g.new A;replace a:=a.acc A;refine nA<|nk<|nI<|qH [] dA ?_
 intro b9 u a0;replace g:=g.new u;replace c:=c.new u;replace a:=a.acc u;have B:=g;refine nu 0 (yw (e:=5) (n:=128) (4) (12) (128) (8) dA rfl ⟨_,_,rfl,rfl⟩ ⟨_,_,rfl,rfl⟩ rfl ig dB dB dB dB dB)<|zh 1 dA rfl (λ_=>oz dA rfl) (λw' f=>XL _ 8 _ _ w' ((B.kq f).TI 4 8 dB dB) dB)<|nu 2 (yw (e:=5) (n:=128) (12) (20) (128) (8) dA rfl ⟨_,_,rfl,rfl⟩ ⟨_,_,rfl,rfl⟩ rfl ig dB dB dB dB dB)<|zh 3 dA rfl (λ_=>oz dA rfl) (λw' f=>XL _ 8 _ _ w' ((B.kq f).TI 12 8 dB dB) dB)<|nu 4 (SV (k0:=.u64) (k1:=.u64) dA dA rfl rfl)<|oh 5 dA<|rf rfl rfl<|oD ([Value.int .u64 0,Value.int .u64 0]) dA<|λC c4 y h m=>?_
 have D:=a0.add0 m;refine⟨D,?_⟩;have a1:=ag a.size y;have a2:U<C:=ae g.lt y;have a3:X<C:=ae c.lt y;replace g:=g.new m;replace c:=c.new m;replace a:=a.acc m;refine oh 6 dA<|rA rfl rfl<|oC 2 ([.int .u64 (sK s), .int .u64 (ug s)]) h<|λc5 h o=>?_
 have a4:=D.aq o;refine⟨a4,?_⟩;replace g:=g.only o (ai a2);replace c:=c.only o (ai a3);replace a:=o.below a a1;refine pq dA<|nJ<|nI<|qH [] dA ?_
 intro a5 p a6;replace g:=g.new p;replace c:=c.new p;replace h:=h.new p;replace a:=a.acc p;have a7:=g;have i:=h;refine nR 0 (λw' f=>pz 128 (a7.kq f))<|nu 1 (BF (bv Z) (by rw[<-R];kernel_rfl))<|nR 3 (λw' f=>pz 2 (i.kq f))<|oh 2 dA ?_
 have E:Z.length=128:=by rw[<-oL];exact S
 have F:=λw'=>GJ s Z hs E w'
 have G:=zim s Z hs E;have I:=λw'=>zpr (sK s) (ug s) w' O P
 have J:=zmH (sK s) (ug s);obtain⟨T,K⟩:=aa (Av s Z);obtain⟨H,L⟩:=aa (uG (sK s) (ug s));rw[K]at F G;rw[L]at I J;have q:Ae s=(decide (T=H) && decide (1<=ug s) && decide (ug s<=sK s) && decide (sK s<=4611686018427387904)):=by rw[Ae,Q,K,L]
 refine qw rfl rfl (oz dA rfl) (F a5) ?_;rintro _ a8 ⟨rfl,r⟩;have M:=a6.add0 r;refine⟨M,?_⟩;replace c:=c.new r;replace h:=h.new r;replace a:=a.acc r;refine oh 4 dA<|qw rfl rfl (oz dA rfl) (I a8) ?_
 rintro _ c6 ⟨rfl,t⟩;have a9:=M.add0 t;refine⟨a9,?_⟩;replace c:=c.new t;replace h:=h.new t;replace a:=a.acc t;refine nu 5 (UT (n:=128) dA rfl rfl G J)<|nu 6 (nS)<|EW 17 rfl (λz=>?_)<|λz=>?_
 ·
  refine nu 7 (nG 1)<|nR 8 (λw' f=>nH (i.kq f))<|nu 9 (tV rfl rfl)<|nu 10 (pK rfl)<|nu 11 (nS)<|EW 22 rfl (λb0=>?_)<|λb0=>?_
  ·
   refine nu 12 (nG 1)<|nR 13 (λw' f=>nH (i.kq f))<|nu 14 (nG 0)<|nR 15 (λw' f=>nH (i.kq f))<|nu 16 (EH rfl rfl)<|nu 17 (pK rfl)<|nu 18 (nS)<|EW 29 rfl (λb1=>?_)<|λb1=>?_
   ·
    refine nu 19 (nG 0)<|nR 20 (λw' f=>nH (i.kq f))<|nu 21 (EH rfl rfl)<|nu 22 (pK rfl)<|nu 23 (rO)<|pq dA<|nJ<|ny<|mZ (pz 2 h)<|ng<|nT<|oC 2 ([.int .u64 (sK s), .int .u64 (ug s)]) c<|λc7 c b2=>?_
    replace a:=b2.below a l;refine nA<|nk<|nY<|ou [_,_] ⟨⟨_,rfl,Ld.qI (k:=2) c dA dA gp⟩,rfl,trivial⟩<|⟨?_,a⟩
    rw[q];rw[decide_eq_true z,decide_eq_true (show 1<=ug s by omega),decide_eq_true (show ug s<=sK s by omega)];have e:decide ((sK s:Int)<=4611686018427387904)=decide (sK s<=4611686018427387904):=by
     by_cases N:sK s<=4611686018427387904
     .rw[decide_eq_true N,decide_eq_true dB]
     .rw[decide_eq_false N,decide_eq_false dB]
    rw[<-e]
    rfl
   ·
    have j:Ae s=false:=by rw[q,decide_eq_false (show¬ug s<=sK s by omega),eO,fo]
    refine oU 19 dA rfl<|oU 20 dA rfl<|oU 21 dA rfl<|nu 22 (oP rfl)<|nu 23 (rO)<|pq dA<|nJ<|ny<|mZ (pz 2 h)<|ng<|nT<|oC 2 ([.int .u64 (sK s), .int .u64 (ug s)]) c<|λc8 c b3=>?_
    replace a:=b3.below a l;refine nA<|nk<|nY<|ou [_,_] ⟨⟨_,rfl,Ld.qI (k:=2) c dA dA gp⟩,rfl,trivial⟩<|⟨?_,a⟩
    rw[j]
    rfl
  ·
   have j:Ae s=false:=by rw[q,decide_eq_false (show¬1<=ug s by omega),eO,fo,fo]
   refine oU 12 dA rfl<|oU 13 dA rfl<|oU 14 dA rfl<|oU 15 dA rfl<|oU 16 dA rfl<|nu 17 (oP rfl)<|nu 18 (nS)<|oU 19 dA rfl<|oU 20 dA rfl<|oU 21 dA rfl<|nu 22 (oP rfl)<|nu 23 (rO)<|pq dA<|nJ<|ny<|mZ (pz 2 h)<|ng<|nT<|oC 2 ([.int .u64 (sK s), .int .u64 (ug s)]) c<|λc9 c b4=>?_
   replace a:=b4.below a l;refine nA<|nk<|nY<|ou [_,_] ⟨⟨_,rfl,Ld.qI (k:=2) c dA dA gp⟩,rfl,trivial⟩<|⟨?_,a⟩
   rw[j]
   rfl
 ·
  have j:Ae s=false:=by rw[q,decide_eq_false z,fo,fo,fo]
  refine oU 7 dA rfl<|oU 8 dA rfl<|oU 9 dA rfl<|nu 10 (oP rfl)<|nu 11 (nS)<|oU 12 dA rfl<|oU 13 dA rfl<|oU 14 dA rfl<|oU 15 dA rfl<|oU 16 dA rfl<|nu 17 (oP rfl)<|nu 18 (nS)<|oU 19 dA rfl<|oU 20 dA rfl<|oU 21 dA rfl<|nu 22 (oP rfl)<|nu 23 (rO)<|pq dA<|nJ<|ny<|mZ (pz 2 h)<|ng<|nT<|oC 2 ([.int .u64 (sK s), .int .u64 (ug s)]) c<|λd0 c b5=>?_
  replace a:=b5.below a l;refine nA<|nk<|nY<|ou [_,_] ⟨⟨_,rfl,Ld.qI (k:=2) c dA dA gp⟩,rfl,trivial⟩<|⟨?_,a⟩
  rw[j]
  rfl
def BO(i:Int):Prop:=-9223372036854775808<=i/\i<=9223372036854775807
def Aw(all:Nat)(n:Int):Bool:=decide (4<=n/\n<=4000/\1+n<=all)
section
variable {Y:VE}{g lo:Nat}{L:List Nat}{D:Dk}{w:World}
theorem IR(h:Two (DZ g D) Y lo L w)(n:Int)(hn:BO n):CQ 183 [VA g,VB n] w (λv w'=>v=VB (if Aw D.V.length n then 0 else 2)/\w=w'):=by
 have c:=VT h;have hp:=(zz h).2;have i:=(zz h).1.n;have j:=hn.1;have k:=hn.2;refine nZ (rs:=[.tmp 4]) (n:=23) Tryz.func183 rfl rfl Tryz.ntmps183 dA rfl<|ny<|nA<|nk<|nI<|pE<|ny<|ng<|nP (c) ?_
 rintro _ _ ⟨rfl,rfl⟩;refine mZ (qB rfl rfl)<|nA<|nk<|qg rfl (dB)<|ny<|ng<|mZ (pI rfl rfl)<|ng<|sZ 12 rfl (λe=>?_)<|λe=>?_
 ·
  refine nN<|nN<|mZ (pK rfl)<|ng<|nN<|nN<|nN<|nN<|nN<|mZ (pK rfl)<|nA<|oI<|nJ<|vD rfl (rfl)<|ny<|nA<|nk<|nY<|sS<|qy<|ou [_] ⟨rfl,trivial⟩ ?_
  have a:Aw D.V.length n=false:=decide_eq_false dB;exact⟨by rw[a];rfl,rfl⟩
 ·
  refine nE<|ng<|nE<|mZ (rz rfl rfl)<|mZ (oP rfl)<|ng<|sZ 16 rfl (λf=>?_)<|λf=>?_
  ·
   refine nN<|nN<|nN<|nN<|nN<|mZ (pK rfl)<|nA<|nk<|vD rfl (rfl)<|ny<|nA<|nk<|nY<|sS<|qy<|ou [_] ⟨rfl,trivial⟩ ?_
   have a:Aw D.V.length n=false:=decide_eq_false dB;exact⟨by rw[a];rfl,rfl⟩
  ·
   refine nE<|ng<|nE<|nP c ?_
   rintro _ _ ⟨rfl,rfl⟩;refine nE<|ng<|nE<|mZ (oJ rfl rfl (Coup.nV dB))<|nE<|mZ (pI rfl rfl)<|mZ (oP rfl)<|nA<|nk<|oZ rfl (λg=>?_)<|λg=>?_
   ·
    refine lW ?_;have a:Aw D.V.length n=false:=decide_eq_false dB;exact⟨by rw[a];rfl,rfl⟩
   ·
    refine lX ?_;have a:Aw D.V.length n=true:=decide_eq_true dB;exact⟨by rw[a];rfl,rfl⟩
end
section
variable {Y:VE}[nz Y]{g lo:Nat}{L:List Nat}{D:Dk}{w:World}
def uz(D:Dk)(c s:Nat):Dk:=if qM D then sP (uC D 0 (uG c s))else uC D 0 (uG c s)
theorem Ej(h:Two (DZ g D) Y lo L w)(c s:Nat)(hc:c<18446744073709551616)(hs:s<18446744073709551616)(hsh:tJ D 90000):
   CQ 184 [VA g, .agg #[.int .u64 c, .int .u64 s]] w (λv w'=>v=VB (if qM D && qM (uC D 0 (uG c s))then 0 else 10)/\Two (DZ g (uz D c s)) Y lo L w'/\nC lo L w w'):=by
 have a:=h;have e:=nC.refl lo L w;have q:xC D 0=true:=decide_eq_true ⟨dB,by have:=(zz h).2;omega⟩;have i:=λw'=>zpr c s w' hc hs
 have j:=zmH c s;obtain⟨H,k⟩:=aa (uG c s);rw[uz,k];rw[k]at i j;refine nZ (rs:=[.tmp 4]) (n:=15) Tryz.func184 rfl rfl Tryz.ntmps184 dA rfl<|ny<|nK<|qi ([.int .u64 c, .int .u64 s]) rfl<|λz r t l m=>?_
 replace a:=a.nL m t l.lt;replace e:=e.new m;refine nA<|nk<|nI<|ny<|ng<|mZ (pz 2 l)<|nP (i r) ?_
 rintro _ A ⟨rfl,o⟩;replace a:=a.new o;replace e:=e.new o;have p:=TQ a 0 H j hsh;rw[Kz,q,if_pos rfl]at p;refine nP (p) ?_;rintro _ B ⟨rfl,a,u⟩;replace e:=e.lq u;refine oG<|ng<|mZ (pJ rfl rfl)<|nk<|oZ rfl (λg=>?_)<|λg=>?_
 ·
  refine mg ?_;have f:qM D=false:=by cases hx:qM D with|false=>rfl|true=>simp[hx]at g
  refine⟨by rw[f];rfl,?_,e⟩;rw[f];exact a.weak<|λb hb=>aj _ hb
 ·
  have f:qM D=true:=by cases hx:qM D with|true=>rfl|false=>simp[hx]at g
  rw[f,if_pos rfl,fD];refine nU<|nJ<|ny<|ng<|nP (Ui a) ?_
  rintro _ C ⟨rfl,a,y⟩;replace e:=e.lq y;refine lZ ?_;exact⟨rfl,a.weak (λb hb=>aj _ hb),e⟩
def Bz(D:Dk)(m:Nat):Dk:=(List.range m).foldl (fun(D:Dk) (i:Nat)=>uC D (i:Int) sG) D
theorem Xv(D:Dk)(m:Nat):Bz D (m+1)=uC (Bz D m) (m:Int) sG:=by simp[Bz,fQ]
theorem Ut{D:Dk}{k:Nat}(h:tL D k):∀ m,tL (Bz D m) (m+k)/\(Bz D m).V.length=D.V.length
 |0=>⟨by rw[aZ];exact h,rfl⟩
 |m+1=>by
  obtain⟨a,c⟩:=Ut h m;rw[Xv];obtain⟨e,f,_⟩:=a.uC (m:Int) sG;exact⟨e.weak dB,f.trans c⟩
def yT(D:Dk)(n:Nat):Dk:=sP (uC (sP (Bz D (1+n))) 0 (uG 1 1))
theorem zuy(h:Two (DZ g D) Y lo L w)(n:Int)(hn:BO n)(ha:tL D 80000):
   CQ 126 [VA g,VB n] w (λv w'=>v=VB (if Aw D.V.length n then 0 else 2)/\Two (DZ g (if Aw D.V.length n then yT D n.toNat else D)) Y lo L w'/\nC lo L w w'):=by
 have a:=h;have c:=nC.refl lo L w;have p:=IR h n hn;obtain⟨Z,z,A,B⟩:=WW;have C:Z.length=128:=by rw[<-oL];exact B
 have q:=λm=>Xv D m
 simp only[z]at q;obtain⟨j,r⟩:=aa (Aw D.V.length n);rw[r]at p |-;refine nZ (rs:=[.tmp 4]) (n:=36) Tryz.func126 rfl rfl Tryz.ntmps126 dA rfl<|ny<|nA<|nk<|nI<|ny<|ng<|ng<|nP (p) ?_
 rintro _ _ ⟨rfl,rfl⟩;refine oG<|ng<|mZ (pJ rfl rfl)<|nk<|oZ rfl (λo=>?_)<|λo=>?_
 ·
  refine mg ?_;have e:j=false:=by cases j with|false=>rfl|true=>simp at o
  subst e;exact⟨rfl,a,c⟩
 ·
  have e:j=true:=by cases j with|true=>rfl|false=>simp at o
  subst e;have O:=of_decide_eq_true r;have E:∃ m:Nat,n=m:=⟨n.toNat,dB⟩;obtain⟨m,rfl⟩:=E;rw[if_pos rfl,if_pos rfl,aW];refine nU<|nJ<|nI<|ny<|ng<|mZ (oJ rfl rfl (Coup.nV dB))<|ng<|nk<|pE ?_
  refine qY (α:=Nat) 0 (λi=>[(17,VB (i:Nat)),(16,VB (1+(m:Int))),(0,VA g)])
    (λi w'=>i<=1+m/\Two (DZ g (Bz D i)) Y lo L w'/\nC lo L w w') (λi=>1+m - i)
    VF ⟨aC _,a,c⟩ ?_
  clear a c;rintro i f P ⟨Q,a,c⟩;have k:=Ut ha i;have s:=Ia k.1.left k.1.dead;refine ny<|mZ (pI rfl rfl)<|nk<|nI<|oZ rfl (λF=>?_)<|λF=>?_
  ·
   refine nU<|nJ<|nI<|pE<|ny<|ng<|oG<|ng<|ng<|mZ (BF (bv Z) (by rw[<-A];kernel_rfl)) ?_
   have t:=TQ a (i:Int) Z C (yD k.1.short dB);have G:xC (Bz D i) (i:Int)=true:=decide_eq_true dB;rw[Kz,G,s.1,if_pos rfl,if_pos rfl,<-q]at t;refine nP (t) ?_;rintro _ R ⟨rfl,a,H⟩;replace c:=c.lq H;refine oG<|ng<|mZ (pJ rfl rfl)<|nk<|qg rfl (dB)<|nU<|pO<|nJ<|nO<|mZ (oJ rfl rfl (Coup.nV dB))<|ng<|oI<|oM ⟨i+1,dB,⟨by go_num,rfl,rfl,rfl⟩,dB,a,c⟩
  ·
   have I:i=1+m:=by omega
   subst I;have l:=QO k.1;have S:=Gh (D:=Bz D (1+m));have u:=l.2.uC 0 (uG 1 1);have J:=Ia l.2.left l.2.dead;have K:=Ia u.1.left u.1.dead;refine qL<|qK<|rq<|qO<|nJ<|nI<|ny<|ng ?_
   have e:=Ui a;rw[s.1,if_pos rfl]at e;refine nP (e) ?_;rintro _ T ⟨rfl,a,M⟩;replace c:=c.lq M;refine oG<|ng<|mZ (pJ rfl rfl)<|nk<|qg rfl (dB)<|nU<|nJ<|ny<|ng<|mZ (SV (k0:=.u64) (k1:=.u64) dA dA rfl rfl) ?_
   have y:=Ej a 1 1 dB dB (yD l.2.short dB);rw[uz,J.1,if_pos rfl,K.1]at y;refine nP (y) ?_;rintro _ U ⟨rfl,a,N⟩;replace c:=c.lq N;refine lZ ?_;exact⟨rfl,a,c⟩
end
structure Lg where
 count:Nat
 since:Nat
 size:Nat
 num:Nat
 at_:Nat
 dead:Bool
def EI(g:Nat)(G:Lg):List Value:=[.int .u64 (G.count:Int), .int .u64 (G.since:Int),VA g,VB (G.size:Int),VB (G.num:Int),VB (G.at_:Int), .bool G.dead]
structure rX(g x:Nat)(Y:VE)(lo:Nat)(L:List Nat)(D:Dk)(G:Lg)(w:World):Prop where
 two:Two (DZ g D) Y lo (x::L) w
 rowx:row w x (EI g G) 231
 ge:lo<=x
 ni:x∉L
namespace rX
variable {Y:VE}{g x lo gc:Nat}{L L2 M:List Nat}{D:Dk}{G:Lg}{w w':World}
theorem lt(h:rX g x Y lo L D G w):x<w.heap.size:=h.rowx.lt
theorem nD [hY:nz Y](h:rX g x Y lo L D G w)(k:Kp M w w')(hM:∀ b∈M,b<lo\/b∈L):rX g x Y lo L D G w':=
 ⟨h.two.nD k λb hb=>(hM b hb).imp id (aj _),h.rowx.nD k λa=>(hM _ a).elim (λc=>absurd h.ge (dW.2 c)) h.ni,h.ge,h.ni⟩
theorem new [hY:nz Y](h:rX g x Y lo L D G w)(hb:VD w w'):rX g x Y lo L D G w':=h.nD (M:=[]) (Kp.of_below hb) ig
theorem only[hY:nz Y](h:rX g x Y lo L D G w)(ho:Only gc w w')(hg:gc<lo\/gc∈L):rX g x Y lo L D G w':=h.nD (Kp.rJ ho) λb hb=>by rw[aJ.1 hb];exact hg
theorem weak(h:rX g x Y lo L D G w)(h2:∀ b∈L2,b∈L):rX g x Y lo L2 D G w:=⟨h.two.weak λb hb=>(ak.1 hb).elim (λe=>e▸aK ..) λa=>aj _ (h2 b a),h.rowx,h.ge,λa=>h.ni (h2 _ a)⟩
theorem nL [hY : nz Y] (h : rX g x Y lo L D G w) (hb : Below w.heap.size w w') (hg : w.heap.size <= gc) (hg' : gc < w'.heap.size) : rX g x Y lo (gc :: L) D G w' :=
  ⟨(h.two.nL hb hg hg').weak (L2 := x :: gc :: L) λb hm => by
    rcases List.mem_cons.1 hm with rfl | hm
    · exact List.mem_cons_of_mem _ (List.mem_cons_self ..)
    · rcases List.mem_cons.1 hm with rfl | hm
      · exact List.mem_cons_self ..
      · exact List.mem_cons_of_mem _ (List.mem_cons_of_mem _ hm), h.rowx.new hb, h.ge, λhm => by
    rcases List.mem_cons.1 hm with e | hm
    · have := h.lt; omega
    · exact h.ni hm⟩
theorem fst(h:rX g x Y lo L D G w):Two (DZ g D) Y lo L w:=h.two.weak λ_ hb=>aj _ hb
end rX
section
variable {Y:VE}[nz Y]{g x lo:Nat}{L:List Nat}{D:Dk}{G:Lg}{w:World}
def Cx(G:Lg)(s:Nat)(ok:Bool):Lg:=if ok then {G with count:=G.count+1,since:=s}else {G with dead:=true}
def xI(D:Dk)(c s:Nat):Bool:=qM D && qM (uC D 0 (uG c s))
theorem BN(h:rX g x Y lo L D G w)(s:Nat)(hc:G.count+1<18446744073709551616)(hs:s<18446744073709551616)(hsh:tJ D 90000):
   CQ 188 [VA x, .int .u64 (s:Int)] w (λv w'=>v=VB (if xI D (G.count+1) s then 0 else 10)/\rX g x Y lo L (uz D (G.count+1) s) (Cx G s (xI D (G.count+1) s)) w'/\nC lo L w w'):=by
 obtain⟨e,a,t,u⟩:=h;have f:=nC.refl lo L w;have O:=a.lt;have y:=fun(L:List Nat) (w':World) (h:Two (DZ g D) Y lo L w')=>Ej h (G.count+1) s hc hs hsh
 obtain⟨ok,l⟩:=aa (xI D (G.count+1) s);obtain⟨D2,z⟩:=aa (uz D (G.count+1) s);rw[l,z];unfold xI at l;rw[l,z]at y;obtain⟨c,P,sz,Q,at_,R⟩:=G;dsimp only[EI,Cx]at*;refine nZ (rs:=[.tmp 4]) (n:=31) Tryz.func188 rfl rfl Tryz.ntmps188 dA rfl<|ny<|oG<|ng<|mZ (oo rfl)<|mZ (nG 0)<|mZ (nG 0)<|mZ (nH a)<|mZ (oJ rfl rfl (wu64 dB))<|ng<|mZ (SV (k0:=.u64) (k1:=.u64) dA dA rfl rfl)<|nK<|oD ([Value.int .u64 0,Value.int .u64 0]) dA<|λA S B i m=>?_
 have F:x<A:=ae a.lt B;replace e:=e.nL m B i.lt;replace a:=a.new m;replace f:=f.new m;refine nT<|oC 2 (_) i<|λT i o=>?_
 replace e:=e.only o eG;replace a:=a.only o (ai F);replace f:=f.oq o;refine nk<|nI<|nI<|vX (lo) ((A::x::L)) dA ?_
 intro H j I J;replace e:=e.new j;replace a:=a.new j;replace f:=f.new j;replace i:=i.new j;have K:=a;have M:=i;refine nu 0 (nS)<|nu 1 (oo rfl)<|nu 2 (nG 2)<|nR 3 (λw' p=>nH (K.kL p))<|nR 4 (λw' p=>pz 2 (M.kL p))<|oh 5 dA<|qw rfl rfl (oz dA rfl) (y _ H e) ?_
 rintro _ U ⟨rfl,e,k⟩;have N:=J.vv I k.wk;refine⟨N,?_⟩;replace a:=a.kl k;replace f:=f.lq k;replace i:=i.kl k;refine nu 6 (rO)<|pq dA<|nJ<|ny<|ng<|mZ (pJ rfl rfl)<|nk<|oZ rfl (λq=>?_)<|λq=>?_
 ·
  refine ny<|ng<|mZ (oo rfl)<|mZ (nG 6)<|nT<|pQ a<|λV a C=>?_
  replace e:=e.only C eG;replace f:=f.oq C;refine qx<|ng<|nA<|nk<|nY<|qy<|ou [_] ⟨rfl,trivial⟩ ?_
  have r:ok=false:=by cases ok with|false=>rfl|true=>simp at q
  subst r;exact⟨rfl,⟨e.weak (λb hb=>aj _ hb),a,t,u⟩,f⟩
 ·
  have r:ok=true:=by cases ok with|true=>rfl|false=>simp at q
  subst r;refine nU<|nJ<|ny<|ng<|mZ (pz 2 i)<|mZ (oo rfl)<|mZ (nG 0)<|nT<|PD [.int .u64 ((c:Int)+1), .int .u64 (s:Int)] rfl rfl a dA ig kD<|λX a E=>?_
  replace e:=e.only E eG;replace f:=f.oq E;refine mI ?_;exact⟨rfl,⟨e.weak (λb hb=>aj _ hb),a,t,u⟩,f⟩
omit [nz Y]
theorem Uu(h:rX g x Y lo L D G w):CQ 154 [VA x] w (λv w'=>v=VB (if G.dead then 10 else 0)/\w=w'):=by
 obtain⟨i,e,j,k⟩:=h;obtain⟨c,l,sz,m,at_,f⟩:=G;dsimp only[EI]at*;refine nZ (rs:=[.tmp 2]) (n:=18) Tryz.func154 rfl rfl Tryz.ntmps154 dA rfl<|ny<|nA<|nk<|nI<|pE<|ny<|ng<|mZ (yU dA rfl rfl)<|ng<|SN 6 rfl (rfl)<|nE<|ng<|nE<|mZ (oo rfl)<|nE<|mZ (nG 2)<|nE<|mZ (nH e)<|nE<|mZ (yU dA rfl rfl)<|mZ (oP rfl)<|nA<|nk<|ui rfl (rfl)<|ny<|ng<|mZ (oo rfl)<|mZ (nG 6)<|mZ (nH e)<|nA<|nk<|xy rfl (λa=>?_)<|λa=>?_
 ·
  refine lW ?_;subst a;exact⟨rfl,rfl⟩
 ·
  refine lX ?_;have g:f=false:=by cases f with|false=>rfl|true=>cases a
  subst g;exact⟨rfl,rfl⟩
theorem DJ(h:rX g x Y lo L D G w)(hle:G.at_<=G.size)(hsz:G.size<=4000):CQ 96 [VA x] w (λv w'=>v=VB ((G.size - G.at_:Nat):Int)/\VD w w'):=by
 obtain⟨k,a,l,m⟩:=h;obtain⟨c,o,sz,p,at_,q⟩:=G;dsimp only[EI]at*;have e:=Below.refl w.heap.size w;refine nZ (rs:=[.tmp 2]) (n:=14) Tryz.func96 rfl rfl Tryz.ntmps96 dA rfl<|ny<|nA<|nk<|nI<|ny<|ng<|mZ (yU dA rfl rfl)<|nk<|ui rfl (rfl)<|nU<|nJ<|nI<|qH [] dA ?_;intro r g s;replace a:=a.new g;replace e:=e.acc g;have i:=a;refine nu 0 (nS)<|nu 1 (oo rfl)<|nu 2 (nG 3)<|nR 3 (λw' f=>nH (i.kq f))<|nu 4 (nS)<|nu 5 (oo rfl)<|nu 6 (nG 5)<|nR 7 (λw' f=>nH (i.kq f))<|nu 8 (vZ rfl rfl (Coup.nV dB))<|nu 9 (rO)<|pq dA<|nJ<|nY<|ou [_] ⟨rfl,trivial⟩ ?_;have j:(sz:Int) - at_=((sz - at_:Nat):Int):=by omega
 exact⟨by show VB ((sz:Int) - at_)=_;rw[j],e⟩
end
def qQ(D:Dk)(at_:Nat):List qz->Dk × Bool
 |[]=>(D,true)
 |s::l=>if qM D then qQ (uC D (at_:Int) s) (at_+1) l else(uC D (at_:Int) s,false)
theorem Wo:∀ (l:List qz) (D:Dk) (a:Nat) (s:qz),(qQ D a l).2=true->qQ D a (l++[s])=(uC (qQ D a l).1 ((a+l.length:Nat):Int) s,qM (qQ D a l).1)
 |[],D,a,s,_=>by
  simp only[aU,qQ,aY,dx]
  split
  .rename_i c;rw[c]
  .rename_i c;cases hx:qM D with
   |true=>exact absurd hx c
   |false=>rfl
 |t::l,D,a,s,c=>by
  rw[bL,qQ];rw[qQ]at c |-
  by_cases e:qM D=true
  .rw[if_pos e]at c |-
   rw[if_pos e,Wo l _ _ s c,aD,show a+1+l.length=a+(l.length+1) by omega]
  .rw[if_neg e]at c;cases c
theorem Vr:∀ (l m:List qz) (D:Dk) (a:Nat),(qQ D a l).2=false->qQ D a (l++m)=qQ D a l
 |[],m,D,a,h=>by cases h
 |t::l,m,D,a,h=>by
  rw[bL,qQ];rw[qQ]at h |-
  by_cases c:qM D=true
  .rw[if_pos c]at h |-
   rw[if_pos c,Vr l m _ _ h]
  .rw[if_neg c,if_neg c]
theorem Xu(D:Dk)(i:Int)(s:qz):(uC D i s).V.length=D.V.length:=by
 unfold uC KR
 split
 .split
  .show((uF D).V.set _ _).length=_
   rw[bA,Dt]
  .rw[Dt]
 .rfl
theorem zmI{D:Dk}{k:Nat}(h:tJ D k)(i:Int)(s:qz):tJ (uC D i s) (k+1):=by
 unfold uC KR
 split
 .rename_i c
  obtain⟨m,rfl,f⟩:=zrP c;have g:=h.pR f
  split
  .intro v a
   rcases iO a with e|e
   .rw[Dt]at e;exact ag (h v e) dB
   .rw[e,aA,dV,aW];omega
  .intro v a;rw[Dt]at a;exact ag (h v a) dB
 .exact yD h dB
theorem Bp:∀ (l:List qz) (D:Dk) (a:Nat),(qQ D a l).1.V.length=D.V.length
 |[],D,a=>rfl
 |t::l,D,a=>by
  have c:(uC D (a:Int) t).V.length=D.V.length:=Xu _ _ _;rw[qQ]
  split
  .rw[Bp l,c]
  .exact c
theorem TD:∀ (l:List qz) (D:Dk) (a k:Nat),tJ D k->tJ (qQ D a l).1 (k+l.length)
 |[],D,a,k,h=>h
 |t::l,D,a,k,h=>by
  have c:tJ (uC D (a:Int) t) (k+1):=zmI h _ _;rw[qQ,aD]
  split
  .exact yD (TD l _ _ _ c) dB
  .exact yD c dB
def ry(b:List UInt8)(n:Nat):List qz:=(List.range n).map λi=>(b.drop (128*i)).take 128
theorem Hm(b:List UInt8)(n:Nat):(ry b n).length=n:=by simp[ry]
theorem XX(b:List UInt8){n i:Nat}(h:i<n):(ry b n)[i]?=some ((b.drop (128*i)).take 128):=by
 rw[ry,aV,eH h];rfl
theorem zr6{b:List UInt8}{n:Nat}(h:b.length=128*n):zo (ry b n):=λs a=>by
 obtain⟨i,c,rfl⟩:=bg.1 a;have:=bZ.1 c;rw[aI,aM];omega
theorem zjs(b:List UInt8)(n:Nat):ry b (n+1)=ry b n++[(b.drop (128*n)).take 128]:=by simp[ry,fQ]
theorem Vt(b:List UInt8):∀ n,(ry b n).flatten=b.take (128*n)
 |0=>rfl
 |n+1=>by
  rw[zjs,jF,Vt b n,List.flatten_singleton,Nat.mul_succ,List.take_add]
section
variable {Y:VE}[nz Y]{g x lo:Nat}{L:List Nat}{D:Dk}{G:Lg}{w:World}
def xU(D:Dk)(a:Nat)(R:List qz):Dk × Bool:=if(qQ D a R).2 then(sP (qQ D a R).1,qM (qQ D a R).1)else qQ D a R
theorem GH(h:rX g x Y lo L D G w)(R:List qz)(hR:zo R)(p n c:Nat)(hp:p∈L)(hn:R.length=n)(hrow:nM w (some ⟨p,0,none⟩) n 128 (bv R.flatten))(hfit:1+G.at_+n<=D.V.length)(hsh:tJ D 80000)(hn2:n<=4000):
   CQ 157 [VA x, .slice (some ⟨p,0,none⟩) n c] w (λv w'=>v=VB (if(xU D (1+G.at_) R).2 then 0 else 10)/\rX g x Y lo L (xU D (1+G.at_) R).1 G w'/\nC lo L w w'):=by
 obtain⟨j,a,t,u⟩:=h;have k:=nC.refl lo L w;have a8:=a.lt;have a9:=j.lt p (aj _ hp);have b0:=(zz j).1.n;obtain⟨P,Q,sz,S,at_,T⟩:=G;dsimp only[EI]at*;refine nZ (rs:=[.tmp 4]) (n:=37) Tryz.func157 rfl rfl Tryz.ntmps157 dA rfl<|ny<|nA<|nk<|nI<|ny<|ng<|mZ (oV (e:=265) (sz:=128) dA rfl rfl)<|ng<|nk<|pE ?_;refine qY (α:=Nat) 0 (λi=>[(10,VB (i:Nat)),(9,VB (n:Int)),(8, .slice (some ⟨p,0,none⟩) n c),(0,VA x)])
   (λi w'=>i<=n/\(qQ D (1+at_) (R.take i)).2=true/\rX g x Y lo L (qQ D (1+at_) (R.take i)).1 ⟨P,Q,sz,S,at_,T⟩ w'/\nM w' (some ⟨p,0,none⟩) n 128 (bv R.flatten)/\nC lo L w w') (λi=>n - i)
   VF ⟨aC _,rfl,⟨j,a,t,u⟩,hrow,k⟩ ?_
 clear j k a hrow;rintro i f b1 ⟨b2,C,⟨j,a,-,-⟩,hrow,k⟩;dsimp only[EI]at a;have b3:=k.size;have E:=TD (R.take i) D (1+at_) 80000 hsh;have U:=Bp (R.take i) D (1+at_);rw[aI]at E;refine ny<|mZ (pI rfl rfl)<|nk<|nI<|oZ rfl (λV=>?_)<|λV=>?_
 ·
  refine nU<|nJ<|nI<|pE<|ny ?_
  have X:∃ s,R[i]?=some s:=⟨_,aG dB⟩;obtain⟨s,F⟩:=X;have Z:R.take (i+1)=R.take i++[s]:=by rw[bf,F];rfl
  have l:=Wo (R.take i) D (1+at_) s C;rw[<-Z,aI,bS dB]at l;have a0:s.length=128:=hR s (aO F);refine ng<|mZ (qZ (e:=265) (sz:=128) dA rfl rfl (i) dB dB)<|mZ (oK rfl (Xk hrow hR F))<|nK<|oD (List.replicate 128 (Value.int .u8 0)) dA<|λJ b4 K m y=>?_
  have a1:x<J:=ae a.lt K;replace j:=j.nL y K m.lt;replace a:=a.new y;replace hrow:=hrow.new y;replace k:=k.new y;refine nA<|nT<|oC 128 (_) m<|λb5 m z=>?_
  replace j:=j.only z eG;replace a:=a.only z (ai a1);replace hrow:=hrow.only z dB;replace k:=k.oq z;refine nk<|nI<|vX (lo) ((J::x::L)) dA ?_
  intro b6 q a2 a3;replace j:=j.new q;replace a:=a.new q;replace hrow:=hrow.new q;replace k:=k.new q;replace m:=m.new q;have M:=a;have a4:=m;refine nu 0 (nS)<|nu 1 (oo rfl)<|nu 2 (nG 2)<|nR 3 (λw' r=>nH (M.kL r))<|nu 4 (nS)<|nu 5 (oo rfl)<|nu 6 (nG 5)<|nR 7 (λw' r=>nH (M.kL r))<|nu 8 (oJ rfl rfl (Coup.nV dB))<|nu 9 (nS)<|nu 10 (oJ rfl rfl (Coup.nV dB))<|nR 11 (λw' r=>pz 128 (a4.kL r))<|oh 12 dA ?_
  have a5:=TQ j ((1+(at_:Int))+(i:Int)) s a0 (yD E dB);refine qw rfl rfl (oz dA rfl) (a5) ?_;rintro _ b7 ⟨rfl,j,A⟩;have a6:=a3.vv a2 A.wk;refine⟨a6,?_⟩;replace a:=a.kl A;replace hrow:=hrow.nD A.kp eu;replace k:=k.lq A;refine nu 13 (rO)<|pq dA<|nJ<|ny ?_
  have H:xC (qQ D (1+at_) (R.take i)).1 ((1+(at_:Int))+(i:Int))=true:=decide_eq_true dB;have a7:(1+(at_:Int))+(i:Int)=((1+at_+i:Nat):Int):=by omega
  rw[Kz,H,if_pos rfl];rw[a7]at j;refine ng<|mZ (pJ rfl rfl)<|nk<|oZ rfl (λI=>?_)<|λI=>?_
  ·
   refine lS ?_;have B:qM (qQ D (1+at_) (R.take i)).1=false:=by cases hq:qM (qQ D (1+at_) (R.take i)).1 with|false=>rfl|true=>simp[hq]at I
   rw[B]at l;have N:=Vr (R.take (i+1)) (R.drop (i+1)) D (1+at_) (by rw[l]);rw[bM,l]at N;rw[xU,N];exact⟨by rw[B];rfl,⟨j.weak (λb hb=>aj _ hb),a,t,u⟩,k⟩
  ·
   have B:qM (qQ D (1+at_) (R.take i)).1=true:=by cases hq:qM (qQ D (1+at_) (R.take i)).1 with|true=>rfl|false=>simp[hq]at I
   refine nU<|pO<|nJ<|nO<|mZ (oJ rfl rfl (Coup.nV dB))<|ng<|oI<|oM ⟨i+1,dB,⟨by go_num,rfl,rfl,rfl,rfl⟩,dB,by rw[l];exact B,?_,hrow,k⟩
   rw[l];exact⟨j.weak (λb hb=>aj _ hb),a,t,u⟩
 ·
  have H:i=n:=by omega
  subst H;rw[aQ dB]at C j E U;refine qL<|qK<|rq<|qO<|nJ<|ny<|ng<|mZ (oo rfl)<|mZ (nG 2)<|mZ (nH a)<|nP (Ui j) ?_
  rintro _ b8 ⟨rfl,j,O⟩;replace a:=a.kl O;replace k:=k.lq O;refine lZ ?_;rw[xU,C,if_pos rfl];exact⟨rfl,⟨j,a,t,u⟩,k⟩
def Ql(G:Lg):Lg:={G with count:=G.count+1,since:=G.count+1,num:=0,at_:=0}
theorem FX(h:rX g x Y lo L D G w)(hc:G.count<=4611686018427387904)(hsh:tJ D 90000):
    CQ 153 [VA x] w (λv w'=>∃ e:Int,v=VB e/\nC lo L w w'/\
      ((G.dead=true/\e=10/\rX g x Y lo L D G w')\/(G.dead=false/\G.count=4611686018427387904/\e=8/\rX g x Y lo L D G w')\/
        (G.dead=false/\G.count<4611686018427387904/\xI D (G.count+1) (G.count+1)=false/\e=10/\rX g x Y lo L (uz D (G.count+1) (G.count+1)) {G with dead:=true} w')\/
        (G.dead=false/\G.count<4611686018427387904/\xI D (G.count+1) (G.count+1)=true/\e=0/\rX g x Y lo L (uz D (G.count+1) (G.count+1)) (Ql G) w'))):=by
  have a:=nC.refl lo L w;have o:=Uu h;have e:=h;have B:=h.lt;obtain⟨j,k⟩:=aa (G.dead);rw[k]at o |-;refine nZ (rs:=[.tmp 2]) (n:=33) Tryz.func153 rfl rfl Tryz.ntmps153 dA rfl ?_;refine ny<|nA<|nk<|nI<|ny<|ng ?_
  refine nP o ?_;rintro _ _ ⟨rfl,rfl⟩;refine oG<|ng ?_
  refine mZ (pJ rfl rfl) ?_;refine nk ?_;refine oZ rfl (λl=>?_)<|λl=>?_
  ·
   refine ny<|ng<|nA<|nk<|nY<|qy ?_
   refine ou [_] ⟨rfl,trivial⟩ ?_;have g:j=true:=by cases j with|true=>rfl|false=>simp at l
   subst g;exact⟨_,rfl,a, .inl ⟨rfl,rfl,e⟩⟩
  ·
   have g:j=false:=by cases j with|false=>rfl|true=>simp at l
   subst g;refine nU<|nJ<|nI<|ny<|ng<|mZ (oo rfl)<|mZ (nG 0)<|mZ (nG 0) ?_
   refine mZ (oK rfl ((Ld.ru e.rowx dA rfl))) ?_;refine mZ (qB rfl rfl) ?_;refine nk ?_;refine oZ rfl (λt=>?_)<|λt=>?_
   ·
    refine ny<|nA<|nk<|nY<|qy ?_
    refine ou [_] ⟨rfl,trivial⟩ ?_;exact⟨_,rfl,a, .inr (.inl ⟨rfl,dB,rfl,e⟩)⟩
   ·
    have p:G.count<4611686018427387904:=by omega
    obtain⟨ok,u⟩:=aa (xI D (G.count+1) (G.count+1));have q:=BN e (G.count+1) dB dB hsh;rw[u]at q |-;refine nU<|nJ<|nI<|ny<|ng<|ng<|mZ (oo rfl)<|mZ (nG 0)<|mZ (nG 0) ?_;refine mZ (oK rfl ((Ld.ru e.rowx dA rfl))) ?_;refine mZ (oJ rfl rfl (wu64 dB)) ?_;refine nP (q) ?_;rintro _ C ⟨rfl,e,y⟩;replace a:=a.lq y;refine oG<|ng ?_;refine mZ (pJ rfl rfl) ?_;refine nk ?_;refine oZ rfl (λm=>?_)<|λm=>?_
    ·
     refine ny<|ng<|nA<|nk<|nY<|qy ?_
     refine ou [_] ⟨rfl,trivial⟩ ?_;have g:ok=false:=by cases ok with|false=>rfl|true=>simp at m
     subst g;exact⟨_,rfl,a, .inr (.inr (.inl ⟨rfl,p,rfl,rfl,e⟩))⟩
    ·
     have g:ok=true:=by cases ok with|true=>rfl|false=>simp at m
     subst g;obtain⟨i,f,z,A⟩:=e;obtain⟨c,E,sz,F,at_,H⟩:=G;dsimp only[EI,Cx]at f k;subst k;rw[if_pos rfl]at f;dsimp only at f;refine nU<|nJ<|ny<|ng<|ng<|mZ (oo rfl)<|mZ (nG 4) ?_
     refine nT<|pQ f<|λI f r=>?_
     replace a:=a.oq r;replace i:=i.only r eG;refine mZ (oo rfl)<|mZ (nG 5) ?_
     refine nT<|pQ f<|λJ f s=>?_
     replace a:=a.oq s;replace i:=i.only s eG;refine qx<|nA<|nk<|nY ?_
     refine ou [_] ⟨rfl,trivial⟩ ?_;exact⟨_,rfl,a, .inr (.inr (.inr ⟨rfl,p,rfl,rfl,⟨i,f,z,A⟩⟩))⟩
end
structure AQ(D:Dk)(G:Lg):Prop where
 s1:1<=G.since
 sc:G.since<=G.count
 cm:G.count<=4611686018427387904
 sz4:4<=G.size
 szm:G.size<=4000
 at_:G.at_<=G.size
 num:G.num<=G.at_
 fit:1+G.size<=D.V.length
def wJ(G:Lg)(R:Rec):List qz:=ry (zI G.count G.num (yH R)) (qN (516*R.length))
theorem WI(G:Lg)(R:Rec):(wJ G R).length=qN (516*R.length):=Hm _ _
theorem zr7(G:Lg){R:Rec}(h:sI R):(wJ G R).flatten=zI G.count G.num (yH R)/\zo (wJ G R):=by
 have a:=YU G.count G.num (yH R);rw[zpq h]at a;refine⟨?_,zr6 a⟩;rw[wJ,Vt,<-a,dF]
def uZ(D:Dk)(G:Lg)(R:Rec):Int × Dk × Lg:=
 if G.dead then(10,D,G)else if yM R=false then(2,D,G)else if G.size<G.at_+(wJ G R).length then(8,D,G)
 else if(xU D (1+G.at_) (wJ G R)).2 then(0,(xU D (1+G.at_) (wJ G R)).1,{G with at_:=G.at_+(wJ G R).length,num:=G.num+1})else(10,(xU D (1+G.at_) (wJ G R)).1,{G with dead:=true})
section
variable {Y:VE}[nz Y]{g x lo:Nat}{L:List Nat}{D:Dk}{G:Lg}{w:World}
omit [nz Y] in
theorem zoc(h:rX g x Y lo L D G w)(hd:G.dead=true)(R:Rec)(p:Option Addr)(n cp:Nat):
  CQ 99 [VA x, .slice p n cp] w (λv w'=>v=VB (uZ D G R).1/\rX g x Y lo L (uZ D G R).2.1 (uZ D G R).2.2 w'/\nC lo L w w'):=by
 have c:=nC.refl lo L w;have a:=Uu h;have e:=h;rw[hd]at a;rw[uZ,hd,if_pos rfl];refine nZ (rs:=[.tmp 4]) (n:=72) Tryz.func99 rfl rfl Tryz.ntmps99 dA rfl<|ny<|nA<|nk<|nI<|ny<|ng<|nP (a) ?_
 rintro _ _ ⟨rfl,rfl⟩;refine mq ?_;exact⟨rfl,e,c⟩
theorem zr8(h:rX g x Y lo L D G w)(hd:G.dead=false)(R:Rec)(hR:sI R)(hm:yM R=false)(p:Option Addr)(n cp:Nat)(hs:nM w p n 513 (qp R))(hn:R.length=n)(hn2:n<=1000000):
  CQ 99 [VA x, .slice p n cp] w (λv w'=>v=VB (uZ D G R).1/\rX g x Y lo L (uZ D G R).2.1 (uZ D G R).2.2 w'/\nC lo L w w'):=by
 have a:=nC.refl lo L w;have f:=Uu h;have e:=h;have j:=(De R hR p n cp w hs hn hn2).to λv w' (h:((yM R=true/\∃ g o c,v= .tuple #[.slice (some ⟨g,o,none⟩) (516*n) c,VB 0]/\w.heap.size<=g/\516*n<=c/\nM w' (some ⟨g,o,none⟩) (516*n) 1 (bv (yH R)))\/(yM R=false/\v= .tuple #[VC,VB 2]))/\VD w w')=>(show v= .tuple #[VC,VB 2]/\VD w w' from⟨h.1.elim (λh=>by rw[hm]at h;cases h.1) λh=>h.2,h.2⟩)
 rw[hd]at f;rw[uZ,hd,if_neg ig,if_pos hm];refine nZ (rs:=[.tmp 4]) (n:=72) Tryz.func99 rfl rfl Tryz.ntmps99 dA rfl<|ny<|nA<|nk<|nI<|ny<|ng<|nP (f) ?_
 rintro _ _ ⟨rfl,rfl⟩;refine oG<|ng<|mZ (pJ rfl rfl)<|nk<|qg rfl (ig)<|nU<|nJ<|ny<|ng<|nP (j) ?_;rintro _ k ⟨rfl,i⟩;replace e:=e.new i;replace a:=a.new i;refine ng<|mZ (nW rfl rfl)<|mZ (nW rfl rfl)<|nA<|nA<|nk<|nI<|pE<|ny<|ng<|mZ (pJ rfl rfl)<|nA<|nk<|uT rfl (ig)<|ny<|ng<|nA<|nk<|nY<|sS<|qy<|ou [_] ⟨rfl,trivial⟩ ?_;exact⟨rfl,e,a⟩
theorem zqD(h:rX g x Y lo L D G w)(hok:AQ D G)(hsh:tJ D 80000)(hd:G.dead=false)(R:Rec)(hR:sI R)(hm:yM R=true)(p:Option Addr)(n cp:Nat)(hs:nM w p n 513 (qp R))(hn:R.length=n)(hn2:n<=1000000):
   CQ 99 [VA x, .slice p n cp] w (λv w'=>v=VB (uZ D G R).1/\rX g x Y lo L (uZ D G R).2.1 (uZ D G R).2.2 w'/\nC lo L w w'):=by
 have a:=nC.refl lo L w;have C:=Uu h;have f:=h;have a3:=(De R hR p n cp w hs hn hn2).to λv w' (h:((yM R=true/\∃ g o c,v= .tuple #[.slice (some ⟨g,o,none⟩) (516*n) c,VB 0]/\w.heap.size<=g/\516*n<=c/\nM w' (some ⟨g,o,none⟩) (516*n) 1 (bv (yH R)))\/(yM R=false/\v= .tuple #[VC,VB 2]))/\VD w w')=>(show ∃ g o c,v= .tuple #[.slice (some ⟨g,o,none⟩) (516*n) c,VB 0]/\w.heap.size<=g/\nM w' (some ⟨g,o,none⟩) (516*n) 1 (bv (yH R))/\VD w w' from h.1.elim (fun⟨_,g,o,c,E,F,_,H⟩=>⟨g,o,c,E,F,H,h.2⟩) λh=>by rw[hm]at h;cases h.1)
 rw[hd]at C;have I:1<=n/\n<=60:=by
   have:=of_decide_eq_true (Bool.and_eq_true_iff.1 hm).1
   rwa [hn]at this
 have J:=(Rc I).1;have c6:=(Rc I).2;have q:=WI G R;obtain⟨a4,a5⟩:=zr7 G hR;have r:=YU G.count G.num (yH R);rw[zpq hR,hn]at r;rw[hn]at q;have c7:qN (516*n)<=1000:=by unfold qN qE;omega
 have a6:vT (G.count:Int) (G.num:Int)=true:=by
   have E:=hok.s1;have F:=hok.sc;have H:=hok.cm;have c8:=hok.szm;have c9:=hok.at_;have d0:=hok.num;unfold vT;rw[decide_eq_true dB,decide_eq_true (by unfold zpi;omega),decide_eq_true dB,decide_eq_true dB];rfl
 have a7:=hok.fit;have K:=hok.at_;have M:=hok.szm;have a8:=hok.num;rw[uZ,hd,if_neg ig,if_neg (by rw[hm];simp),q];generalize wJ G R=RW at*;generalize O:qN (516*n)=N at*;obtain⟨a9,P⟩:=aa (xU D (1+G.at_) RW);rw[P];obtain⟨D2,ok⟩:=a9;refine nZ (rs:=[.tmp 4]) (n:=72) Tryz.func99 rfl rfl Tryz.ntmps99 dA rfl<|ny<|nA<|nk<|nI<|ny<|ng<|nP (C) ?_
 rintro _ _ ⟨rfl,rfl⟩;refine oG<|ng<|mZ (pJ rfl rfl)<|nk<|qg rfl (ig)<|nU<|nJ<|ny<|ng<|nP (a3) ?_;rintro _ b0 ⟨d1,ob,b1,rfl,d2,k,Q⟩;replace f:=f.new Q;replace a:=a.new Q;refine ng<|mZ (nW rfl rfl)<|mZ (nW rfl rfl)<|nA<|nA<|nk<|nI<|pE<|ny<|ng<|mZ (pJ rfl rfl)<|nA<|nk<|qg rfl (ig)<|ny<|ng<|mZ (oV (e:=164) (sz:=513) dA rfl rfl)<|nP (NQ n b0) ?_;rintro _ _ ⟨rfl,rfl⟩;refine ng<|nP (DJ f K M) ?_;rintro _ d3 ⟨rfl,s⟩;replace f:=f.new s;replace a:=a.new s;replace k:=k.new s;rw[J];refine mZ (rz rfl rfl)<|nA<|nk<|oZ rfl (λb2=>?_)<|λb2=>?_
 ·
  refine lW ?_;have t:G.size<G.at_+N:=by omega
  rw[if_pos t];exact⟨rfl,f,a⟩
 ·
  have t:¬G.size<G.at_+N:=by omega
  rw[if_neg t];refine nU<|pO<|nJ<|nI<|qH [] dA ?_
  intro b3 u b4;replace f:=f.new u;replace a:=a.new u;replace k:=k.new u;have S:=f;refine nu 0 (nS)<|nu 1 (oo rfl)<|nu 2 (nG 0)<|nu 3 (nG 0)<|nR 4 (λw' y=>oK rfl ((Ld.ru (S.nD y ko).rowx dA rfl)))<|nu 5 (nS)<|nu 6 (oo rfl)<|nu 7 (nG 4)<|nR 8 (λw' y=>oK rfl ((Ld.ru (S.nD y ko).rowx dA rfl)))<|nu 9 (SV (k0:=.u64) (k1:=.i64) dA dA rfl rfl)<|nu 10 (nS)<|oh 11 dA ?_
  have T:=zrW G.count G.num a6 (yH R) _ (516*n) b1 b3 k dB;rw[O]at T;refine qw rfl rfl (oz dA rfl) (T) ?_;rintro _ d4 ⟨b5,rfl,b6,U,z⟩;replace f:=f.nL z b6 U.lt;have b7:=b4.add0 z;refine⟨b7,?_⟩;replace a:=a.new z;refine nu 12 (nS)<|nu 13 (nW rfl rfl)<|nu 14 (nW rfl rfl)<|nu 15 (rO)<|nu 16 (rO)<|pq dA<|nJ<|nI<|ny<|ng<|ng ?_
  have V:=U.tY (m:=N) (sz:=128) (by rw[oL,r];omega) jB;rw[<-a4]at V;have X:=GH f RW a5 b5 N N (aK ..) q V dB hsh dB;rw[P]at X;clear r O J;refine nP (X) ?_;rintro _ d5 ⟨rfl,f,b8⟩;replace a:=a.lq b8;refine oG ?_;obtain⟨j,i,Y,l⟩:=f;obtain⟨c,b9,sz,c4,at_,d6⟩:=G;dsimp only[EI]at i hd a8 K M a7;subst hd;replace j:=j.weak (L2:=x::L) (λb hb=>(ak.1 hb).elim (λe=>e▸aK ..) λhm=>aj _ (aj _ hm));replace l:x∉L:=λhm=>l (aj _ hm)
  refine ng<|mZ (pJ rfl rfl)<|nk<|oZ rfl (λA=>?_)<|λA=>?_
  ·
   refine ny<|ng<|mZ (oo rfl)<|mZ (nG 6)<|nT<|pQ i<|λd7 i Z=>?_
   replace a:=a.oq Z;replace j:=j.only Z eG;refine qx<|ng<|nA<|nk<|nY<|qy<|ou [_] ⟨rfl,trivial⟩ ?_
   have B:ok=false:=by cases ok with|false=>rfl|true=>simp at A
   subst B;exact⟨rfl,⟨j,i,Y,l⟩,a⟩
  ·
   have B:ok=true:=by cases ok with|true=>rfl|false=>simp at A
   subst B;refine nU<|nJ<|ny<|ng<|mZ (oo rfl)<|mZ (nG 5)<|mZ (nH i)<|ng<|mZ (oV (e:=265) (sz:=128) dA rfl rfl)<|mZ (oJ rfl rfl (Coup.nV dB))<|mZ (oo rfl)<|mZ (nG 5)<|nT<|pQ i<|λc5 i a0=>?_
   replace a:=a.oq a0;replace j:=j.only a0 eG;refine qx ?_;have a1:row c5 x [.int .u64 (c:Int), .int .u64 (b9:Int),VA g,VB (sz:Int),VB (c4:Int),VB ((at_:Int)+(N:Int)), .bool false] 231:=i;replace i:=a1;clear a1;refine ng<|mZ (oo rfl)<|mZ (nG 4)<|mZ (nH i)<|mZ (oJ rfl rfl (Coup.nV dB))<|mZ (oo rfl)<|mZ (nG 4)<|nT<|pQ i<|λd8 i a2=>?_
   replace a:=a.oq a2;replace j:=j.only a2 eG;refine mI ?_;exact⟨rfl,⟨j,i,Y,l⟩,a⟩
theorem zuz(h:rX g x Y lo L D G w)(hok:AQ D G)(hsh:tJ D 80000)(R:Rec)(hR:sI R)(p:Option Addr)(n cp:Nat)(hs:nM w p n 513 (qp R))(hn:R.length=n)(hn2:n<=1000000):
  CQ 99 [VA x, .slice p n cp] w (λv w'=>v=VB (uZ D G R).1/\rX g x Y lo L (uZ D G R).2.1 (uZ D G R).2.2 w'/\nC lo L w w'):=by
 cases hd:G.dead with
 |true=>exact zoc h hd R p n cp
 |false=>
  cases hm:yM R with
  |true=>exact zqD h hok hsh hd R hR hm p n cp hs hn hn2
  |false=>exact zr8 h hd R hR hm p n cp hs hn hn2
end
end Go.Proofs.YtpaniebomegnbaaGreat
namespace Coup
open Go Go.RowKit
section
variable {md:Option Nat->Prop}{P:Program}{n:Nat}{Q:Post}{ρ:Env}{w w0:World}
end
end Coup
namespace Go.Proofs.YtpaniebomegnbaaGreat
open Go Go.RowKit Coup
structure Iw where
 c:Nat
 nn:Nat
 b:List UInt8
def uE:Nat->List UInt8->Nat->List Iw
 |0,_,_=>[]
 |f+1,l,n=>if wC l n then⟨uk (pF l 0),ut (pF l 0),sD l⟩::uE f (l.drop (128*qN (sD l).length)) (n - qN (sD l).length)else[]
theorem zuA(p:Option Addr)(n cp:Nat)(l:List UInt8)(w:World)(h:nM w p n 128 (bv l))(hn:n<=1000000)(hj:wC l n=false):CQ 251 [.slice p n cp] w (λv w'=>v=Tq/\VD w w'):=by
 have f:CQ 251 [.slice p n cp] w (λv w'=>JR l n w v w'):=by
  by_cases c:0<n
  .cases hm:vT (uk (pF l 0)) (ut (pF l 0))with
   |true=>exact Jt p n cp l w h hn c hm
   |false=>exact Pi p n cp l w h hn c hm
  .obtain rfl:n=0:=by omega
   exact Ro p cp l w
 exact f.to λv w' ⟨g,a⟩=>by
  rcases a with⟨_,a⟩|⟨e,_⟩
  .exact⟨a,g⟩
  .rw[hj]at e;cases e
theorem SY{l:List UInt8}{n:Nat}(hj:wC l n=true):0<n/\vT (uk (pF l 0)) (ut (pF l 0))=true/\(l.length=n*128->qN (sD l).length<=n/\1<=qN (sD l).length):=by
 rw[wC,aN,aN]at hj;obtain⟨⟨g,c⟩,e⟩:=hj;have h:=of_decide_eq_true g;rw[Xy,aN,aN,aN]at c;obtain⟨⟨⟨i,k⟩,m⟩,f⟩:=c;have f:=of_decide_eq_true f;rw[IY,aN,aN,aN]at e;obtain⟨⟨⟨_,o⟩,a⟩,_⟩:=e;have a:=of_decide_eq_true a;refine⟨h,i,λp=>?_⟩;have hb:(sD l).length<=AZ l (vU (pF l 0)):=by rw[sD,aI];omega
 have j:qE (sD l).length<=qE (AZ l (vU (pF l 0))):=by unfold qE;omega
 rw[a]at j;have hp:1<=qE (sD l).length:=by unfold qE;omega
 unfold qN;omega
theorem zuB(p:Option Addr)(n cp:Nat)(l:List UInt8)(w:World)(h:nM w p n 128 (bv l))(hn:n<=1000000)(hj:wC l n=true):Calls Tryz.prog 251 [.slice p n cp].toArray w
  (qb λv w'=>∃ sp,v= .tuple #[.agg #[.int .u64 (uk (pF l 0)),VB (ut (pF l 0))], .slice sp (sD l).length (sD l).length,VB (qN (sD l).length:Nat),VB 0]/\nM w' sp (sD l).length 1 (bv (sD l))/\VD w w'):=by
 obtain⟨c,e,_⟩:=SY hj;exact(Jt p n cp l w h hn c e).to λv w' ⟨f,g⟩=>by
  rcases g with⟨a,_⟩|⟨_,sp,a,i⟩
  .rw[hj]at a;cases a
  .exact⟨sp,a,i,f⟩
theorem zuC{w:World}{q:Option Addr}{m c sz j:Nat}{cs:List Value}(h:nM w q m sz cs)(hj:j<=m)(hc:m<=c):nM w (if c=j then q else q.map (·.add (j*sz))) (m - j) sz (cs.drop (j*sz)):=by
 refine⟨by rw[aM,h.len,Nat.sub_mul],ag (Nat.sub_le _ _) h.max,λa=>?_⟩;have c:0<(m - j)*sz:=a;have k:0<m - j:=Nat.pos_of_mul_pos_right c;have l:(m - j)*sz+j*sz=m*sz:=by rw[<-cZ];congr 1;omega
 obtain⟨b,e,hp,f,g⟩:=h.at_ dB;refine⟨b,e+j*sz,by rw[if_neg dB,hp,dP,Addr.add_lit],f,λi o=>?_⟩;rw[bC,<-g (j*sz+i) dB]
 congr 2;omega
def Ko(R:List Iw)(k:Nat)(v:List Value)(W:World):Prop:=∃ r,R[k]?=some r/\∃ sp,v=[.agg #[.int .u64 (r.c:Int),VB (r.nn:Int)], .slice sp r.b.length r.b.length]/\nM W sp r.b.length 1 (bv r.b)
theorem GL (l:List UInt8) (g1 ga oa n c:Nat) (w:World) (hn:n<=1000000) (h0n:0<n) (hcn:n<=c) (r1:row w g1 [.slice (some ⟨ga,oa,none⟩) n c] 190)
  (hs:nM w (some ⟨ga,oa,none⟩) n 128 (bv l)):Nf Tryz.prog 250 [VA g1] (uE n l n).length (Ko (uE n l n)) [g1,ga] w:=by
 intro a2 J Jx W L M d1 N a3;have O:=r1.new L;have P:=hs.new L;have Q:=P.some dB;obtain⟨_,_,a4,Q⟩:=Q;cases a4;have d2:=Below.refl W.heap.size W;obtain⟨R,S⟩:=aa (uE n l n);rw[S]at N |-;refine nZ (rs:=[]) (n:=28) Tryz.func250 rfl rfl Tryz.ntmps250 dA rfl<|ny<|mZ (nH O)<|nA<|nk<|pE ?_
 refine qY (α:=Nat × Nat × Nat × Option Addr × List UInt8) (0,n,c,some ⟨ga,oa,none⟩,l) (λk=>[(0, .func (.yield a2) #[] #[]),(1,VA g1),(3, .slice k.2.2.2.1 k.2.1 k.2.2.1)])
  (λk w'=>k.1<=R.length/\k.2.1<=k.2.2.1/\k.2.1<=n/\(∃ f,k.2.1<=f/\R.drop k.1=uE f k.2.2.2.2 k.2.1)/\nM W k.2.2.2.1 k.2.1 128 (bv k.2.2.2.2)/\(∀ b o,k.2.2.2.1=some ⟨b,o,none⟩->0<k.2.1->b=ga)/\J k.1 w'/\(∀ x,x∈[g1,ga]->w'.heap[x]?=W.heap[x]?)/\W.heap.size<=w'.heap.size) (λk=>k.2.1) VF ⟨aC _,hcn,ax _,⟨n,ax _,S.symm⟩,P,(λb o e _=>by cases e;rfl),a3,λ_ _=>rfl,ax _⟩ ?_
 rintro⟨k,m,j,q,h⟩ f r ⟨d3,a5,d4,⟨fu,d5,u⟩,p,T,U,V,a6⟩;dsimp only at*;have g:=Below.refl r.heap.size r;have X:h.length=m*128:=by simpa [oL]using p.len
 have Y:nM r q m 128 (bv h):=by
  by_cases a7:0<m
  .obtain⟨b,o,rfl,_⟩:=p.some dB
   obtain rfl:=T b o rfl a7;exact p.blk (V b ig) a6
  .exact⟨p.len,p.max,λB=>absurd B (by rw[show m=0 by omega,cO];exact ic 0)⟩
 cases hj:wC h m with
 |false=>
  have a8:k=R.length:=by
   have i:=congrArg List.length u;cases fu with
   |zero=>rw[uE,aM,aY]at i;omega
   |succ fu=>rw[uE,hj,if_neg ig,aM,aY]at i;omega
  refine pE<|ny<|ng<|qA rfl (oz dA rfl) (zuA q m j h r (Y.new g) dB hj) ?_
  rintro _ D ⟨rfl,E⟩;replace g:=g.acc E;refine ng<|mZ (nW rfl rfl)<|mZ (nW rfl rfl)<|mZ (nW rfl rfl)<|mZ (nW rfl rfl)<|nK<|oD ([Value.int .u64 0,VB 0]) dA<|λa9 b0 y s z=>?_
  have F:=ag g.size y;replace g:=g.acc z;refine nT<|oC 2 (_) s<|λd6 s b1=>?_
  replace g:=b1.below g F;refine nA<|nA<|nA<|nk<|nI<|ny<|ng<|mZ (pJ rfl rfl)<|ng<|zT 18 rfl (iT)<|nN<|nN<|nN<|nN<|nN<|mZ (pK rfl)<|nk<|yB rfl<|nY<|qy<|sS<|zH<|sS<|ou [] trivial ?_
  exact Or.inl<|a8▸M _ _ _ U g
 |true=>
  have b2:=SY hj;have b3:=b2.2.2 X;have G:∃ H,fu=H+1:=⟨fu - 1,dB⟩;obtain⟨fu,rfl⟩:=G;rw[uE,hj,if_pos rfl]at u;have b4:k<R.length:=by
   have i:=congrArg List.length u;rw[aM,aD]at i;omega
  have b5:R[k]?=some ⟨uk (pF h 0),ut (pF h 0),sD h⟩:=by
   have i:=congrArg (λH=>H[0]?) u;simpa [bC]using i
  have b6:R.drop (k+1)=uE fu (h.drop (128*qN (sD h).length)) (m - qN (sD h).length):=by
   have i:=congrArg (List.drop 1) u;rw[dR]at i;exact i
  have b7:=zuB q m j h;generalize uk (pF h 0)=C at*;generalize ut (pF h 0)=b8 at*;generalize sD h=I at*;generalize qN I.length=a at*;refine pE<|ny<|ng<|qA rfl (oz dA rfl) (b7 r (Y.new g) dB hj) ?_
  rintro _ D ⟨Z,rfl,b9,E⟩;replace g:=g.acc E;have t:=Below.refl (D).heap.size D;refine ng<|mZ (nW rfl rfl)<|mZ (nW rfl rfl)<|mZ (nW rfl rfl)<|mZ (nW rfl rfl)<|nK<|oD ([Value.int .u64 0,VB 0]) dA<|λa9 b0 y s z=>?_
  have F:=ag g.size y;have c4:=ag t.size y;replace g:=g.acc z;replace t:=t.acc z;refine nT<|oC 2 (_) s<|λc5 s a0=>?_
  replace g:=a0.below g F;replace t:=a0.below t c4;refine nA<|nA<|nA<|nk<|nI<|ny<|ng<|mZ (pJ rfl rfl)<|ng<|uy 18 rfl (ig)<|nE<|ng<|nE<|mZ (pz 2 s)<|nE<|ng<|nE ?_
  have c6:=N k _ c5 b4 ⟨_,b5,Z,rfl,b9.below t (ax _)⟩ (M _ _ _ U g);refine WK (vl:=[.agg #[.int .u64 (C:Int),VB (b8:Int)], .slice Z I.length I.length]) rfl rfl c6 ?_;have K:=zuC p b3.1 a5;have d7:(h.drop (128*a)).length=(m - a)*128:=by rw[aM,X];omega
  replace K:nM W (if j=a then q else q.map (·.add (a*128))) (m - a) 128 (bv (h.drop (128*a))):=by rw[eF 128 a,AA];exact K
  rintro e d8 (⟨rfl,c7,c8,d9⟩|⟨rfl,c9⟩)
  .refine⟨_,rfl,?_⟩
   refine nE<|mZ (sj rfl)<|mZ (oP rfl)<|nk<|Nu rfl<|nU<|nJ<|nO<|ng<|ng<|mZ (Oj (e:=265) (sz:=128) a m j dA rfl ⟨_,_,rfl,rfl⟩ rfl rfl ig dB dB dB)<|nA<|oI<|pO<|oM ⟨(k+1,m - a,j - a,if j=a then q else q.map (·.add (a*128)),h.drop (128*a)),by show m - a<m;omega,VF,by show k+1<=_;omega,by show m - a<=j - a;omega,by show m - a<=n;omega,⟨fu,by show m - a<=fu;omega,b6⟩,K,λb o e B=>?_,c7,λx A=>?_,?_⟩
   .have e0:0<m - a:=B
    have e:(if j=a then q else q.map (·.add (a*128)))=some ⟨b,o,none⟩:=e;rw[if_neg dB]at e;have G:=p.some dB;obtain⟨e1,e2,a1,_⟩:=G;rw[a1,dP,Addr.add_lit]at e;cases e;exact T _ _ a1 dB
   .have d0:x<r.heap.size:=by
     simp only[ak,bq,or_false]at A;have i:=O.lt;rcases A with rfl|rfl<;>omega
    rw[c8 x A,g.block x d0,V x A]
   .have:=g.size;omega
  .refine⟨_,rfl,?_⟩
   refine nE<|mZ (sj rfl)<|mZ (oP rfl)<|nk<|yB rfl<|nY<|qy<|sS<|zH<|sS<|ou [] trivial ?_
   exact Or.inr c9
theorem Lu(l:List UInt8)(ga oa:Nat)(n cp:Nat)(w:World)(h:nM w (some ⟨ga,oa,none⟩) n 128 (bv l))(hn:n<=1000000)(h0n:0<n)(hcn:n<=cp):
  CQ 232 [.slice (some ⟨ga,oa,none⟩) n cp] w (λv w'=>∃ g1,v= .func (.func 250) #[] [VA g1].toArray/\g1<w'.heap.size/\w.heap.size<=g1/\VD w w'/\
   Nf Tryz.prog 250 [VA g1] (uE n l n).length (Ko (uE n l n)) [g1,ga] w'):=by
 have a:=Below.refl w.heap.size w;refine nZ (rs:=[.tmp 2]) (n:=4) Tryz.func232 rfl rfl Tryz.ntmps232 dA rfl<|ny<|nK<|qi ([_]) rfl<|λg1 w1 f c e=>?_
 replace a:=a.acc e;refine oG<|mZ (uV)<|nA<|nk<|nY<|ou [_] ⟨rfl,trivial⟩ ?_
 have g:=a.size;exact⟨_,rfl,c.lt,dB,a,GL l _ ga oa n cp _ hn h0n hcn c (h.below a (ax _))⟩
theorem zqE{l:List UInt8}{n:Nat}(hj:wC l n=true):(sD l).length<=32768:=by
 rw[wC,aN,aN]at hj;have a:=hj.2;rw[IY,aN,aN,aN]at a;have c:=of_decide_eq_true a.1.1.2;rw[sD,aI];omega
theorem Zu:∀ (f:Nat) (l:List UInt8) (n:Nat) (r:Iw),r∈uE f l n->r.b.length<=32768
 |0,l,n,r,a=>by cases a
 |f+1,l,n,r,a=>by
  rw[uE]at a
  split at a
  .rename_i c
   rcases ak.1 a with rfl|a
   .exact zqE c
   .exact Zu f _ _ r a
  .cases a
theorem Zh:∀ (f:Nat) (l:List UInt8) (n:Nat),(uE f l n).length<=f
 |0,l,n=>ax 0
 |f+1,l,n=>by
  rw[uE]
  split
  .rw[aD];have:=Zh f (l.drop (128*qN (sD l).length)) (n - qN (sD l).length);omega
  .simp
structure yz(w:World)(lo:Nat)(o:Option Nat)(vs:List Value)(L:List Rec):Prop where
 len:vs.length=L.length
 at_:∀ (i:Nat) l,L[i]?=some l->∃ b off c,vs[i]?=some (.slice (some ⟨b,off,none⟩) l.length c)/\nM w (some ⟨b,off,none⟩) l.length 513 (qp l)/\b<w.heap.size/\some b≠o/\l.length<=c/\lo<=b
namespace yz
variable {w w':World}{lo:Nat}{o:Option Nat}{vs:List Value}{L:List Rec}
theorem nil(w:World)(lo:Nat)(o:Option Nat):yz w lo o [] []:=⟨rfl,λi l a=>by simp at a⟩
theorem kp{M:List Nat}(h:yz w lo o vs L)(k:Kp M w w')(hM:∀ g,g∈M->w.heap.size<=g\/o=some g\/g<lo):yz w' lo o vs L:=⟨h.len,λi l f=>by
 obtain⟨b,g,c,j,m,o,a,p⟩:=h.at_ i l f;refine⟨b,g,c,j,m.nD k λr s e q=>?_,ae o k.size,a,p⟩;cases e;rcases hM b q with e|e|e
 .omega
 .exact a e.symm
 .omega⟩
theorem new(h:yz w lo o vs L)(hb:VD w w'):yz w' lo o vs L:=h.kp (M:=[]) (Kp.of_below hb) ig
theorem only{g:Nat}(h:yz w lo o vs L)(ho:Only g w w')(hg:g<lo):yz w' lo o vs L:=h.kp (Kp.rJ ho) λb hb=>by rw[aJ.1 hb];exact .inr (.inr hg)
theorem soft{B:Nat}(h:yz w lo o vs L)(k:uP B w w'):yz w' lo o vs L:=⟨h.len,λi l a=>by
 obtain⟨b,e,c,f,g,j,m⟩:=h.at_ i l a;exact⟨b,e,c,f,g.soft k,ae j k.size,m⟩⟩
theorem grow{v v':Value}(h:yz w lo v.ownBlock vs L)(hg:w.grownBy w' v.ownBlock)(hf:∀ g,v'.ownBlock=some g->v.ownBlock=some g\/w.heap.size<=g):yz w' lo v'.ownBlock vs L:=⟨h.len,λi l j=>by
 obtain⟨b,k,c,m,o,p,a,q⟩:=h.at_ i l j;refine⟨b,k,c,m,o.nD (Kp.rU hg) λr s e f=>?_,ae p hg.size,λe=>(hf b e.symm).elim (λg=>a g.symm) (λg=>dB),q⟩;cases e;simp only[ah]at f;exact a f.symm⟩
theorem snoc{b off c:Nat}{l:Rec}(h:yz w lo o vs L)(h2:nM w (some ⟨b,off,none⟩) l.length 513 (qp l))(h3:b<w.heap.size)(h4:some b≠o)(h5:l.length<=c)(h6:lo<=b):yz w lo o (vs++[.slice (some ⟨b,off,none⟩) l.length c]) (L++[l]):=
 ⟨by simp[h.len],λi l' a=>by
  by_cases e:i<L.length
  .rw[bF e]at a
   obtain⟨f,g,j,k,l,m,o,p⟩:=h.at_ i l' a;exact⟨f,g,j,by rw[bF (by rw[h.len];exact e)];exact k,l,m,o,p⟩
  .have q:i=L.length:=by
    have:=(aL.1 a).1;simp at this;omega
   subst q;simp at a;subst a;exact⟨b,off,c,by rw[<-h.len];simp,h2,h3,h4,h5,h6⟩⟩
end yz
def Bh(p:Option Addr)(S:List Rec):VE:=λw C=>(∀ b∈C,b<w.heap.size)/\∃ vs,nM w p S.length 1 vs/\(0<S.length->∀ b o,p=some ⟨b,o,none⟩->b∈C)/\
 ∀ (i:Nat) r,S[i]?=some r->∃ b a c,vs[i]?=some (.slice (some ⟨b,a,none⟩) r.length c)/\nM w (some ⟨b,a,none⟩) r.length 513 (qp r)/\b∈C
theorem MC{M:List Nat}{w w':World}{p:Option Addr}{m sz:Nat}{cs:List Value}(h:nM w p m sz cs)(k:Kp M w w')(hM:0<m->∀ b o,p=some ⟨b,o,none⟩->b∉M):nM w' p m sz cs:=by
 by_cases a:0<m
 .exact h.nD k<|hM a
 .exact⟨h.len,h.max,λc=>absurd c (by rw[show m=0 by omega,cO];exact ic 0)⟩
instance(p:Option Addr)(S:List Rec):nz (Bh p S):=
 ⟨fun {w w' B M} ⟨h,vs,j,a,l⟩ k f=>⟨λb hb=>ae (h b hb) k.size,vs,MC j k λm b o e=>f b (a m b o e),a,λi r hr=>by
  obtain⟨b,p,c,q,s,g⟩:=l i r hr;exact⟨b,p,c,q,s.nD k (λu y e=>by cases e;exact f _ g),g⟩⟩,λt b hb=>t.1 b hb⟩
def zX(Y Z:VE):VE:=λw C=>∃ C1 C2,C=C1++C2/\Y w C1/\Z w C2
instance(Y Z:VE)[hY:nz Y][hZ:nz Z]:nz (zX Y Z):=
 ⟨fun {w w' B M} ⟨C1,C2,e,a,c⟩ k f=>⟨C1,C2,e,hY.nD a k λb hb=>f b (by rw[e];exact aF _ hb),hZ.nD c k λb hb=>f b (by rw[e];exact aB _ hb)⟩,
  fun {w B} ⟨C1,C2,e,a,c⟩ b hb=>by
   rw[e]at hb;exact(ay.1 hb).elim (hY.lt a b) (hZ.lt c b)⟩
theorem zr9{X Y Z:VE}[hX:nz X][hY:nz Y]{lo:Nat}{L M C:List Nat}{w w':World}(h:Two X Y lo L w)(k:Kp M w w')(hM:∀ b∈M,b<lo\/b∈L)(hz:Z w' C)(hC:∀ b∈C,w.heap.size<=b):Two X (zX Y Z) lo L w':=by
 obtain⟨⟨B,E,i,m,c,f⟩,j,l⟩:=h;have o:=λb hb=>hX.lt i b hb
 exact⟨⟨B,E++C,hX.nD i k λb hb a=>(hM b a).elim (λg=>absurd (c b hb).1 (dW.2 g)) (c b hb).2.2,
  ⟨E,C,rfl,hY.nD m k λb hb a=>(hM b a).elim (λg=>absurd (f b hb).1 (dW.2 g)) (f b hb).2,hz⟩,
  λb hb=>⟨(c b hb).1,λa=>(ay.1 a).elim (c b hb).2.1 λe=>absurd (o b hb) (bW.2 (hC b e)),(c b hb).2.2⟩,
  λb hb=>(ay.1 hb).elim (f b) λe=>⟨ag j (hC b e),λa=>absurd (l b a) (bW.2 (hC b e))⟩⟩,ag j k.size,λb hb=>ae (l b hb) k.size⟩
def Bn(D:Dk)(n:Nat):List UInt8:=((List.range n).map λi=>qa D (1+i)).flatten
theorem V_(D:Dk)(n:Nat):Bn D (n+1)=Bn D n++qa D (1+n):=by simp[Bn,fQ]
theorem Sa{D:Dk}(h:yX D){i:Nat}(hi:i<D.V.length):(qa D i).length=128:=RZ (Gi h hi).2.1
def DD(s c k:Nat)(r:Iw):Option Rec:=if r.nn=k/\s<=r.c/\r.c<=c then zO r.b else none
def yC(s c:Nat):Nat->List Iw->List Rec
 |_,[]=>[]
 |k,r::R=>match DD s c k r with
  |some x=>x::yC s c (k+1) R
  |none=>[]
def xu(S:List Rec):Nat:=(S.map λr=>qN (516*r.length)).sum
def xD(D:Dk)(G:Lg):List Rec:=yC G.since G.count 0 (uE G.size (Bn D G.size) G.size)
structure yO(w0:World)(B x g g1 g2 cc si n:Nat)(de:Bool)(T:List Rec)(W:World):Prop where
 rx:row W x [.int .u64 (cc:Int), .int .u64 (si:Int),VA g,VB (n:Int),VB ((T.length:Nat):Int),VB ((xu T:Nat):Int), .bool de] 231
 r1:row W g1 [VA x] 160
 ow:∃ v vs,row W g2 [v] 196/\og W B 159 1 v T.length vs/\yz W B v.ownBlock vs T
 kb:Kp [x] w0 W
theorem yO.soft{w0 W W':World}{B B' x g g1 g2 cc si n:Nat}{de:Bool}{T:List Rec}(h:yO w0 B x g g1 g2 cc si n de T W)(hs:uP B' W W')(hB:w0.heap.size<=B'):yO w0 B x g g1 g2 cc si n de T W':=
 ⟨h.rx.soft hs,h.r1.soft hs,let ⟨v,vs,h1,h2,h3⟩:=h.ow;⟨v,vs,h1.soft hs,h2.soft hs,h3.soft hs⟩,h.kb.soft hs hB⟩
theorem Cr{w0 W:World}{B e:Nat}{p:Option Addr}{c:Nat}{vs:List Value}{o:Option Nat}{S:List Rec}(hv:og W B e 1 (.slice p S.length c) S.length vs)(hr:yz W B o vs S)(hB:w0.heap.size<=B):
  Bh p S W (List.range' w0.heap.size (W.heap.size - w0.heap.size)):=by
 have f:∀ b,w0.heap.size<=b->b<W.heap.size->b∈List.range' w0.heap.size (W.heap.size - w0.heap.size):=λb a g=>dw.2 ⟨a,dB⟩
 refine⟨λb hb=>by have:=dw.1 hb;omega,vs,hv.sl,λl b o e=>?_,λi r h=>?_⟩
 .subst e
  have:=hv.lt b rfl;exact f b dB this.2
 .obtain⟨b,j,c,a,g,k,_,_,m⟩:=hr.at_ i r h
  exact⟨b,j,c,a,g,f b dB k⟩
theorem zsa{w:World}{base e sz m b:Nat}{v:Value}{xs:List Value}(h:og w base e sz v m xs)(hb:v.ownBlock=some b):∃ o:Obj,w.heap[b]?=some o/\o.isCells=true:=by
 rcases h.2 with a|⟨g,e,f,i,rfl,j,c,rest⟩
 .simp[a,Value.ownBlock]at hb
 .cases hb;exact⟨_,c,rfl⟩
theorem zsb{w:World}{base e sz m c:Nat}{p:Option Addr}{xs:List Value}(h:og w base e sz (.slice p m c) m xs):m<=c:=by
 rcases h.2 with⟨a,_⟩|⟨g,f,i,j,c,k,l,e,_⟩
 .cases a;exact ax _
 .cases c;exact e
theorem Qj{s c k:Nat}{r:Iw}{R:List Iw}(h:DD s c k r=none):yC s c k (r::R)=[]:=by rw[yC,h]
theorem x_{s c k:Nat}{r:Iw}{R:List Iw}{x:Rec}(h:DD s c k r=some x):yC s c k (r::R)=x::yC s c (k+1) R:=by rw[yC,h]
theorem zpt(T:List Rec)(r:Rec):xu (T++[r])=xu T+qN (516*r.length):=by simp[xu]
theorem Ip{b:List UInt8}{r:Rec}(h:zO b=some r):1<=r.length/\r.length<=60:=by
 unfold zO at h
 split at h
 .rename_i a
  cases h;rw[zN,aN,aN]at a;have:=of_decide_eq_true a.1.2
  rwa [Xl]
 .cases h
section
variable {Y:VE}[nz Y]{g x lo:Nat}{L:List Nat}{D:Dk}{G:Lg}{w:World}
theorem KL(h:rX g x Y lo L D G w)(hok:AQ D G)(h0:G.num=0)(h1:G.at_=0):
   CQ 187 [VA x] w (λv w'=>∃ p c,v= .tuple #[.slice p (xD D G).length c,VB 0]/\(xD D G).length<=c/\
     rX g x (zX Y (Bh p (xD D G))) lo L D {G with num:=(xD D G).length,at_:=xu (xD D G)} w'/\nC lo L w w'):=by
 have y:=Below.refl w.heap.size w;have a:=h.rowx;have o6:=a.lt;have d5:=h.ge;have d6:=h.ni;have o7:=hok.fit;have o8:=hok.szm;have o9:=hok.sz4;have i2:=(zz h.two).1;have p0:maxLen=9223372036854775807:=by decide
 have f7:xD D G=yC G.since G.count 0 (uE G.size (Bn D G.size) G.size):=rfl;have i3:=λw' (hb:VD w w') i=>DY (h.new hb).two i
 generalize xD D G=S at*;obtain⟨Z,a0,sz,p1,at_,b0⟩:=G;dsimp only[EI]at*;subst h0 h1;refine nZ (rs:=[.cell 2 196, .tmp 3]) (n:=99) Tryz.func187 rfl rfl Tryz.ntmps187 dA rfl<|ny<|nK<|qi ([_]) rfl<|λU w1 i4 j f8=>?_
 have f9:x<U:=ae a.lt i4;replace a:=a.new f8;replace y:=y.acc f8;refine nK<|oD ([VC]) dA<|λF w2 g0 p d7=>?_
 have e1:x<F:=ae a.lt g0;have i5:U<F:=ae j.lt g0;replace a:=a.new d7;replace j:=j.new d7;replace y:=y.acc d7;refine oG<|nA<|nk<|nI<|ny<|mZ (nH j)<|mZ (oo rfl)<|mZ (nG 3)<|mZ (nH a)<|ng<|nk<|pE ?_
 have a7:=a.lt;have p2:=j.lt;have p3:=p.lt;have d7:=y.size;refine qY (α:=Nat × Value) (0,VC) (λk=>[(16,VB (k.1:Nat)),(15,VB (sz:Int)),(4,k.2),(1,VA U),(2,VA F)])
   (λk w'=>k.1<=sz/\og w' w2.heap.size 265 128 k.2 k.1 (bv (Bn D k.1))/\row w' x [.int .u64 (Z:Int), .int .u64 (a0:Int),VA g,VB (sz:Int),VB ((0:Nat):Int),VB ((0:Nat):Int), .bool b0] 231/\row w' U [VA x] 160/\row w' F [VC] 196/\VD w w'/\w2.heap.size<=w'.heap.size) (λk=>sz - k.1)
   VF ⟨aC _,xV _ _ _ _,a,j,p,y,ax _⟩ ?_
 clear a j p y;rintro⟨i,u⟩ f e2 ⟨p4,t,a,j,p,y,p5⟩;dsimp only at*;have K:=Below.refl e2.heap.size e2;refine ny<|mZ (pI rfl rfl)<|nk<|nI<|oZ rfl (λi6=>?_)<|λi6=>?_
 ·
  refine nU<|nJ<|nI<|pE<|ny<|ng<|oG ?_
  have i7:((1+i:Nat):Int)=1+(i:Int):=by omega
  have i8:xC D ((1+i:Nat):Int)=true:=decide_eq_true dB;have e3:=Sa i2 (i:=1+i) dB;have g1:=V_ D i;obtain⟨s,L⟩:=aa (qa D (1+i));rw[L]at e3 g1;refine mZ (nH j)<|mZ (oo rfl)<|mZ (nG 2)<|mZ (nH a)<|ng<|mZ (oJ rfl rfl (Coup.nV dB)) ?_
  have g2:=i3 _ y ((1+i:Nat):Int);rw[i8,if_pos rfl,if_pos rfl,aW,L,i7]at g2;refine nP (g2) ?_;rintro _ p6 ⟨rfl,b5⟩;replace a:=a.new b5;replace j:=j.new b5;replace p:=p.new b5;replace y:=y.acc b5;replace K:=K.acc b5;refine ng<|mZ (nW rfl rfl)<|mZ (nW rfl rfl)<|nK<|oD (List.replicate 128 (Value.int .u8 0)) dA<|λe4 p7 b6 e5 b7=>?_
  have i9:=ag y.size b6;have j0:=ag K.size b6;have j1:x<e4:=ae a.lt b6;have j2:U<e4:=ae j.lt b6;have j3:F<e4:=ae p.lt b6;replace a:=a.new b7;replace j:=j.new b7;replace p:=p.new b7;replace y:=y.acc b7;replace K:=K.acc b7;refine nT<|oC 128 (bv s) e5<|λp8 e5 b8=>?_
  replace a:=a.only b8 (ai j1);replace j:=j.only b8 (ai j2);replace p:=p.only b8 (ai j3);replace y:=b8.below y i9;replace K:=b8.below K j0;refine nA<|nk<|nI<|ny<|ng<|mZ (pJ rfl rfl)<|nk<|qg rfl (ig)<|nU<|nJ<|nO<|ng<|mZ (oK rfl (Ld.qI (k:=128) e5 dA dA (by rw[oL,e3])))<|nK<|tT (e:=265) (.agg (bv s).toArray) (bv s) (List.replicate 128 (Value.int .u8 0)) 128 dA dA rfl rfl iw ⟨iT,iT⟩<|λp9 q0 q4 j4 b9=>?_
  replace a:=a.new b9;replace j:=j.new b9;replace p:=p.new b9;replace y:=y.acc b9;replace K:=K.acc b9;have j5:=j4.tY (m:=1) (sz:=128) (by rw[oL,e3]) dB;replace t:=t.new K;have q5:=K.size;refine nK<|tu (e:=265) (sz:=128) (bytes:=128) (z:=.agg (List.replicate 128 (Value.int .u8 0)).toArray) dA rfl dA rfl iT rfl t rfl j5 (uf _) jB dB (λj6=>dB)<|λj7 q6 g3 c4 q7=>?_
  replace a:=a.own t c4 dB;replace j:=j.own t c4 dB;replace p:=p.own t c4 dB;replace y:=y.own t c4 dB;refine nA<|oI<|pO<|nJ<|nO<|mZ (oJ rfl rfl (Coup.nV dB))<|ng<|oI ?_
  rw[<-wR,<-g1]at g3;refine oM ⟨(i+1,j7),by show _ - (i+1)<_ - i;omega,⟨by go_num,rfl,rfl,rfl,rfl,rfl⟩,by show i+1<=_;omega,g3,a,j,p,y,by have:=c4.size;have:=K.size;omega⟩
 ·
  have j8:i=sz:=by omega
  subst j8;have e6:=t.form' dB;obtain⟨ga,j9,k0,rfl,q8,q9,k7⟩:=e6;have k8:=t.sl;refine qL<|qK<|rq<|qO<|nJ<|nI<|ny<|ng<|qA rfl (oz dA rfl) (Lu (Bn D i) ga j9 i k0 e2 k8 dB dB k7) ?_
  rintro _ g4 ⟨k9,rfl,r0,r1,d8,g5⟩;replace a:=a.new d8;replace j:=j.new d8;replace p:=p.new d8;replace y:=y.acc d8;refine nk<|pE ?_;have g6:=Zu i (Bn D i) i;have l0:=Zh i (Bn D i) i;obtain⟨R,l1⟩:=aa (uE i (Bn D i) i);rw[l1]at g5 f7 g6 l0;have e7:=y.size;have e6:∃ b,(g4).heap.size=b:=⟨_,rfl⟩;obtain⟨b1,r2⟩:=e6;have r3:=j.lt;have r4:=p.lt;have l2:yO w b1 x g U F Z a0 i b0 [] g4:=⟨a,j,⟨_,[],p,xV _ _ _ _,yz.nil _ _ _⟩,Kp.BH y⟩;refine ZB (ps:=[39,40]) (m:=R.length) (V:=Ko R) (ks:=[k9,ga]) (λ_ h=>h) rfl dA g5 (Below.refl _ _) (by rintro k v W ⟨r,_,c5,rfl,_⟩;rfl) dA ig
    (by intro r5 g7;simp only[ak,bq,or_false]at g7;rcases g7 with rfl|rfl<;>omega)
    (λk W=>k<=R.length/\∃ T:List Rec,T.length=k/\xu T<=1000*k/\S=T++yC a0 Z k (R.drop k)/\yO w b1 x g U F Z a0 i b0 T W)
    (λc W=>c= .exit 2/\yO w b1 x g U F Z a0 i b0 S W) (λk W W' ⟨h1,T,c6,l3,e8,e9⟩ L=>⟨h1,T,c6,l3,e8,e9.soft L e7⟩) (λc W W' ⟨h1,c6⟩ L=>⟨h1,c6.soft L e7⟩) ⟨aC _,[],rfl,ax _,f7,l2⟩ ?_ ?_ ?_
  · intro l k v W1 g8 l4 c7 r6
    obtain⟨l5,T,l6,l7,P,a1⟩:=c7;obtain⟨r,g9,c5,rfl,d9⟩:=l4;have r7:=g6 r (aO g9);have l8:R.drop k=r::R.drop (k+1):=by rw[dm g8];congr 1;exact bQ ((aG g8).symm.trans g9)
    rw[l8]at P;have E:=Below.refl W1.heap.size W1;refine ny<|nK<|oD ([Value.int .u64 0,VB 0]) dA<|λr8 r9 l9 X m0=>?_
    have m1:=ag E.size l9;replace E:=E.acc m0;refine nT<|oC 2 ([.int .u64 (r.c:Int),VB (r.nn:Int)]) X<|λs0 X m2=>?_
    replace E:=m2.below E m1;refine nk<|nO<|nA<|oI<|⟨rfl,E,λW2 L=>?_⟩
    have X:=X.soft L;have d9:=(d9.new E).soft L;have s1:=L.size;have s2:=E.size;have m3:yO w b1 x g U F Z a0 i b0 T W2:=yO.soft (w0:=w) ⟨a1.rx.new E,a1.r1.new E,let ⟨v,vs,q1,q2,q3⟩:=a1.ow;⟨v,vs,q1.new E,q2.new E,q3.new E⟩,a1.kb.trans (Kp.BH E)⟩ L e7;obtain⟨a,j,⟨v,vs,p,t,H⟩,Y⟩:=m3;obtain⟨a2,a3,rfl⟩:=t.form;have q:=Below.refl W2.heap.size W2;have h2:=λw' (h:nM w' c5 r.b.length 1 (bv r.b))=>XZ r.b c5 r.b.length r.b.length w' h (ax _) dB
    cases hrb:zO r.b with
    |none=>
      have a8:S=T:=by rw[P,Qj (by rw[DD,hrb];split<;>rfl),aR]
      have m4:=λw' (h:nM w' c5 r.b.length 1 (bv r.b))=>(h2 w' h).to λv w2 h=>(show v= .tuple #[VC,VB 4]/\VD w' w2 from⟨h.1.elim (fun⟨_,_,_,_,h1,_⟩=>by rw[hrb]at h1;cases h1) λh=>h.2,h.2⟩)
      refine pE<|ny<|ng<|nP (m4 _ (d9.new q)) ?_
      rintro _ m5 ⟨rfl,a4⟩;replace a:=a.new a4;replace j:=j.new a4;replace q:=q.acc a4;refine ng<|mZ (nW rfl rfl)<|mZ (nW rfl rfl)<|nA<|nA<|nk<|nI<|nI<|qH [] dA ?_;intro s3 f0 s4;replace a:=a.new f0;replace j:=j.new f0;replace q:=q.acc f0;refine nu 0 (nS)<|nu 1 (pJ rfl rfl)<|nu 2 (nS)<|Ig 48 rfl (iT)<|oU 3 dA rfl<|oU 4 dA rfl<|oU 5 dA rfl<|oU 6 dA rfl<|oU 7 dA rfl<|oU 8 dA rfl<|oU 9 dA rfl<|nu 10 (pK rfl)<|nu 11 (nS)<|oU 12 dA rfl<|oU 13 dA rfl<|oU 14 dA rfl<|oU 15 dA rfl<|oU 16 dA rfl<|oU 17 dA rfl<|oU 18 dA rfl<|oU 19 dA rfl<|nu 20 (pK rfl)<|nu 21 (nS)<|oU 22 dA rfl ?_;refine oU 23 dA rfl<|oU 24 dA rfl<|oU 25 dA rfl<|oU 26 dA rfl<|oU 27 dA rfl<|oU 28 dA rfl<|oU 29 dA rfl<|nu 30 (pK rfl)<|pq dA<|nJ<|yB rfl<|qL<|qK<|MR rfl ?_;exact⟨KQ (M:=[]) (Kp.of_below q) ig,rfl,a8▸⟨a,j,⟨_,vs,p.new q,t.new q,H.new q⟩,Y.trans (Kp.BH q)⟩⟩
    |some rr=>
      have m6:=λw' (h:nM w' c5 r.b.length 1 (bv r.b))=>(h2 w' h).to λv w2 h=>(show ∃ g o c,v= .tuple #[.slice (some ⟨g,o,none⟩) rr.length c,VB 0]/\w'.heap.size<=g/\rr.length<=c/\nM w2 (some ⟨g,o,none⟩) rr.length 513 (qp rr)/\VD w' w2 from h.1.elim (fun⟨s5,g,o,c,h1,c6,e8,e9,m7⟩=>by rw[hrb]at h1;cases h1;exact⟨g,o,c,c6,e8,e9,m7,h.2⟩) λh=>by rw[hrb]at h;cases h.1)
      have m8:=Ip hrb;have h3:=Rc m8;have s6:qN (516*rr.length)<=1000:=by unfold qN qE;omega
      refine pE<|ny<|ng<|nP (m6 _ (d9.new q)) ?_
      rintro _ m5 ⟨f1,oq,h4,rfl,s7,m9,b2,a4⟩;replace X:=X.new a4;replace a:=a.new a4;replace j:=j.new a4;replace q:=q.acc a4;refine ng<|mZ (nW rfl rfl)<|mZ (nW rfl rfl)<|nA<|nA<|nk<|nI<|nI<|qH [] dA ?_;intro n0 c8 s8;replace X:=X.new c8;replace a:=a.new c8;replace j:=j.new c8;replace b2:=b2.new c8;replace q:=q.acc c8;have f2:=X;have f3:=a;have f4:=j;refine nu 0 (nS)<|nu 1 (pJ rfl rfl)<|nu 2 (nS)<|Ap 48 rfl (ig)<|nu 3 (nG 1)<|nR 4 (λw' A=>nH (f2.kq A))<|nR 5 (λw' A=>nH (f4.kq A))<|nu 6 (oo rfl)<|nu 7 (nG 4)<|nR 8 (λw' A=>nH (f3.kq A))<|nu 9 (pJ rfl rfl)<|nu 10 (oP rfl)<|nu 11 (nS)<|EW 57 rfl (λn1=>?_)<|λn1=>?_
      ·
       refine oU 12 dA rfl<|oU 13 dA rfl<|oU 14 dA rfl<|oU 15 dA rfl<|oU 16 dA rfl<|oU 17 dA rfl<|oU 18 dA rfl<|oU 19 dA rfl<|nu 20 (pK rfl)<|nu 21 (nS)<|oU 22 dA rfl<|oU 23 dA rfl<|oU 24 dA rfl<|oU 25 dA rfl<|oU 26 dA rfl<|oU 27 dA rfl<|oU 28 dA rfl<|oU 29 dA rfl<|nu 30 (pK rfl)<|pq dA<|nJ<|yB rfl<|qL<|qK<|MR rfl ?_
       have a8:S=T:=by rw[P,Qj (by rw[DD,if_neg dB]),aR]
       exact⟨KQ (M:=[]) (Kp.of_below q) ig,rfl,a8▸⟨a,j,⟨_,vs,p.new q,t.new q,H.new q⟩,Y.trans (Kp.BH q)⟩⟩
      ·
       refine nu 12 (nG 0)<|nR 13 (λw' A=>nH (f2.kq A))<|nR 14 (λw' A=>nH (f4.kq A))<|nu 15 (oo rfl)<|nu 16 (nG 0)<|nu 17 (nG 1)<|nR 18 (λw' A=>nH (f3.kq A))<|nu 19 (pI rfl rfl)<|nu 20 (oP rfl)<|nu 21 (nS)<|EW 67 rfl (λh5=>?_)<|λh5=>?_
       ·
        refine oU 22 dA rfl<|oU 23 dA rfl<|oU 24 dA rfl<|oU 25 dA rfl<|oU 26 dA rfl<|oU 27 dA rfl<|oU 28 dA rfl<|oU 29 dA rfl<|nu 30 (pK rfl)<|pq dA<|nJ<|yB rfl<|qL<|qK<|MR rfl ?_
        have a8:S=T:=by rw[P,Qj (by rw[DD,if_neg dB]),aR]
        exact⟨KQ (M:=[]) (Kp.of_below q) ig,rfl,a8▸⟨a,j,⟨_,vs,p.new q,t.new q,H.new q⟩,Y.trans (Kp.BH q)⟩⟩
       ·
        refine nu 22 (nG 0)<|nR 23 (λw' A=>nH (f2.kq A))<|nR 24 (λw' A=>nH (f4.kq A))<|nu 25 (oo rfl)<|nu 26 (nG 0)<|nu 27 (nG 0)<|nR 28 (λw' A=>nH (f3.kq A))<|nu 29 (rz rfl rfl)<|nu 30 (oP rfl)<|pq dA<|nJ<|oZ rfl (λn2=>?_)<|λn2=>?_
        ·
         refine qL<|qK<|MR rfl ?_
         have a8:S=T:=by rw[P,Qj (by rw[DD,if_neg dB]),aR]
         exact⟨KQ (M:=[]) (Kp.of_below q) ig,rfl,a8▸⟨a,j,⟨_,vs,p.new q,t.new q,H.new q⟩,Y.trans (Kp.BH q)⟩⟩
        ·
         have n3:DD a0 Z k r=some rr:=by rw[DD,if_pos dB,hrb]
         rw[x_ n3]at P;have a5:=t;have s9:=h5;refine nU<|nJ<|ny ?_
         replace p:=p.new q;replace t:=t.new q;replace H:=H.new q;have t0:=q;have C:tC (x::F::(Value.slice a2 T.length a3).ownBlock.toList) W2 n0:=⟨Kp.BH q⟩;have t1:=q.size;refine mZ (nH p)<|ng<|nK<|tT (e:=159) (.slice (some ⟨f1,oq,none⟩) rr.length h4) ([.slice (some ⟨f1,oq,none⟩) rr.length h4]) ([VC]) 1 dA dA rfl rfl rfl ⟨iT,iT⟩<|λt2 t3 t4 n4 a6=>?_
         replace a:=a.new a6;replace j:=j.new a6;replace b2:=b2.new a6;replace p:=p.new a6;replace t:=t.new a6;replace H:=H.new a6;replace C:=C.new a6;have n5:=n4.tY (m:=1) (sz:=1) rfl dB;have n6:=(b2.some dB);obtain⟨_,_,n7,n8⟩:=n6;cases n7;have t5:=a6.size;refine nK<|tu (e:=159) (sz:=1) (bytes:=24) (z:=VC) dA rfl dA rfl iT rfl t rfl n5 kD jB dB (λj6=>dB)<|λt6 t7 Q a9 h6=>?_
         replace a:=a.own t a9 dB;replace j:=j.own t a9 dB;replace p:=p.own t a9 dB;obtain⟨t8,t9,rfl⟩:=Q.form;have e0:∀ b,(Value.slice a2 T.length a3).ownBlock=some b->b1<=b/\b<W2.heap.size:=a5.lt;have n9:=b2.nD (Kp.rU a9) (λb o e I=>by cases e;have:=(e0 _ (ah.1 I)).2;omega);have J:=(H.grow a9 h6).snoc n9 (ae n8 a9.size) (λe=>(h6 f1 e.symm).elim (λh7=>by have:=(e0 _ h7).2;omega) (λh7=>dB)) m9 dB;replace C:=C.nD (Kp.rU a9) (λb hb=>.inl (aj _ (aj _ hb)));refine nT<|pQ p<|λu0 p c9=>?_
         replace a:=a.only c9 (ai e1);replace j:=j.only c9 (ai i5);replace Q:=Q.only c9 dB;replace C:=C.only c9 iB;replace J:=J.only c9 dB;refine qx<|mZ (nH j)<|mZ (oo rfl)<|mZ (nG 4)<|mZ (nH a)<|mZ (oJ rfl rfl (Coup.nV dB))<|mZ (oo rfl)<|mZ (nG 4)<|nT<|pQ a<|λo0 a d0=>?_
         replace j:=j.only d0 (bu f9);replace p:=p.only d0 (bu e1);replace Q:=Q.only d0 dB;replace C:=C.only d0 iB;replace J:=J.only d0 dB;refine nk ?_;have a7:row o0 x [.int .u64 (Z:Int), .int .u64 (a0:Int),VA g,VB (i:Int),VB (((T.length:Nat):Int)+1),VB ((xu T:Nat):Int), .bool b0] 231:=a;replace a:=a7;clear a7;refine qH [x] dA ?_;intro u1 b3 h8;replace a:=a.new b3;replace j:=j.new b3;replace p:=p.new b3;replace Q:=Q.new b3;replace C:=C.new b3;replace J:=J.new b3;have o1:=j;refine nR 0 (λw' A=>nH (o1.kq A))<|nu 1 (oo rfl)<|nu 2 (nG 5)<|nu 4 (nS)<|nu 5 (oV (e:=164) (sz:=513) dA rfl rfl)<|zh 6 dA rfl (λ_=>oz dA rfl) (λw' A=>NQ rr.length w')<|oh 3 dA<|Bi rfl rfl (nH a) h8<|nu 7 (oJ rfl rfl (Coup.nV (by rw[h3.1];omega)))<|nu 8 (oo rfl)<|nu 9 (nG 5)<|oh 10 dA<|rA rfl rfl<|pQ a<|λu2 a b4=>?_
         have o2:=h8.aq b4;refine⟨o2,?_⟩;replace j:=j.only b4 (bu f9);replace p:=p.only b4 (bu e1);replace Q:=Q.only b4 dB;replace C:=C.only b4 iB;replace J:=J.only b4 dB;refine pq dA<|pO ?_
         have o3:(((T++[rr]).length:Nat):Int)=((T.length:Nat):Int)+1:=by rw[aA];rfl
         have o4:((xu (T++[rr]):Nat):Int)=((xu T:Nat):Int)+vO rr.length:=by rw[zpt,h3.1];rfl
         refine⟨KQ C.k λb hb=>?_,λb hb=>?_,dB,T++[rr],by rw[aA,dV];omega,by rw[zpt];omega,by rw[aH];exact P,by rw[o3,o4];exact a,j,⟨_,_,p,by rw[aA];exact Q,J⟩,?_⟩
         .rcases ak.1 hb with rfl|hb
          .left;omega
          .rcases ak.1 hb with rfl|hb
           .left;omega
           .right;exact zsa a5 (ah.1 hb)
         .have h9:b<b1/\b≠x/\b≠F:=by
           simp only[ak,bq,or_false]at hb;rcases hb with rfl|rfl<;>omega
          refine C.k.block b dB λI=>?_
          rcases ak.1 I with e|I
          .exact h9.2.1 e
          .rcases ak.1 I with e|I
           .exact h9.2.2 e
           .have:=(e0 _ (ah.1 I)).1;omega
         .refine((⟨Y⟩:tC [x] w W2).nD C.k λb I=>?_).k
          rcases ak.1 I with e|I
          .left;simp[e]
          .rcases ak.1 I with e|I
           .right;omega
           .have:=(e0 _ (ah.1 I)).1;right;omega
  · intro Dd W o5 c7 N
    obtain⟨l5,T,l6,l7,P,a1⟩:=c7;rw[jG,yC,aR]at P;subst P;obtain⟨a,j,⟨v,vs,p,t,H⟩,Y⟩:=a1;obtain⟨a2,a3,rfl⟩:=t.form;refine pO<|nJ<|ny<|mZ (nH p)<|nT<|pQ p<|λi0 p d1=>?_
    have d2:(i0).heap[Dd]?=some (.deferred (some [])):=((Kp.rJ d1).block Dd (aX.1 N).1 jY).trans N;replace N:=d2;clear d2;have O:=uP.put (B:=w.heap.size) (.deferred none) N dB rfl;have f5:row i0 F [.slice a2 S.length a3] 196:=p;have f6:=f5.soft O;have a7:=(a.only d1 dB).soft O;have a5:=(t.only d1 dB).soft O;have J:=(H.only d1 dB).soft O;have d3:=((⟨Y⟩:tC [x] w W).only d1 (by right;omega)).k.soft O (ax _);refine nA<|nk<|nY<|OM [_,_] Dd N ⟨⟨_,rfl,Ld.ru f6 dA rfl⟩,rfl,trivial⟩ ?_
    exact⟨a2,a3,rfl,zsb a5,⟨zr9 h.two d3 (λb hb=>.inr (by simp at hb;simp[hb])) (Cr a5 J dB) (λb hb=>(dw.1 hb).1),a7,d5,d6⟩,nC.LA d3 (λb hb=>.inl (by simp at hb;subst hb;exact⟨d5,d6⟩))⟩
  · intro Dd c W' o5 c7 N
    obtain⟨rfl,a1⟩:=c7;obtain⟨a,j,⟨v,vs,p,t,H⟩,Y⟩:=a1;obtain⟨a2,a3,rfl⟩:=t.form;refine⟨dA,qL ?_⟩;refine qO<|nJ<|ny<|mZ (nH p)<|nT<|pQ p<|λi1 p d4=>?_
    have d2:(i1).heap[Dd]?=some (.deferred (some [])):=((Kp.rJ d4).block Dd (aX.1 N).1 jY).trans N;replace N:=d2;clear d2;have O:=uP.put (B:=w.heap.size) (.deferred none) N dB rfl;have f5:row i1 F [.slice a2 S.length a3] 196:=p;have f6:=f5.soft O;have a7:=(a.only d4 dB).soft O;have a5:=(t.only d4 dB).soft O;have J:=(H.only d4 dB).soft O;have d3:=((⟨Y⟩:tC [x] w W').only d4 (by right;omega)).k.soft O (ax _);refine nA<|nk<|nY<|OM [_,_] Dd N ⟨⟨_,rfl,Ld.ru f6 dA rfl⟩,rfl,trivial⟩ ?_
    exact⟨a2,a3,rfl,zsb a5,⟨zr9 h.two d3 (λb hb=>.inr (by simp at hb;simp[hb])) (Cr a5 J dB) (λb hb=>(dw.1 hb).1),a7,d5,d6⟩,nC.LA d3 (λb hb=>.inl (by simp at hb;subst hb;exact⟨d5,d6⟩))⟩
end
end Go.Proofs.YtpaniebomegnbaaGreat
