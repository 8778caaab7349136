import Derived.Test.YtpaniebomegnbaaGreatM2
import Derived.Lib.BufferWrite
set_option maxHeartbeats 8000000
set_option maxRecDepth 20000
namespace Go.Proofs.YtpaniebomegnbaaGreat
open Go Go.RowKit Coup
theorem UI(p:Option Addr)(n c:Nat)(l:List UInt8)(i:Nat)(w:World)(h:nC w p n 128 (bv l))(hi:i / 2<n)(hn:n<=1000000):
 CQ 256 [.slice p n c, .int .i64 i] w (λv w'=>v= .agg (bv (oM l i)).toArray/\Below w.heap.size w w'):=EE (Kt p n c l i w h hi hn)
theorem UJ(hb:List UInt8)(hl:hb.length=64)(b:Bool)(hm:vB (tJ hb) (tZ hb)=b)(w:World):
  CQ 255 [.agg (bv hb).toArray] w (λv w'=>v= .tuple #[.agg (sF (tJ hb) (tZ hb) (DL hb) (vz hb) (vW hb)).toArray, .bool b]/\Below w.heap.size w w'):=by
 have:=EE (Jz hb hl w)
 rwa [hm]at this
theorem Bj(w:World):CQ 254 [] w (λv w'=>v=Rl/\Below w.heap.size w w'):=EE (Kh w)
theorem zrj(p:Option Addr)(n c:Nat)(l:List UInt8)(w:World)(h:nC w p n 1 (bv l))(hn:n<=8):CQ 257 [.slice p n c] w (λv w'=>v= .int .u64 (qK l)/\w=w'):=EE (Pj p n c l w h hn)
def NA(h:List UInt8)(c nn i m:Nat):Bool:=vB (tJ h) (tZ h) && decide (tJ h=c/\tZ h=nn) && decide (DL h=i) && decide (vz h=m)
def bodies(l:List UInt8)(m:Nat):List UInt8:=(List.range m).flatMap λi=>vW (oM l i)
theorem XK(l:List UInt8)(m:Nat):bodies l (m+1)=bodies l m++vW (oM l m):=by simp[bodies,gB]
theorem zhi(l:List UInt8):∀ m,64*m<=l.length->(bodies l m).length=48*m
 |0,_=>rfl
 |m+1,h=>by rw[XK,aA,zhi l m eu,vW,aL,OW _ _ eu];omega
def Ak(l:List UInt8)(m:Nat):Nat:=qK ((bodies l m).take 4)
def Ju(l:List UInt8)(c nn m:Nat):Bool:=
 (List.range m).all (λi=>NA (oM l i) c nn i m) && decide (Ak l m<=32768) && decide (qw (Ak l m)=m) && ((bodies l m).drop (4+Ak l m)).all (· == 0)
def UU(l:List UInt8)(n c nn m:Nat):Bool:=vB c nn && decide (1<=m) && decide (m<=683) && decide ((m+1) / 2<=n)
def wh(l:List UInt8)(n:Nat):Bool:=
 decide (0<n) && UU l n (tJ (oM l 0)) (tZ (oM l 0)) (vz (oM l 0)) && Ju l (tJ (oM l 0)) (tZ (oM l 0)) (vz (oM l 0))
def rQ(l:List UInt8):List UInt8:=((bodies l (vz (oM l 0))).drop 4).take (Ak l (vz (oM l 0)))
def JR(l:List UInt8)(n:Nat)(w:World)(v:Value)(w':World):Prop:=
 Below w.heap.size w w'/\((wh l n=false/\v=Rl)\/(wh l n=true/\∃ sp,v= .tuple #[.agg #[.int .u64 (tJ (oM l 0)), .int .i64 (tZ (oM l 0))], .slice sp (rQ l).length (rQ l).length, .int .i64 (qC (rQ l).length:Nat), .int .i64 0]/\
  nC w' sp (rQ l).length 1 (bv (rQ l))))
theorem ztw(l:List UInt8)(m:Nat):Ak l m<4294967296:=Cw _ 4 jQ
theorem OI(p:Option Addr)(cp:Nat)(l:List UInt8)(w:World):CQ 251 [.slice p 0 cp] w (λv w'=>JR l 0 w v w'):=by
 have a:=Below.refl w.heap.size w;have g:wh l 0=false:=by simp[wh]
 refine nP (fn:=Tryz.f251) (rs:=[.cell 2 236, .tmp 3, .tmp 4, .tmp 5]) (n:=152) Tryz.func251 rfl rfl Tryz.ntmps251 dA rfl<|mR<|nz<|nU ([.int .u64 0, .int .i64 0]) dA<|λo w2 h c i=>?_
 have j:=ag a.size h;replace a:=a.acc i;refine mV<|mV<|nV<|mV<|mQ<|ng<|ng<|nM<|mP<|mO (oQ (e:=265) (sz:=128) dA rfl rfl)<|mO (qy rfl rfl)<|mQ<|sU rfl (rfl)<|mR<|mP<|qi rfl (uA dA rfl rfl) (Bj w2) ?_
 rintro _ p ⟨rfl,f⟩;replace c:=c.new f;replace a:=a.acc f;refine mO (nJ rfl rfl)<|mO (nJ rfl rfl)<|mO (nJ rfl rfl)<|mO (nJ rfl rfl)<|nH<|nT 2 ([.int .u64 0, .int .i64 0]) c<|λq c m=>?_
 replace a:=m.below a j;refine lY ?_;exact⟨a, .inl ⟨g,rfl⟩⟩
theorem PE(p:Option Addr)(n cp:Nat)(l:List UInt8)(w:World)(h:nC w p n 128 (bv l))(hn:n<=1000000)(h0:0<n)(hm:vB (tJ (oM l 0)) (tZ (oM l 0))=false):
  CQ 251 [.slice p n cp] w (λv w'=>JR l n w v w'):=by
 have a:=Below.refl w.heap.size w;have I:l.length=n*128:=by simpa [oh]using h.len
 have u:wh l n=false:=by simp[wh,UU,hm]
 have g:(oM l 0).length=64:=OW _ _ eu;obtain⟨L,f⟩:∃ L,L=sF (tJ (oM l 0)) (tZ (oM l 0)) (DL (oM l 0)) (vz (oM l 0)) (vW (oM l 0)):=⟨_,rfl⟩;have J:L.length=52:=by rw[f,NC,vW,aL,g]
 have K:∀ v∈L,v.oneCell'=true:=by rw[f];exact TG _ _ _ _ _
 have i:=λw'=>UJ (oM l 0) g false hm w'
 rw[<-f]at i;clear f;refine nP (fn:=Tryz.f251) (rs:=[.cell 2 236, .tmp 3, .tmp 4, .tmp 5]) (n:=152) Tryz.func251 rfl rfl Tryz.ntmps251 dA rfl<|mR<|nz<|nU ([.int .u64 0, .int .i64 0]) dA<|λy w2 z c A=>?_
 have B:=ag a.size z;replace a:=a.acc A;refine mV<|mV<|nV<|mV<|mQ<|ng<|ng<|nM<|mP<|mO (oQ (e:=265) (sz:=128) dA rfl rfl)<|mO (qy rfl rfl)<|mQ<|pJ rfl (eu)<|nL<|ny<|mR<|mP<|qi rfl (nX dA rfl) (UI p n cp l 0 w2 (h.below a (ax _)) eu hn) ?_
 rintro _ C ⟨rfl,j⟩;replace c:=c.new j;replace a:=a.acc j;refine nD (i C) ?_;rintro _ M ⟨rfl,m⟩;replace c:=c.new m;replace a:=a.acc m;refine mP<|mO (nJ rfl rfl)<|mO (nJ rfl rfl)<|nz<|nU (sF 0 0 0 0 (pq 48)) dA<|λD N o q r=>?_
 have E:=ag a.size o;have F:y<D:=ae c.lt o;replace c:=c.new r;replace a:=a.acc r;refine nH<|nT 52 (L) q<|λG q s=>?_
 replace c:=c.only s (ai F);replace a:=s.below a E;refine mV<|mQ<|ng<|mR<|mP<|mO (sD rfl)<|mP<|Da 33 rfl (rfl)<|nE<|nE<|nE<|mO (pO rfl)<|mP<|nE<|nE<|nE<|mO (pO rfl)<|mP<|nE<|nE<|nE<|nE<|nE<|nE<|nE<|mO (pO rfl)<|mQ<|yj rfl<|mR<|mP<|qi rfl (uA dA rfl rfl) (Bj G) ?_
 rintro _ O ⟨rfl,t⟩;replace c:=c.new t;replace a:=a.acc t;refine mO (nJ rfl rfl)<|mO (nJ rfl rfl)<|mO (nJ rfl rfl)<|mO (nJ rfl rfl)<|nH<|nT 2 ([.int .u64 0, .int .i64 0]) c<|λP c H=>?_
 replace a:=H.below a B;refine lY ?_;exact⟨a, .inl ⟨u,rfl⟩⟩
theorem zpW{l:List UInt8}{c nn m i:Nat}(hi:i<m)(h:NA (oM l i) c nn i m=false):Ju l c nn m=false:=by
 have:(List.range m).all (λi=>NA (oM l i) c nn i m)=false:=iU.2 ⟨i,cz.2 hi,by simp[h]⟩;simp[Ju,this]
theorem IK(p:Option Addr)(n cp:Nat)(l:List UInt8)(w:World)(h:nC w p n 128 (bv l))(hn:n<=1000000)(h0:0<n)(hm:vB (tJ (oM l 0)) (tZ (oM l 0))=true):
   CQ 251 [.slice p n cp] w (λv w'=>JR l n w v w'):=by
 have r:=Below.refl w.heap.size w;have m1:l.length=n*128:=by simpa [oh]using h.len
 have d9:(oM l 0).length=64:=OW _ _ eu;obtain⟨L,N⟩:∃ L,L=sF (tJ (oM l 0)) (tZ (oM l 0)) (DL (oM l 0)) (vz (oM l 0)) (vW (oM l 0)):=⟨_,rfl⟩;have m2:L.length=52:=by rw[N,NC,vW,aL,d9]
 have m3:∀ v∈L,v.oneCell'=true:=by rw[N];exact TG _ _ _ _ _
 have a7:=λw'=>UJ (oM l 0) d9 true hm w'
 have e0:L[0]?=some (.int .u64 (tJ (oM l 0))):=by rw[N];rfl
 have e1:L[1]?=some (.int .i64 (tZ (oM l 0))):=by rw[N];rfl
 have O:L[3]?=some (.int .i64 (vz (oM l 0))):=by rw[N];rfl
 have e2:∀ v w',JR l n w v w'=(Below w.heap.size w w'/\((wh l n=false/\v=Rl)\/(wh l n=true/\∃ e3,v= .tuple #[.agg #[.int .u64 (tJ (oM l 0)), .int .i64 (tZ (oM l 0))], .slice e3 (rQ l).length (rQ l).length, .int .i64 (qC (rQ l).length:Nat), .int .i64 0]/\
   nC w' e3 (rQ l).length 1 (bv (rQ l))))):=λ_ _=>rfl
 have Q:wh l n=(decide (0<n) && (vB (tJ (oM l 0)) (tZ (oM l 0)) && decide (1<=vz (oM l 0)) && decide (vz (oM l 0)<=683) && decide ((vz (oM l 0)+1) / 2<=n)) && Ju l (tJ (oM l 0)) (tZ (oM l 0)) (vz (oM l 0))):=rfl;have e4:rQ l=((bodies l (vz (oM l 0))).drop 4).take (Ak l (vz (oM l 0))):=rfl;have m4:vz (oM l 0)<65536:=Cw _ 2 jQ;simp only[e2];clear e2;rw[<-N]at a7;clear N;generalize tJ (oM l 0)=c at*;generalize tZ (oM l 0)=y at*;generalize vz (oM l 0)=m at*;generalize wh l n=J at*;generalize rQ l=T at*;have e5:Ju l c y m=false->J=false:=by intro q;rw[Q,q,ed]
 refine nP (fn:=Tryz.f251) (rs:=[.cell 2 236, .tmp 3, .tmp 4, .tmp 5]) (n:=152) Tryz.func251 rfl rfl Tryz.ntmps251 dA rfl<|mR<|nz<|nU ([.int .u64 0, .int .i64 0]) dA<|λU w2 g1 a g2=>?_
 have c5:=ag r.size g1;replace r:=r.acc g2;refine mV<|mV<|nV<|mV<|mQ<|ng<|ng<|nM<|mP<|mO (oQ (e:=265) (sz:=128) dA rfl rfl)<|mO (qy rfl rfl)<|mQ<|pJ rfl (eu)<|nL<|ny<|mR<|mP<|qi rfl (nX dA rfl) (UI p n cp l 0 w2 (h.below r (ax _)) eu hn) ?_
 rintro _ g3 ⟨rfl,e6⟩;replace a:=a.new e6;replace r:=r.acc e6;refine nD (a7 g3) ?_;rintro _ m5 ⟨rfl,e7⟩;replace a:=a.new e7;replace r:=r.acc e7;refine mP<|mO (nJ rfl rfl)<|mO (nJ rfl rfl)<|nz<|nU (sF 0 0 0 0 (pq 48)) dA<|λa8 m6 e8 s e9=>?_
 have g4:=ag r.size e8;have g5:U<a8:=ae a.lt e8;replace a:=a.new e9;replace r:=r.acc e9;refine nH<|nT 52 (L) s<|λV s f0=>?_
 replace a:=a.only f0 (ai g5);replace r:=f0.below r g4;refine mV<|mQ<|ng<|mR<|mP<|mO (sD rfl)<|mP<|Pn 33 rfl (rfl)<|mY<|mO (nk 3)<|mY<|mO (ou rfl (Ld.qN s dA O))<|mY<|mO (pE rfl rfl)<|mO (oo rfl)<|mP<|ui 38 rfl (λg6=>?_)<|λg6=>?_
 ·
  refine nE<|nE<|nE<|mO (pO rfl)<|mP<|nE<|nE<|nE<|nE<|nE<|nE<|nE<|mO (pO rfl)<|mQ<|yj rfl<|mR<|mP<|qi rfl (uA dA rfl rfl) (Bj V) ?_
  rintro _ f1 ⟨rfl,M⟩;replace a:=a.new M;replace r:=r.acc M;refine mO (nJ rfl rfl)<|mO (nJ rfl rfl)<|mO (nJ rfl rfl)<|mO (nJ rfl rfl)<|nH<|nT 2 ([.int .u64 0, .int .i64 0]) a<|λm7 a g7=>?_
  replace r:=g7.below r c5;refine lZ ?_
  · refine⟨r, .inl ⟨?_,rfl⟩⟩
    rw[Q,show decide (1<=m)=false from decide_eq_false eu];simp
 ·
  refine mY<|mO (nk 3)<|mY<|mO (ou rfl (Ld.qN s dA O))<|mY<|mO (rq rfl rfl)<|mO (oo rfl)<|mP<|ui 43 rfl (λg8=>?_)<|λg8=>?_
  ·
   refine nE<|nE<|nE<|nE<|nE<|nE<|nE<|mO (pO rfl)<|mQ<|yj rfl<|mR<|mP<|qi rfl (uA dA rfl rfl) (Bj V) ?_
   rintro _ f1 ⟨rfl,M⟩;replace a:=a.new M;replace r:=r.acc M;refine mO (nJ rfl rfl)<|mO (nJ rfl rfl)<|mO (nJ rfl rfl)<|mO (nJ rfl rfl)<|nH<|nT 2 ([.int .u64 0, .int .i64 0]) a<|λm8 a g9=>?_
   replace r:=g9.below r c5;refine lZ ?_
   · refine⟨r, .inl ⟨?_,rfl⟩⟩
     rw[Q,show decide (m<=683)=false from decide_eq_false eu];simp
  ·
   refine mY<|mO (nk 3)<|mY<|mO (ou rfl (Ld.qN s dA O))<|mY<|mO (om rfl rfl (nN eu))<|mY<|mO (Ns rfl rfl eu eu)<|mY<|mP<|mY<|mO (oQ (e:=265) (sz:=128) dA rfl rfl)<|mY<|mO (rq rfl rfl)<|mO (oo rfl)<|mQ<|oP rfl (λh1=>?_)<|λh1=>?_
   ·
    refine mR<|mP<|qi rfl (uA dA rfl rfl) (Bj V) ?_
    rintro _ f1 ⟨rfl,M⟩;replace a:=a.new M;replace r:=r.acc M;refine mO (nJ rfl rfl)<|mO (nJ rfl rfl)<|mO (nJ rfl rfl)<|mO (nJ rfl rfl)<|nH<|nT 2 ([.int .u64 0, .int .i64 0]) a<|λm9 a h2=>?_
    replace r:=h2.below r c5;refine lZ ?_
    · refine⟨r, .inl ⟨?_,rfl⟩⟩
      rw[Q,show decide ((m+1) / 2<=n)=false from decide_eq_false eu];simp
   ·
    refine nL<|ny<|mR<|mV<|mQ<|ng<|mR<|mO (nk 3)<|mO (ou rfl (Ld.qN s dA O))<|mP<|mQ<|oU ?_
    have n0:=s.lt;have n1:=a.lt;refine qZ (α:=Nat × Value) (0, .slice none 0 0) (λk=>[(60, .int .i64 (k.1:Nat)),(9,k.2),(59, .int .i64 m),(0, .slice p n cp),(6, .func (.func 254) #[] #[]),(7, .pointer (some ⟨a8,0,none⟩)),(2, .pointer (some ⟨U,0,none⟩))])
      (λk w'=>k.1<=m/\(∀ j,j<k.1->NA (oM l j) c y j m=true)/\nY w' V.heap.size 5 1 k.2 (48*k.1) (bv (bodies l k.1))/\row w' a8 L 298/\row w' U [.int .u64 0, .int .i64 0] 236/\Below w.heap.size w w'/\V.heap.size<=w'.heap.size) (λk=>m - k.1)
      ⟨rfl,rfl,rfl,rfl,rfl,rfl,rfl,rfl⟩ ⟨aC _,(by intro j A;exact absurd A (gD _)),ym _ _ _ _,s,a,r,ax _⟩ ?_
    rintro⟨k,n2⟩ f R ⟨h3,c6,C,s,a,g,n3⟩;simp only at h3 c6 C;have o:=Below.refl R.heap.size R;have n4:=g.size
    by_cases h4:k<m
    · have a9:(oM l k).length=64:=OW _ _ eu
      have D:∃ L,L=sF (tJ (oM l k)) (tZ (oM l k)) (DL (oM l k)) (vz (oM l k)) (vW (oM l k)):=⟨_,rfl⟩;obtain⟨E,F⟩:=D;have n5:E.length=52:=by rw[F,NC,vW,aL,a9]
      have n6:∀ v∈E,v.oneCell'=true:=by rw[F];exact TG _ _ _ _ _
      have c7:=λb (hb:vB (tJ (oM l k)) (tZ (oM l k))=b) w'=>UJ (oM l k) a9 b hb w'
      have h5:E[0]?=some (.int .u64 (tJ (oM l k))):=by rw[F];rfl
      have k1:E[1]?=some (.int .i64 (tZ (oM l k))):=by rw[F];rfl
      have k2:E[2]?=some (.int .i64 (DL (oM l k))):=by rw[F];rfl
      have k3:E[3]?=some (.int .i64 (vz (oM l k))):=by rw[F];rfl
      have h6:(E.drop 4).take (48*1)=bv (vW (oM l k)):=by
        rw[F];exact aP (by show(bv (vW (oM l k))).length<=_;rw[oh,vW,aL,a9];omega)
      have X:NA (oM l k) c y k m=(vB (tJ (oM l k)) (tZ (oM l k)) && decide (tJ (oM l k)=c/\tZ (oM l k)=y) && decide (DL (oM l k)=k) && decide (vz (oM l k)=m)):=rfl;have h7:=XK l k;have c8:(vW (oM l k)).length=48:=by rw[vW,aL,a9]
      rw[<-F]at c7;clear F;generalize tJ (oM l k)=b0 at*;generalize tZ (oM l k)=b1 at*;generalize DL (oM l k)=f2 at*;generalize vz (oM l k)=f3 at*;have b2:NA (oM l k) c y k m=false->J=false:=λq=>e5 (zpW h4 q)
      rcases G:vB (b0:Int) b1 with _|_
      · skip
        refine mf ?_;rintro _ c9 ⟨rfl,Y⟩;replace g:=g.acc Y;replace o:=o.acc Y;refine nD (c7 _ G c9) ?_;rintro _ h8 ⟨rfl,a0⟩;replace g:=g.acc a0;replace o:=o.acc a0;refine mP<|mO (nJ rfl rfl)<|mO (nJ rfl rfl)<|nz<|nU (sF 0 0 0 0 (pq 48)) dA<|λh9 i0 a1 H a2=>?_
        have d0:=ag g.size a1;have d1:=ag o.size a1;replace g:=g.acc a2;replace o:=o.acc a2;refine nH<|nT 52 (E) H<|λi1 H f4=>?_
        replace g:=f4.below g d0;replace o:=f4.below o d1;refine mV<|mQ<|ng<|mR<|mP<|mO (sD rfl)<|mP<|Da 72 rfl (rfl)<|nE<|nE<|nE<|nE<|nE<|mO (pO rfl)<|mP<|nE<|nE<|nE<|nE<|mO (pO rfl)<|mP<|nE<|nE<|nE<|nE<|nE<|mO (pO rfl)<|mQ<|yj rfl<|mR<|mP<|qi rfl (uA dA rfl rfl) (Bj i1) ?_
        rintro _ d2 ⟨rfl,B⟩;replace g:=g.acc B;replace o:=o.acc B;refine mg ?_;have a:=a.new o;have b3:=o.size;refine nH<|nT 2 ([.int .u64 0, .int .i64 0]) a<|λn7 a i2=>?_
        replace g:=i2.below g eu;refine mh ?_;exact⟨g, .inl ⟨b2 (by rw[X,G];rfl),rfl⟩⟩
      · skip
        refine mf ?_;rintro _ c9 ⟨rfl,Y⟩;replace g:=g.acc Y;replace o:=o.acc Y;refine nD (c7 _ G c9) ?_;rintro _ h8 ⟨rfl,a0⟩;replace g:=g.acc a0;replace o:=o.acc a0;refine mP<|mO (nJ rfl rfl)<|mO (nJ rfl rfl)<|nz<|nU (sF 0 0 0 0 (pq 48)) dA<|λh9 i0 a1 H a2=>?_
        have d0:=ag g.size a1;have d1:=ag o.size a1;replace g:=g.acc a2;replace o:=o.acc a2;refine nH<|nT 52 (E) H<|λd3 H f5=>?_
        replace g:=f5.below g d0;replace o:=f5.below o d1;refine mV<|mQ<|ng<|mR<|mP<|mO (sD rfl)<|mP<|Pn 72 rfl (rfl)<|mY<|mO (nk 0)<|mY<|mO (ou rfl (Ld.Lh (H.range 0 [.int .u64 b0, .int .i64 b1] (UW h5 k1)) dA dA))<|mY<|mO (nk 0)<|mY<|mO (ou rfl (Ld.Lh ((s.new o).range 0 [.int .u64 c, .int .i64 y] (UW e0 e1)) dA dA))<|mY<|mO (y_ (k0:=.u64) (k1:=.i64) dA rfl rfl)<|mO (oo rfl)<|mP<|Nr 79 rfl (λd4=>?_)<|λd4=>?_
        ·
         refine nE<|nE<|nE<|nE<|mO (pO rfl)<|mP<|nE<|nE<|nE<|nE<|nE<|mO (pO rfl)<|mQ<|yj rfl<|mR<|mP<|qi rfl (uA dA rfl rfl) (Bj d3) ?_
         rintro _ d2 ⟨rfl,B⟩;replace g:=g.acc B;replace o:=o.acc B;refine mg ?_;have a:=a.new o;have b3:=o.size;refine nH<|nT 2 ([.int .u64 0, .int .i64 0]) a<|λn8 a i3=>?_
         replace g:=i3.below g eu;refine mh ?_
         · simp only[dU,decide_eq_false_iff_not]at d4
           exact⟨g, .inl ⟨b2 (by rw[X,G,show decide (b0=c/\b1=y)=false from decide_eq_false eu];rfl),rfl⟩⟩
        ·
         simp only[Bool.not_eq_false',decide_eq_true_eq]at d4;refine mY<|mO (nk 2)<|mY<|mO (ou rfl (Ld.qN H dA k2))<|mY<|mP<|mY<|mO (oD rfl rfl)<|mO (oo rfl)<|mP<|ui 85 rfl (λi4=>?_)<|λi4=>?_
         ·
          refine nE<|nE<|nE<|nE<|nE<|mO (pO rfl)<|mQ<|yj rfl<|mR<|mP<|qi rfl (uA dA rfl rfl) (Bj d3) ?_
          rintro _ d2 ⟨rfl,B⟩;replace g:=g.acc B;replace o:=o.acc B;refine mg ?_;have a:=a.new o;have b3:=o.size;refine nH<|nT 2 ([.int .u64 0, .int .i64 0]) a<|λn9 a i5=>?_
          replace g:=i5.below g eu;refine mh ?_
          · exact⟨g, .inl ⟨b2 (by rw[X,show decide (f2=k)=false from decide_eq_false eu,ed];rfl),rfl⟩⟩
         ·
          refine mY<|mO (nk 3)<|mY<|mO (ou rfl (Ld.qN H dA k3))<|mY<|mO (nk 3)<|mY<|mO (ou rfl (Ld.qN (s.new o) dA O))<|mY<|mO (oD rfl rfl)<|mO (oo rfl)<|mQ<|oP rfl (λi6=>?_)<|λi6=>?_
          ·
           refine mR<|mP<|qi rfl (uA dA rfl rfl) (Bj d3) ?_
           rintro _ d2 ⟨rfl,B⟩;replace g:=g.acc B;replace o:=o.acc B;refine mg ?_;have a:=a.new o;have b3:=o.size;refine nH<|nT 2 ([.int .u64 0, .int .i64 0]) a<|λo0 a i7=>?_
           replace g:=i7.below g eu;refine mh ?_
           · exact⟨g, .inl ⟨b2 (by rw[X,show decide (f3=m)=false from decide_eq_false eu,ed]),rfl⟩⟩
          ·
           refine nL<|ny<|nM<|mP<|mO (nk 4)<|mO (xQ (e:=5) (n:=48) (0) (48) (48) (48) dA rfl rfl rfl rfl ig eu eu eu eu eu) ?_
           have f6:=H.sl (m:=48) (sz:=1) 4 eu jo;rw[h6]at f6;have C:=C.new o;have s:=s.new o;have a:=a.new o;have b3:=o.size;refine nz<|uf (e:=5) (sz:=1) (bytes:=1) (z:=Value.int .u8 0) dA rfl dA rfl iT rfl C rfl f6 (tq _) jo eu (λo1=>eu)<|λi8 o2 i9 b4 o3=>?_
           replace s:=s.own C b4 eu;replace a:=a.own C b4 eu;replace g:=g.own C b4 eu;refine mV<|oH<|pW<|ny<|nM<|mO (om rfl rfl (Coup.nN eu))<|mP<|oH<|oO ⟨(k+1,i8),by simp only;omega,⟨rfl,by go_num,rfl,rfl,rfl,rfl,rfl,rfl⟩,by simp only;omega,?_,?_,s,a,g,by have:=b4.size;omega⟩
           · intro j A
             rcases dK j k with a3|a3
             · exact c6 j a3
             · obtain rfl:j=k:=by simp only at A;omega
               rw[X,G,decide_eq_true (by omega:b0=c/\b1=y),decide_eq_true (by omega:f2=j),decide_eq_true (by omega:f3=m)];rfl
           · simp only
             rw[h7,wK,show 48*(k+1)=48*k+48 by omega];exact i9
    · obtain rfl:k=m:=by omega
      have D:=C.form' eu;obtain⟨t,u,b5,rfl,o4,o5,o6⟩:=D;have I:=C.sl;have c8:=zhi l k eu;have D:∃ Z,Z=(bodies l k).drop (4+Ak l k):=⟨_,rfl⟩;obtain⟨Z,d5⟩:=D;have o7:=ztw l k;have b6:J=(decide (Ak l k<=32768) && decide (qw (Ak l k)=k) && Z.all (· == 0)):=by
        rw[Q,hm,decide_eq_true h0,decide_eq_true (by omega:1<=k),decide_eq_true (by omega:k<=683),decide_eq_true (by omega:(k+1) / 2<=n),Ju,<-d5,dx.2 (λj A=>c6 j (cz.1 A))];simp only[fI]
      have j0:nC R (some ⟨t,u+0,none⟩) 4 1 (bv ((bodies l k).take 4)):=by
        have:=I.Eh 0 4 eu
        rwa [cK]at this
      have j1:∀ q c w',nC w' q 4 1 (bv ((bodies l k).take 4))->CQ 257 [.slice q 4 c] w' (λv w2=>v= .int .u64 (Ak l k)/\w'=w2):=λq c w' j2=>zrj q 4 c _ w' j2 eu
      clear Q e5;generalize Ak l k=K at*;refine mR<|mO (pE rfl rfl)<|mQ<|ng<|pJ rfl (eu)<|qP<|qL<|rf<|qX<|ny<|mR<|mP<|mO (II (e:=5) (0) (4) (4) (4) dA rfl rfl ⟨_,_,rfl,rfl⟩ ⟨_,_,rfl,rfl⟩ ig eu eu eu eu eu)<|nD (j1 _ _ R j0) ?_
      rintro _ _ ⟨rfl,rfl⟩;refine mO (rz (k:=.i64) dA dA rfl (nN eu))<|mV<|mQ<|ng<|ng<|qz [] dA ?_;intro b7 b8 o8;replace a:=a.new b8;replace s:=s.new b8;replace I:=I.new b8;replace g:=g.acc b8;have j3:=s;refine mU 0 (nK)<|mU 1 (rq rfl rfl)<|mU 2 (nK)<|DJ 109 rfl (λj4=>?_)<|λj4=>?_
      ·
       refine oK 3 dA rfl<|oK 5 dA rfl<|oK 6 dA rfl<|oK 4 dA rfl<|oK 7 dA rfl<|mU 8 (pO rfl)<|oL dA<|ny<|yj rfl<|mR<|mP<|qi rfl (uA dA rfl rfl) (Bj b7) ?_
       rintro _ j5 ⟨rfl,a4⟩;replace a:=a.new a4;replace g:=g.acc a4;refine mO (nJ rfl rfl)<|mO (nJ rfl rfl)<|mO (nJ rfl rfl)<|mO (nJ rfl rfl)<|nH<|nT 2 ([.int .u64 0, .int .i64 0]) a<|λo9 a j6=>?_
       replace g:=j6.below g eu;refine lZ ?_
       · exact⟨g, .inl ⟨by rw[b6,decide_eq_false eu];rfl,rfl⟩⟩
      ·
       refine mU 3 (nK)<|yM 4 dA rfl (λ_=>nX dA rfl) (λw' S=>VE K eu w')<|mU 5 (nk 3)<|nI 6 (λw' S=>ou rfl (Ld.qN (j3.kq S) dA O))<|mU 7 (oD rfl rfl)<|mU 8 (oo rfl)<|oL dA<|ny<|oP rfl (λj7=>?_)<|λj7=>?_
       ·
        refine mR<|mP<|qi rfl (uA dA rfl rfl) (Bj b7) ?_
        rintro _ j5 ⟨rfl,a4⟩;replace a:=a.new a4;replace g:=g.acc a4;refine mO (nJ rfl rfl)<|mO (nJ rfl rfl)<|mO (nJ rfl rfl)<|mO (nJ rfl rfl)<|nH<|nT 2 ([.int .u64 0, .int .i64 0]) a<|λp0 a j8=>?_
        replace g:=j8.below g eu;refine lZ ?_
        · exact⟨g, .inl ⟨by rw[b6,decide_eq_false (by omega:¬qw K=k),ed];rfl,rfl⟩⟩
       ·
        have G:qw K=k:=by omega
        have j9:=WF K;rw[G]at j9;refine nL<|ny<|ng<|mR<|mP<|mP<|mO (om rfl rfl (nN eu))<|mO (MV (e:=5) (sz:=1) (4+K) (_) (_) dA rfl ⟨_,_,rfl,eu⟩ rfl rfl ig eu eu eu)<|mO (oQ (e:=5) (sz:=1) dA rfl rfl)<|mP<|mQ<|oU ?_
        have k7:Z.length=48*k - (4+K):=by rw[d5,aL,c8]
        obtain⟨b9,k8,k9⟩:∃ b9,(if b5=4+K then some (⟨t,u,none⟩:Addr)else Option.map (λx:Addr=>x.add ((4+K)*1)) (some (⟨t,u,none⟩:Addr)))=some ⟨t,b9,none⟩/\nC b7 (some ⟨t,b9,none⟩) (48*k - (4+K)) 1 (bv Z):=by
          by_cases a5:b5=4+K
          · refine⟨u,if_pos a5,by rw[oh,k7,dz],by unfold maxLen;omega,λq=>eu⟩
          · refine⟨u+(4+K)*1,by rw[if_neg a5,dZ,Addr.add_lit],?_⟩
            have:=I.Eh (4+K) (48*k - (4+K)) eu;rw[<-d5,aP eu]at this;rw[dz];exact this
        refine qZ (α:=Nat) 0 (λi=>[(127, .int .i64 (i:Nat)),(126, .int .i64 ((48*k - (4+K):Nat):Int)),(125, .slice (some ⟨t,b9,none⟩) (48*k - (4+K)) (b5 - (4+K))),(9, .slice (some ⟨t,u,none⟩) (48*k) b5),(13, .int .i64 K),(6, .func (.func 254) #[] #[]),(7, .pointer (some ⟨a8,0,none⟩)),(2, .pointer (some ⟨U,0,none⟩))])
          (λi w'=>i<=48*k - (4+K)/\(∀ j,j<i->Z[j]?=some 0)/\w'=b7) (λi=>48*k - (4+K) - i)
          ⟨rfl,rfl,by rw[<-k8];rfl,rfl,rfl,rfl,rfl,rfl,rfl⟩ ⟨aC _,(by intro j A;exact absurd A (gD _)),rfl⟩ ?_
        rintro i p1 l0 ⟨p2,f7,rfl⟩;refine mR<|mO (pE rfl rfl)<|mQ<|ng<|oP rfl (λl1=>?_)<|λl1=>?_
        ·
         refine nL<|ny<|ng<|oU<|mR ?_
         have D:∃ P,Z[i]?=some P:=⟨_,aI eu⟩;obtain⟨P,d6⟩:=D;refine mO (vg (e:=5) dA rfl rfl (i) eu eu)<|mO (ou rfl (Ld.sl1 k9 dA (v:=uk P) (by rw[DW,d6];rfl)))<|nV<|mP<|mO (oD rfl rfl)<|mQ<|oP rfl (λf8=>?_)<|λf8=>?_
         ·
          refine mR<|mP<|qi rfl (uA dA rfl rfl) (Bj l0) ?_
          rintro _ p3 ⟨rfl,f9⟩;replace a:=a.new f9;replace g:=g.acc f9;refine mO (nJ rfl rfl)<|mO (nJ rfl rfl)<|mO (nJ rfl rfl)<|mO (nJ rfl rfl)<|nH<|nT 2 ([.int .u64 0, .int .i64 0]) a<|λp4 a l2=>?_
          replace g:=l2.below g eu;refine mV<|mV<|mV<|mQ<|nQ<|tu<|qb<|Bc<|tu<|qb<|nR [_,_,_,_] ⟨⟨_,rfl,Ld.qp (k:=2) a dA dA gp⟩,rfl,rfl,rfl,trivial⟩ ?_
          · refine⟨g, .inl ⟨?_,rfl⟩⟩
            have:Z.all (· == 0)=false:=iU.2 ⟨P,aN d6,by
              intro q;have l3:P=0:=by simpa using q
              exact f8 (by rw[l3];rfl)⟩
            rw[b6,this,ed]
         ·
          refine nL<|pW<|ny<|nM<|mO (om rfl rfl (Coup.nN eu))<|mP<|oH ?_
          have l4:P=0:=by
            exact iC.1 (by show P.toNat=0;omega)
          refine oO ⟨i+1,eu,⟨rfl,rfl,rfl,rfl,rfl,rfl,rfl,rfl,rfl⟩,eu,?_,rfl⟩;intro j A;rcases dK j i with a3|a3
          · exact f7 j a3
          · obtain rfl:j=i:=by omega
            rw[d6,l4]
        ·
         have l5:J=true:=by
           have:Z.all (· == 0)=true:=dx.2 λx l6=>by
             have D:=fB.1 l6;obtain⟨j,A⟩:=D;have:=f7 j (by have:=(aO.1 A).1;omega);rw[A]at this;simpa using this
           rw[b6,this,decide_eq_true G,decide_eq_true eu];rfl
         have d7:T.length=K:=by rw[e4,aH,aL,c8];omega
         obtain⟨a6,a7,l7⟩:∃ a6,(if 4+K=4 then some (⟨t,u,none⟩:Addr)else Option.map (λx:Addr=>x.add (4*1)) (some (⟨t,u,none⟩:Addr)))=some ⟨t,a6,none⟩/\∀ w',nC w' (some ⟨t,u,none⟩) (48*k) 1 (bv (bodies l k))->nC w' (some ⟨t,a6,none⟩) K 1 (bv T):=by
           by_cases a5:4+K=4
           · refine⟨u,if_pos a5,λw' _=>⟨by rw[oh,d7,dz],by unfold maxLen;omega,λq=>eu⟩⟩
           · refine⟨u+4*1,by rw[if_neg a5,dZ,Addr.add_lit],λw' l8=>?_⟩
             have:=l8.Eh 4 K eu
             rwa [<-e4]at this
         refine qP<|qL<|rf<|qX<|ny<|ng<|qz [U] dA ?_
         intro p5 c4 l9;replace a:=a.new c4;replace s:=s.new c4;replace I:=I.new c4;replace g:=g.acc c4;have g0:=s;refine mU 0 (nk 0)<|nI 1 (λw' S=>ou rfl (Ld.Lh ((g0.kq S).range 0 [.int .u64 c, .int .i64 y] (UW e0 e1)) dA dA))<|mU 2 (nK)<|mU 3 (nK)<|mU 4 (om rfl rfl (nN eu))<|mU 5 (nK)<|mU 6 (om rfl rfl (nN eu))<|mU 7 (MV (e:=5) (sz:=1) (4) (4+K) (4+K) dA rfl ⟨_,_,rfl,rfl⟩ ⟨_,_,rfl,eu⟩ ⟨_,_,rfl,eu⟩ ig eu eu eu)<|mU 8 (nk 3)<|nI 9 (λw' S=>ou rfl (Ld.qN (g0.kq S) dA O))<|mU 10 (om rfl rfl (nN eu))<|mU 11 (Ns rfl rfl eu eu)<|nS 12 dA<|qR rfl rfl<|nT 2 ([.int .u64 c, .int .i64 y]) a<|λp6 a d8=>?_
         have m0:=l9.aq d8;refine⟨m0,?_⟩;replace I:=I.only d8 eu;replace g:=d8.below g eu;refine mU 13 (rA)<|mU 14 (rA)<|mU 15 (rA)<|oL dA<|ny<|nQ<|nR [_,_,_,_] ⟨⟨_,rfl,Ld.qp (k:=2) a dA dA gp⟩,rfl,rfl,rfl,trivial⟩<|⟨g, .inr ⟨l5,some ⟨t,a6,none⟩,?_,by rw[d7];exact l7 _ I⟩⟩
         have e:Value.tuple #[.agg #[.int .u64 c, .int .i64 y], .slice (if 4+K=4 then some (⟨t,u,none⟩:Addr)else Option.map (λx:Addr=>x.add (4*1)) (some (⟨t,u,none⟩:Addr))) (4+K - 4) (4+K - 4), .int .i64 (((k:Int)+1) / 2), .int .i64 0]=
             .tuple #[.agg #[.int .u64 c, .int .i64 y], .slice (some ⟨t,a6,none⟩) T.length T.length, .int .i64 (qC T.length:Nat), .int .i64 0]:=by
           rw[a7,d7,qC,G,gz];rfl
         exact e
theorem Zj(c nn:Nat)(b:List UInt8):(zh c nn b).length=128*qC b.length:=by
 rw[zh,aA,Bu _ (zpU c nn b),ZO,pq,bi];unfold qC;omega
end Go.Proofs.YtpaniebomegnbaaGreat
namespace Coup
open Go Go.RowKit Go.ChangeShapes Go.WideShapes Go.Deep
section
variable {H:Type}{enc:TypeId × Value->H}{P:Program}{W:World}{base:Nat}{spare:Nat->Bool}{held:Bool}
def IM{α:Type}(Q:α->List Value->Prop)(W:World)(n:Nat)(p:Option Addr)(len:Nat)(R:List α):Prop:=
 R.length=len/\∃ cs,nC W p len n cs/\∀ (i:Nat) (r:α),R[i]?=some r->Q r ((cs.drop (i*n)).take n)
end
namespace IM
variable {α:Type}{Q Q':α->List Value->Prop}{w w':World}{n:Nat}{p:Option Addr}{len:Nat}{R:List α}
end IM
end Coup
namespace Go.Proofs.YtpaniebomegnbaaGreat
open Go Go.RowKit Coup
structure Ch where
 num:Int
 page:List UInt8
def rG(c:Ch):List Value:=.int .i64 c.num::bv c.page
abbrev Rec:=List Ch
def rT(R:Rec):Prop:=∀ c∈R,c.page.length=512
def pY(R:Rec):List Value:=R.flatMap rG
theorem Ba{c:Ch}(h:c.page.length=512):(rG c).length=513:=by rw[rG,aD,oh,h]
theorem zV{R:Rec}(h:rT R):(pY R).length=R.length*513:=by
 induction R with
 |nil=>rfl
 |cons c R ih=>
  rw[pY,bN,aA,Ba (h c (aK ..)),aD];have:=ih λx a=>h x (aj _ a)
  rw[pY]at this;omega
theorem Xp{R:Rec}(h:rT R){i:Nat}{c:Ch}(hc:R[i]?=some c):((pY R).drop (i*513)).take 513=rG c:=by
 induction R generalizing i with
 |nil=>simp at hc
 |cons d R ih=>
  have a:=Ba (h d (aK ..));cases i with
  |zero=>
   obtain rfl:d=c:=by simpa using hc
   rw[bZ,cK,pY,bN,bJ a]
  |succ i=>
   have e:R[i]?=some c:=by simpa using hc
   rw[pY,bN,show(i+1)*513=(rG d).length+i*513 by omega,eZ,dC eu,aV,show(rG d).length+i*513 - (rG d).length=i*513 by omega];exact ih (λx f=>h x (aj _ f)) e
theorem Rv(R:Rec)(c:Ch):pY (R++[c])=pY R++rG c:=by rw[pY,bO];simp[pY]
theorem DK(c:Ch):∀ v∈rG c,v.oneCell'=true:=λv a=>by
 rcases ak.1 a with rfl|a
 .rfl
 .exact tq _ v a
theorem ztx(R:Rec):∀ v∈pY R,v.oneCell'=true:=λv a=>by
 obtain⟨c,_,e⟩:=bR.1 a;exact DK c v e
theorem Np{w:World}{g o n:Nat}{R:Rec}(h:nC w (some ⟨g,o,none⟩) n 513 (pY R))(hR:rT R){i:Nat}{c:Ch}(hc:R[i]?=some c):Ld Tryz.prog w 164 ⟨g,o+i*513,none⟩ (.agg (rG c).toArray):=by
 have a:=(aO.1 hc).1;have c:=zV hR;have:=Ld.zB (P:=Tryz.prog) (t:=164) (j:=i*513) (k:=513) h dA dA eu;rw[Xp hR hc]at this;exact this
def vo(n:Int):Int:=if 1<=n/\n<=60 then(qC (n.toNat*516):Nat)else 0
theorem Nq(n:Int)(w:World):CQ 95 [.int .i64 n] w (λv w'=>v= .int .i64 (vo n)/\w=w'):=by
 refine nP (fn:=Tryz.f95) (rs:=[.tmp 2]) (n:=12) Tryz.func95 rfl rfl Tryz.ntmps95 dA rfl<|mR<|mV<|mQ<|ng<|mR<|mP<|mO (pE rfl rfl)<|mP<|ui 5 rfl (λa=>?_)<|λa=>?_
 ·
  refine mi ?_;exact⟨by rw[vo,if_neg eu];rfl,rfl⟩
 ·
  refine mY<|mP<|mY<|mO (rq rfl rfl)<|mO (oo rfl)<|mQ<|oP rfl (λc=>?_)<|λc=>?_
  ·
   refine lN ?_;exact⟨by rw[vo,if_neg eu];rfl,rfl⟩
  ·
   refine nL<|ny<|mR<|mP<|mO (yD rfl rfl (Coup.nN eu))<|nD (YE (n*516) w) ?_
   rintro _ _ ⟨rfl,rfl⟩;refine mV<|mQ<|nQ<|nR [_] ⟨rfl,trivial⟩<|⟨?_,rfl⟩;show Value.int .i64 _=_
   congr 1
   rw[vo,if_pos eu,Ki,if_pos eu,show(n*516).toNat=n.toNat*516 by omega]
   rfl
theorem TW(p:Option Addr)(n c:Nat)(l:List UInt8)(w:World)(h:nC w p n 1 (bv l))(hn:n<=8):CQ 230 [.slice p n c] w (λv w'=>v= .int .u64 (qK l)/\w=w'):=by
 have m:l.length=n:=by simpa [oh]using h.len
 refine nP (fn:=Tryz.f230) (rs:=[.tmp 2]) (n:=18) Tryz.func230 rfl rfl Tryz.ntmps230 dA rfl<|mR<|mV<|mQ<|ng<|mR<|mP<|mO (oQ (e:=5) (sz:=1) dA rfl rfl)<|mP<|mQ<|oU ?_
 refine qZ (α:=Nat) 0 (λk=>[(2, .int .u64 (qK (l.take k):Nat)),(7, .int .i64 (k:Nat)),(6, .int .i64 (n:Int)),(5, .slice p n c)]) (λk w'=>k<=n/\w=w') (λk=>n - k)
   ⟨rfl,rfl,rfl,rfl,rfl⟩ ⟨aC _,rfl⟩ ?_
 rintro k f q ⟨r,rfl⟩;refine mR<|mO (pE rfl rfl)<|mQ<|ng<|oP rfl (λj=>?_)<|λj=>?_
 ·
  refine lF ?_;have a:∃ x,l[k]?=some x:=⟨_,aI eu⟩;obtain⟨x,i⟩:=a;have a:=h.some eu;obtain⟨g,o,rfl,s⟩:=a;have t:=Zh l k eu;have hb:=x.toNat_lt;refine nM<|mO (vg (e:=5) dA rfl rfl k eu eu)<|mO (ou rfl (Ld.sl1 h dA (show(bv l)[k]?=some (.int .u8 (x.toNat:Int)) by rw[DW,i];rfl)))<|mV<|mQ<|nM<|mP<|mO (QH rfl rfl eu (show IntKind.u64.wrap (((qK (l.take k):Nat):Int)*2 ^ (min (8:Int).toNat IntKind.u64.bits))=((256*qK (l.take k):Nat):Int) by rw[show(2:Int) ^ (min (8:Int).toNat IntKind.u64.bits)=256 from rfl,wu64 eu];omega))<|mP<|mO (rz (k:=.u64) dA dA rfl (wu64 eu))<|mO (Pm rfl rfl ((Yj 8 (qK (l.take k):Nat) eu eu eu eu).trans (show _=((qK (l.take (k+1)):Nat):Int) by rw[Si l k x i];omega)))<|mV<|oH<|pW<|ny<|nM<|mO (om rfl rfl (Coup.nN eu))<|mP<|oH<|oO ⟨k+1,eu,⟨rfl,by go_num,rfl,rfl,rfl⟩,eu,rfl⟩
 ·
  refine qP<|qL<|rf<|qX<|ny<|mR<|mP<|mV<|mQ<|nQ<|nR [_] ⟨rfl,trivial⟩<|⟨?_,rfl⟩
  rw[aP eu]
  rfl
theorem Rt(x:Int):∃ b:UInt8,IntKind.u8.wrap x=(b.toNat:Int):=by
 have a:0<=IntKind.u8.wrap x/\IntKind.u8.wrap x<256:=by rw[IntKind.wrap_u8];omega
 refine⟨UInt8.ofNat (IntKind.u8.wrap x).toNat,?_⟩;rw[fq];omega
theorem Xh(n:Int):∃ l4:List UInt8,l4.length=4/\(0<=n->l4=nZ 4 n.toNat)/\[Value.int .u8 (IntKind.u8.wrap (n.fdiv (2 ^ (min (24:Int).toNat IntKind.i64.bits)))), .int .u8 (IntKind.u8.wrap (n.fdiv (2 ^ (min (16:Int).toNat IntKind.i64.bits)))), .int .u8 (IntKind.u8.wrap (n.fdiv (2 ^ (min (8:Int).toNat IntKind.i64.bits)))), .int .u8 (IntKind.u8.wrap n)]=bv l4:=by
 show ∃ l4:List UInt8,l4.length=4/\(0<=n->l4=nZ 4 n.toNat)/\[Value.int .u8 (IntKind.u8.wrap (n.fdiv (2 ^ 24))), .int .u8 (IntKind.u8.wrap (n.fdiv (2 ^ 16))), .int .u8 (IntKind.u8.wrap (n.fdiv (2 ^ 8))), .int .u8 (IntKind.u8.wrap n)]=bv l4
 by_cases e:0<=n
 .obtain⟨k,rfl⟩:∃ k:Nat,n=k:=⟨n.toNat,eu⟩
  exact⟨nZ 4 k,ry _ _,λ_=>by rw[aR],Tq k⟩
 .obtain⟨a,f⟩:=Rt (n.fdiv (2 ^ 24))
  obtain⟨b,hb⟩:=Rt (n.fdiv (2 ^ 16));obtain⟨c,g⟩:=Rt (n.fdiv (2 ^ 8));obtain⟨d,h⟩:=Rt n;exact⟨[a,b,c,d],rfl,λi=>absurd i e,by rw[f,hb,g,h];rfl⟩
def wX(n:Int):Bool:=decide (0<=n/\n<2147483648)
theorem OO(c:Ch)(hc:c.page.length=512)(gb base m:Nat)(u:Value)(xs:List UInt8)(w:World)(hr:row w gb [u] 23)(hu:nY w base 5 1 u m (bv xs))(hgb:gb<base)(hbw:base<=w.heap.size)(hm:m<=1000000):
   CQ 214 [.agg (rG c).toArray, .pointer (some ⟨gb,0,none⟩)] w (λv w'=>v= .bool (wX c.num)/\∃ u' l4,l4.length=4/\(0<=c.num->l4=nZ 4 c.num.toNat)/\row w' gb [u'] 23/\nY w' base 5 1 u' (m+516) (bv (xs++(l4++c.page)))/\Kp (gb::u.ownBlock.toList) w w'):=by
 have c7:maxLen=9223372036854775807:=by decide
 have c8:=hr.lt;have c9:=Ba hc;obtain⟨l4,p,H,a0⟩:=Xh c.num;have a1:=λb e=>(hu.lt b e).2
 refine nP (fn:=Tryz.f214) (rs:=[.tmp 3]) (n:=30) Tryz.func214 rfl rfl Tryz.ntmps214 dA rfl<|mR<|nz<|oV ((rG c)) rfl<|λq w2 d0 a r=>?_
 replace hr:=hr.new r;replace hu:=hu.new r;refine nV<|mO (nk 0)<|mO (mZ a)<|mV<|mQ<|ng<|qz (gb::u.ownBlock.toList) dA ?_
 intro d1 l J;replace hr:=hr.new l;replace hu:=hu.new l;replace a:=a.new l;refine mU 1 (nK)<|mU 2 (wQ rfl rfl eu rfl)<|mU 3 (rz (k:=.u8) dA dA rfl rfl)<|mU 4 (nK)<|mU 5 (wQ rfl rfl eu rfl)<|mU 6 (rz (k:=.u8) dA dA rfl rfl)<|mU 7 (nK)<|mU 8 (wQ rfl rfl eu rfl)<|mU 9 (rz (k:=.u8) dA dA rfl rfl)<|mU 10 (nK)<|mU 11 (rz (k:=.u8) dA dA rfl rfl)<|mU 14 (nk 1)<|mU 15 (xQ (e:=5) (n:=512) (0) (512) (512) (512) dA rfl rfl rfl rfl ig eu eu eu eu eu)<|yP 0 12 dA ?_ ?_
 ·
  refine Ap rfl rfl (mZ hr) J<|nS 12 dA ?_
  have b2:=hr.lt;refine qJ rfl rfl<|IL (e:=5) [(0, .int .u8 (IntKind.u8.wrap (c.num.fdiv (2 ^ (min (24:Int).toNat IntKind.i64.bits))))),(1, .int .u8 (IntKind.u8.wrap (c.num.fdiv (2 ^ (min (16:Int).toNat IntKind.i64.bits))))),(2, .int .u8 (IntKind.u8.wrap (c.num.fdiv (2 ^ (min (8:Int).toNat IntKind.i64.bits))))),(3, .int .u8 (IntKind.u8.wrap c.num))] [.int .u8 0] 1 dA dA rfl eu eu kI kP<|λL M b3 o h=>?_
  have N:=J.add0 h;refine⟨N,?_⟩;replace hr:=hr.new h;replace hu:=hu.new h;replace a:=a.new h;replace o:row M L (bv l4) 5:=by rw[<-a0];exact o
  refine nS 13 dA ?_;have O:=o.ul (m:=4) (sz:=1) (by rw[oh,p]) eu;have s:=λb e=>(hu.lt b e).1
  have b4:=r.size;have b5:=l.size;have b6:=N.size;have b7:=a;refine qJ rfl rfl<|uf (e:=5) (sz:=1) (bytes:=1) (z:=Value.int .u8 0) dA rfl dA rfl iT rfl hu rfl O (tq _) jo eu (λP=>eu)<|λb8 Q j t v=>?_
  have a2:=N.EF hu t kD;refine⟨a2,?_⟩;have y:=Kp.rX t;replace a:=a.nu y (λhm=>by have:=a1 q (ah.1 hm);have:=s q (ah.1 hm);omega);replace hr:=hr.nu y (λhm=>by have:=s gb (ah.1 hm);omega);refine nS 16 dA ?_;have R:nC Q (some ⟨q,0+1,none⟩) 512 1 (bv c.page):=by have A:=a.sl (m:=512) (sz:=1) (0+1) eu eu;rw[show(rG c).drop (0+1)=bv c.page from rfl,aP (by rw[oh,hc];omega)]at A;exact A
  have S:=λb e=>(j.lt b e).1
  have b9:=λb e=>(j.lt b e).2
  refine qJ rfl rfl<|uf (e:=5) (sz:=1) (bytes:=1) (z:=Value.int .u8 0) dA rfl dA rfl iT rfl j rfl R (tq _) jo eu (λP=>eu)<|λc4 c5 B C c6=>?_
  have a3:=a2.add (Kp.rX C) (λg hm=>by first |exact Or.inr hm|exact Or.inr (aj _ hm)|(have:=(j.lt g (ah.1 hm)).1;left;omega)|exact(v g (ah.1 hm)).elim (λe=>Or.inr (ah.2 e)) (λe=>Or.inl eu)|exact(v g (ah.1 hm)).elim (λe=>Or.inr (aj _ (ah.2 e))) (λe=>Or.inl eu));refine⟨a3,?_⟩;have T:=Kp.rX C;have U:=B.form;obtain⟨V,X,rfl⟩:=U;replace hr:=hr.nu T (λhm=>by have:=S gb (ah.1 hm);omega);refine nS 17 dA<|qR rfl rfl<|oW hr<|λa4 hr a5=>?_
  have a6:=a3.aq a5;refine⟨a6,?_⟩;have Y:=a6;have D:=B.only a5 eu;refine oL dA<|ny<|mR<|mP<|mO (tN rfl rfl)<|mP ?_
  have E:nY a4 base 5 1 (.slice V (m+4+512) X) (m+516) (bv (xs++(l4++c.page))):=by
    rw[<-wK,<-wK,aG]at D;rw[show m+516=m+4+512 by omega];exact D
  have F:Kp (gb::u.ownBlock.toList) w a4:=(Kp.AX r).trans ((Kp.AX l).trans Y);refine ui 26 rfl (λG=>?_)<|λG=>?_
  ·
   refine mY<|mP<|mY<|mO (pE rfl rfl)<|mO (pO rfl)<|mV<|mQ<|nQ<|nR [_] ⟨rfl,trivial⟩<|⟨?_,_,l4,p,H,hr,E,F⟩
   show Value.bool (decide _)=_
   congr 1
   unfold wX
   by_cases Z:c.num<2147483648<;>simp[G,Z]
  ·
   refine nE<|nE<|mO (oo rfl)<|mV<|mQ<|nQ<|nR [_] ⟨rfl,trivial⟩<|⟨?_,_,l4,p,H,hr,E,F⟩
   show Value.bool false=_
   congr 1
   unfold wX;rw[decide_eq_false eu]
 ·
  have b2:=hr.lt;refine qJ rfl rfl<|IL (e:=5) [(0, .int .u8 (IntKind.u8.wrap (c.num.fdiv (2 ^ (min (24:Int).toNat IntKind.i64.bits))))),(1, .int .u8 (IntKind.u8.wrap (c.num.fdiv (2 ^ (min (16:Int).toNat IntKind.i64.bits))))),(2, .int .u8 (IntKind.u8.wrap (c.num.fdiv (2 ^ (min (8:Int).toNat IntKind.i64.bits))))),(3, .int .u8 (IntKind.u8.wrap c.num))] [.int .u8 0] 1 dA dA rfl eu eu kI kP<|λL M b3 o h=>?_
  have I:=J.add0 h;refine⟨I,?_⟩;replace hr:=hr.new h;replace hu:=hu.new h;replace a:=a.new h;replace o:row M L (bv l4) 5:=by rw[<-a0];exact o
  refine nS 0 dA<|Ap rfl rfl (mZ hr) I<|nS 13 dA ?_
  have O:=o.ul (m:=4) (sz:=1) (by rw[oh,p]) eu;have s:=λb e=>(hu.lt b e).1
  have b4:=r.size;have b5:=l.size;have b6:=I.size;have b7:=a;refine qJ rfl rfl<|uf (e:=5) (sz:=1) (bytes:=1) (z:=Value.int .u8 0) dA rfl dA rfl iT rfl hu rfl O (tq _) jo eu (λP=>eu)<|λb8 Q j t v=>?_
  have a7:=I.EF hu t kD;refine⟨a7,?_⟩;have y:=Kp.rX t;replace a:=a.nu y (λhm=>by have:=a1 q (ah.1 hm);have:=s q (ah.1 hm);omega);replace hr:=hr.nu y (λhm=>by have:=s gb (ah.1 hm);omega);refine nS 16 dA ?_;have R:nC Q (some ⟨q,0+1,none⟩) 512 1 (bv c.page):=by have A:=a.sl (m:=512) (sz:=1) (0+1) eu eu;rw[show(rG c).drop (0+1)=bv c.page from rfl,aP (by rw[oh,hc];omega)]at A;exact A
  have S:=λb e=>(j.lt b e).1
  have b9:=λb e=>(j.lt b e).2
  refine qJ rfl rfl<|uf (e:=5) (sz:=1) (bytes:=1) (z:=Value.int .u8 0) dA rfl dA rfl iT rfl j rfl R (tq _) jo eu (λP=>eu)<|λc4 c5 B C c6=>?_
  have a8:=a7.add (Kp.rX C) (λg hm=>by first |exact Or.inr hm|exact Or.inr (aj _ hm)|(have:=(j.lt g (ah.1 hm)).1;left;omega)|exact(v g (ah.1 hm)).elim (λe=>Or.inr (ah.2 e)) (λe=>Or.inl eu)|exact(v g (ah.1 hm)).elim (λe=>Or.inr (aj _ (ah.2 e))) (λe=>Or.inl eu));refine⟨a8,?_⟩;have T:=Kp.rX C;have U:=B.form;obtain⟨V,X,rfl⟩:=U;replace hr:=hr.nu T (λhm=>by have:=S gb (ah.1 hm);omega);refine nS 17 dA<|qR rfl rfl<|oW hr<|λa9 hr b0=>?_
  have b1:=a8.aq b0;refine⟨b1,?_⟩;have Y:=b1;have D:=B.only b0 eu;refine oL dA<|ny<|mR<|mP<|mO (tN rfl rfl)<|mP ?_
  have E:nY a9 base 5 1 (.slice V (m+4+512) X) (m+516) (bv (xs++(l4++c.page))):=by
    rw[<-wK,<-wK,aG]at D;rw[show m+516=m+4+512 by omega];exact D
  have F:Kp (gb::u.ownBlock.toList) w a9:=(Kp.AX r).trans ((Kp.AX l).trans Y);refine ui 26 rfl (λG=>?_)<|λG=>?_
  ·
   refine mY<|mP<|mY<|mO (pE rfl rfl)<|mO (pO rfl)<|mV<|mQ<|nQ<|nR [_] ⟨rfl,trivial⟩<|⟨?_,_,l4,p,H,hr,E,F⟩
   show Value.bool (decide _)=_
   congr 1
   unfold wX
   by_cases Z:c.num<2147483648<;>simp[G,Z]
  ·
   refine nE<|nE<|mO (oo rfl)<|mV<|mQ<|nQ<|nR [_] ⟨rfl,trivial⟩<|⟨?_,_,l4,p,H,hr,E,F⟩
   show Value.bool false=_
   congr 1
   unfold wX;rw[decide_eq_false eu]
theorem Lb (c : Ch) (hc : c.page.length = 512) (gb base m : Nat) (u : Value) (xs : List UInt8) (w : World) (hr : row w gb [u] 23) (hu : nY w base 5 1 u m (bv xs)) (hgb : gb < base) (hbw : base <= w.heap.size) (hm : m <= 1000000) :
  CQ 214 [.agg (rG c).toArray, .pointer (some ⟨gb, 0, none⟩)] w (λv w' => v = .bool (wX c.num) /\ (∃ u' l4, l4.length = 4 /\ (0 <= c.num -> l4 = nZ 4 c.num.toNat) /\ row w' gb [u'] 23 /\ nY w' base 5 1 u' (m + 516) (bv (xs ++ (l4 ++ c.page)))) /\ Below gb w w') :=
 (OO c hc gb base m u xs w hr hu hgb hbw hm).to λv w' ⟨h1, u', l4, h2, h3, h4, h5, h6⟩ => ⟨h1, ⟨u', l4, h2, h3, h4, h5⟩, h6.os, h6.tape, h6.output, h6.size, λi hi => h6.block i (Nat.lt_trans hi hr.lt) λhm => by
  rcases List.mem_cons.1 hm with e | e
  .omega
  .have := (hu.lt i (Option.mem_toList.1 e)).1
   omega⟩
def yw(R:Rec):List UInt8:=R.flatMap λc=>nZ 4 c.num.toNat++c.page
theorem Xo{R:Rec}(h:rT R):(yw R).length=516*R.length:=by
 induction R with
 |nil=>rfl
 |cons c R ih=>
  rw[yw,bN,aA,aA,ry,h c (aK ..),aD];have:=ih λx a=>h x (aj _ a)
  rw[yw]at this;omega
theorem zrl(R:Rec)(c:Ch):yw (R++[c])=yw R++(nZ 4 c.num.toNat++c.page):=by rw[yw,bO];simp[yw]
def yK(R:Rec):Bool:=decide (1<=R.length/\R.length<=60) && R.all λc=>wX c.num
theorem QJ{n:Nat}(h:1<=n/\n<=60):vo n=(qC (516*n):Nat)/\0<qC (516*n):=by
 rw[vo,if_pos eu,aR,dY n 516];exact⟨rfl,by unfold qC qw;omega⟩
theorem d_{n:Nat}(h:¬(1<=n/\n<=60)):vo n=0:=by rw[vo,if_neg eu]
theorem De(R:Rec)(hR:rT R)(p:Option Addr)(n cp:Nat)(w:World)(h:nC w p n 513 (pY R))(hn:R.length=n)(hn2:n<=1000000):
   CQ 155 [.slice p n cp] w (λv w'=>((yK R=true/\∃ g o c,v= .tuple #[.slice (some ⟨g,o,none⟩) (516*n) c, .int .i64 0]/\w.heap.size<=g/\516*n<=c/\nC w' (some ⟨g,o,none⟩) (516*n) 1 (bv (yw R)))\/(yK R=false/\v= .tuple #[.slice none 0 0, .int .i64 2]))/\Below w.heap.size w w'):=by
 have a:=Below.refl w.heap.size w;have a3:maxLen=9223372036854775807:=by decide
 refine nP (fn:=Tryz.f155) (rs:=[.tmp 2, .tmp 3]) (n:=25) Tryz.func155 rfl rfl Tryz.ntmps155 dA rfl<|mR<|mV<|mV<|mQ<|ng<|mR<|mP<|mO (oQ (e:=164) (sz:=513) dA rfl rfl)<|nD (Nq (n:Int) w) ?_
 rintro _ _ ⟨rfl,rfl⟩;refine mO (qy rfl rfl)<|mQ<|oP rfl (λB=>?_)<|λB=>?_
 ·
  refine mR<|mV<|mV<|mQ<|nQ<|qb<|nR [_,_] ⟨rfl,rfl,trivial⟩ ?_
  have s:¬(1<=n/\n<=60):=λl=>by have:=QJ l;omega
  exact⟨.inr ⟨by rw[yK,hn,decide_eq_false s];rfl,rfl⟩,a⟩
 ·
  have I:1<=n/\n<=60:=by
    by_cases l:1<=n/\n<=60
    · exact l
    · exact absurd (d_ l) B
  refine nL<|ny<|mR<|nz<|nU ([Value.slice none 0 0]) dA<|λq a4 a5 i J=>?_
  replace a:=a.acc J;refine pV<|mO (sV)<|mV<|mQ<|ng<|mR<|mP<|mO (oQ (e:=164) (sz:=513) dA rfl rfl)<|mP<|mQ<|oU ?_
  have a6:=i.lt;refine qZ (α:=Nat) 0 (λk=>[(15, .int .i64 (k:Nat)),(14, .int .i64 (n:Int)),(13, .slice p n cp),(5, .func (.func 214) #[] #[.pointer (some ⟨q,0,none⟩)]),(4, .pointer (some ⟨q,0,none⟩))])
    (λk w'=>k<=n/\(∃ u,row w' q [u] 23/\nY w' (q+1) 5 1 u (516*k) (bv (yw (R.take k))))/\(∀ j c,j<k->R[j]?=some c->wX c.num=true)/\Below w.heap.size w w') (λk=>n - k)
    ⟨rfl,rfl,rfl,rfl,rfl,rfl⟩ ⟨aC _,⟨_,i,ym _ _ _ _⟩,(by intro j c t;exact absurd t (gD _)),a⟩ ?_
  clear i a;rintro k f a7 ⟨a8,⟨u,i,m⟩,C,a⟩;refine mR<|mO (pE rfl rfl)<|mQ<|ng<|oP rfl (λK=>?_)<|λK=>?_
  ·
   refine lF ?_;have r:∃ c,R[k]?=some c:=⟨_,aI eu⟩;obtain⟨c,l⟩:=r;have D:=hR c (aN l);have a9:=Ba D;have hp:=h.below a (ax _);have r:=h.some eu;obtain⟨b0,op,rfl,b1⟩:=r;have L:R.take (k+1)=R.take k++[c]:=by rw[bf,l];rfl
   have b2:=DK c;have M:=λb e=>(m.lt b e).2
   refine nM<|mO (rE (e:=164) (sz:=513) dA rfl rfl k eu eu)<|mO (ou rfl (Np (h.below a (ax _)) hR l))<|nz<|nU (([Value.int .i64 0])++(List.replicate 512 (Value.int .u8 0))) dA<|λE b3 F v y=>?_
   have N:=ag a.size F;have O:q<E:=ae i.lt F;replace i:=i.new y;replace m:=m.new y;replace a:=a.acc y;have P:=m;refine nH<|nT 513 (rG c) v<|λQ v z=>?_
   replace i:=i.only z (ai O);replace a:=z.below a N;have S:=P.nu (Kp.rC z) (λb hb e=>by have b4:=M b e;have b5:b=E:=kG;omega);refine pV<|mP<|mO (oI 513 v) ?_
   have b6:=v.lt;have b7:=i.lt;refine qi rfl (uA dA rfl rfl) (Lb c D q (q+1) (516*k) u _ Q i S eu eu eu) ?_;rintro _ b8 ⟨rfl,⟨b9,c4,c5,T,i,G⟩,U⟩;replace a:=OQ a U eu;refine mO (sD rfl)<|mQ<|MU rfl (λs=>?_)<|λs=>?_
   ·
    refine mR<|mV<|mV<|mQ<|nQ<|tu<|qb<|Bc<|tu<|qb<|nR [_,_] ⟨rfl,rfl,trivial⟩<|⟨.inr ⟨?_,rfl⟩,a⟩
    have V:wX c.num=false:=by cases hx:wX c.num with|false=>rfl|true=>simp[hx]at s
    have X:R.all (λc=>wX c.num)=false:=by
      rw[iU];exact⟨c,aN l,by rw[V];simp⟩
    rw[yK,X,ed]
   ·
    have H:wX c.num=true:=by cases hx:wX c.num with|true=>rfl|false=>simp[hx]at s
    have Y:0<=c.num:=(of_decide_eq_true H).1;rw[T Y,<-zrl,<-L,show 516*k+516=516*(k+1) by omega]at G;refine nL<|pW<|ny<|nM<|mO (om rfl rfl (Coup.nN eu))<|mP<|oH<|oO ⟨k+1,eu,⟨by go_num,rfl,rfl,rfl,rfl,rfl⟩,eu,⟨_,i,G⟩,λj d t A=>?_,a⟩
    by_cases Z:j<k
    · exact C j d Z A
    · obtain rfl:j=k:=by omega
      rw[l]at A;cases A;exact H
  ·
   have a0:k=n:=by omega
   rw[a0,aP eu]at m;have a1:yK R=true:=by
     rw[yK,hn,decide_eq_true I,fI,dx];intro c l;have r:=iL l;obtain⟨j,t⟩:=r;exact C j c (by have:=(aO.1 t).1;omega) t
   have r:=m.form' eu;obtain⟨g,o,c,rfl,c6,c7,a2⟩:=r;have c8:=m.2;refine qP<|qL<|rf<|qX<|ny<|mR<|mO (mZ i)<|mV<|mV<|mQ<|nQ<|nR [_,_] ⟨rfl,rfl,trivial⟩<|⟨.inl ⟨a1,g,o,c,rfl,eu,a2,m.sl⟩,a⟩
def yN(b:List UInt8)(i:Nat):Ch:=⟨(qK ((b.drop (516*i)).take 4):Nat),(b.drop (516*i+4)).take 512⟩
def Aq(b:List UInt8)(n:Nat):Rec:=(List.range n).map (yN b)
def zw(b:List UInt8):Bool:=decide (b.length % 516=0) && decide (1<=b.length / 516/\b.length / 516<=60) && (Aq b (b.length / 516)).all λc=>wX c.num
def zk(b:List UInt8):Option Rec:=if zw b then some (Aq b (b.length / 516))else none
theorem zty(b:List UInt8)(n:Nat):Aq b (n+1)=Aq b n++[yN b n]:=by simp[Aq,gB]
theorem VV(b:List UInt8)(n:Nat):(Aq b n).length=n:=by simp[Aq]
theorem JN(b:List UInt8){n i:Nat}(h:i<n):(Aq b n)[i]?=some (yN b i):=by rw[Aq,aW,eQ h];rfl
theorem W_{b:List UInt8}{i:Nat}(h:516*i+516<=b.length):(yN b i).page.length=512:=by
 show((b.drop (516*i+4)).take 512).length=512;rw[aH,aL];omega
theorem Vy {ρ : Env} {w : World} {d : Option Nat} {ty : TypeId} {pos : String} {af : Array Edge} {gd : Option (Nat × Bool)} {x y : Operand} {a : Int} {l : List UInt8} {L : List Value} (hl : l.length = 512) (hL : rG ⟨a, l⟩ = L) (hx : ev ρ x = .int .i64 a) (hy : ev ρ y = .agg (bv l).toArray) :
  (execOp (ev ρ) ⟨d, .build 164 #[(0, x), (1, y)], ty, pos, af, gd⟩).run Tryz.prog w = .ok (.value (.agg L.toArray)) w := by
 rw [<- hL]
 have h := UD (P := Tryz.prog) (t := 164) (ρ := ρ) (w := w) (d := d) (ty := ty) (pos := pos) (af := af) (gd := gd) (k := 513) (parts := [(0, x), (1, y)]) [(0, .int .i64 a), (1, .agg (bv l).toArray)] [(0, 1), (1, 512)] (by kernel_rfl) (by kernel_rfl) (by simp [hx, hy])
  (by
   intro i hi
   rcases i with _ | _ | i
   .simp [Value.cells]
   .simp [Value.cells, oh, hl]
   .exfalso; simp only [List.length_cons, List.length_nil] at hi; omega) (by simp [Value.cells, oh, hl])
 rw [h]
 simp [Value.cells, rG]
theorem VB(b:List UInt8)(p:Option Addr)(n cp:Nat)(w:World)(h:nC w p n 1 (bv b))(hcp:n<=cp)(hn2:n<=1000000):
   CQ 233 [.slice p n cp] w (λv w'=>((∃ r g o c,zk b=some r/\v= .tuple #[.slice (some ⟨g,o,none⟩) r.length c, .int .i64 0]/\w.heap.size<=g/\r.length<=c/\nC w' (some ⟨g,o,none⟩) r.length 513 (pY r))\/(zk b=none/\v= .tuple #[.slice none 0 0, .int .i64 4]))/\Below w.heap.size w w'):=by
 have a:=Below.refl w.heap.size w;have b8:maxLen=9223372036854775807:=by decide
 have v:b.length=n:=by simpa [oh]using h.len
 refine nP (fn:=Tryz.f233) (rs:=[.tmp 2, .tmp 3]) (n:=51) Tryz.func233 rfl rfl Tryz.ntmps233 dA rfl<|mR<|mV<|mV<|mQ<|ng<|mR<|mP<|mO (oQ (e:=5) (sz:=1) dA rfl rfl)<|mO (Ux rfl rfl eu eu)<|mO (oD rfl rfl)<|mP<|ui 11 rfl (λY=>?_)<|λY=>?_
 ·
  refine nE<|nE<|nE<|nE<|nE<|mO (pO rfl)<|mQ<|uC rfl (rfl)<|mR<|mV<|mV<|mQ<|nQ<|qb<|nR [_,_] ⟨rfl,rfl,trivial⟩ ?_
  exact⟨.inr ⟨by rw[zk,zw,v,decide_eq_false eu];rfl,rfl⟩,a⟩
 ·
  refine mY<|mP<|mY<|mO (oQ (e:=5) (sz:=1) dA rfl rfl)<|mY<|mO (Ns rfl rfl eu eu)<|mY<|nD (Nq ((n:Int) / 516) w) ?_
  rintro _ _ ⟨rfl,rfl⟩;refine mY<|mO (qy rfl rfl)<|mO (oo rfl)<|mQ<|oP rfl (λy=>?_)<|λy=>?_
  ·
   refine mR<|mV<|mV<|mQ<|nQ<|qb<|nR [_,_] ⟨rfl,rfl,trivial⟩ ?_
   have A:¬(1<=n / 516/\n / 516<=60):=λl=>by have:=QJ l;rw[show((n / 516:Nat):Int)=(n:Int) / 516 by omega]at this;omega
   exact⟨.inr ⟨by rw[zk,zw,v,decide_eq_false A];simp,rfl⟩,a⟩
  ·
   have I:1<=n / 516/\n / 516<=60:=by
     by_cases l:1<=n / 516/\n / 516<=60
     · exact l
     · have:=d_ l
       rw[show((n / 516:Nat):Int)=(n:Int) / 516 by omega]at this;exact absurd this y
   have Z:∃ m,n=516*m:=⟨n / 516,eu⟩;obtain⟨m,b9⟩:=Z;have J:n / 516=m:=by omega
   rw[J]at I;refine nL<|ny<|mR<|mV<|mQ<|ng<|mR<|mV<|oH<|ny<|oU ?_
   refine qZ (α:=Nat × Value) (0, .slice none 0 0) (λk=>[(5, .int .i64 ((516*k.1:Nat):Int)),(4,k.2),(0, .slice p n cp)])
     (λk w'=>k.1<=m/\nY w' w.heap.size 164 513 k.2 k.1 (pY (Aq b k.1))/\(∀ j,j<k.1->wX (yN b j).num=true)/\Below w.heap.size w w') (λk=>m - k.1)
     ⟨rfl,rfl,rfl,rfl⟩ ⟨aC _,ym _ _ _ _,(by intro j s;exact absurd s (gD _)),a⟩ ?_
   clear a;rintro⟨k,u⟩ f K ⟨a0,q,B,a⟩;dsimp only at a0 q B |-;refine ng<|mR<|mP<|mP<|mO (oQ (e:=5) (sz:=1) dA rfl rfl)<|mO (pE rfl rfl)<|mQ<|oP rfl (λa1=>?_)<|λa1=>?_
   ·
    refine lF ?_;have a2:=h.below a (ax _);have D:=h.some eu;obtain⟨L,op,rfl,c4⟩:=D;have a3:=a2.Eh (516*k) 4 eu;have a4:=W_ (b:=b) (i:=k) eu;obtain⟨x,r⟩:=aa (qK ((b.drop (516*k)).take 4));have c5:x<4294967296:=by rw[<-r];exact Cw _ 4 jQ
    have M:=λc=>TW (some ⟨L,op+516*k,none⟩) 4 c _ K a3 eu
    simp only[r]at M;refine nM<|mP<|mP<|mP<|mO (om rfl rfl (Coup.nN eu))<|mP<|mO (om rfl rfl (Coup.nN eu))<|mO (II (e:=5) (516*k) (516*k+4) (516*k+4) (4) dA rfl ⟨_,_,rfl,eu⟩ ⟨_,_,rfl,eu⟩ ⟨_,_,rfl,eu⟩ ig eu eu eu eu eu)<|nD (M _) ?_
    rintro _ _ ⟨rfl,rfl⟩;refine mV<|mQ<|ng<|mR<|mP<|mO (tN rfl rfl)<|mQ<|oP rfl (λa5=>?_)<|λa5=>?_
    ·
     refine mR<|mV<|mV<|mQ<|nQ<|qb<|tu<|qb<|Bc<|tu<|qb<|nR [_,_] ⟨rfl,rfl,trivial⟩ ?_
     have A:¬(wX (yN b k).num=true):=λl=>by
       have y:=(of_decide_eq_true l).2;have N:(yN b k).num=(x:Int):=by rw[<-r];rfl
       omega
     have E:zk b=none:=by
       have F:(Aq b (b.length / 516)).all (λc=>wX c.num)=false:=by
         rw[iU];exact⟨yN b k,aN (JN b (n:=b.length / 516) (i:=k) eu),A⟩
       rw[zk,zw,F,ed];rfl
     exact⟨.inr ⟨E,rfl⟩,a⟩
    ·
     have O:wX (yN b k).num=true:=by
       have N:(yN b k).num=(x:Int):=by rw[<-r];rfl
       rw[wX,N];exact decide_eq_true eu
     have a6:((bv b).drop (516*k+4)).take 512=bv (yN b k).page:=by rw[<-Al,<-Ee];rfl
     have G:(yN b k).page.length=512:=a4;have Q:rG ⟨(x:Int),(yN b k).page⟩=rG (yN b k):=by rw[<-r];rfl
     have R:Ld Tryz.prog K 121 ⟨L,op+(516*k+4),none⟩ (.agg (bv (yN b k).page).toArray):=by
       have S:=Ld.zB (P:=Tryz.prog) (t:=121) (j:=516*k+4) (k:=512) (h.below a (ax _)) dA dA (by rw[oh];omega);rw[a6]at S;exact S
     have T:=zty b k;obtain⟨C,U⟩:=aa (yN b k);rw[U]at T R G Q O;have a7:=Ba G;have a8:=DK C;refine nL<|ny<|nM<|mP<|mP<|mO (rz (k:=.i64) dA dA rfl (show IntKind.i64.wrap (x:Int)=(x:Int) by rw[nN eu]))<|mP<|mP<|mO (om rfl rfl (Coup.nN eu))<|mP<|mO (om rfl rfl (Coup.nN eu))<|mP<|mO (om rfl rfl (Coup.nN eu))<|mO (II (e:=5) (516*k+4) (516*k+516) (516*k+516) (512) dA rfl ⟨_,_,rfl,eu⟩ ⟨_,_,rfl,eu⟩ ⟨_,_,rfl,eu⟩ ig eu eu eu eu eu)<|mO (D_ (n:=512) (e:=5) (sz:=1) dA rfl eu)<|mO (ou rfl (R))<|mO (Vy G Q rfl rfl)<|nz<|uE (e:=164) (.agg (rG C).toArray) (rG C) (([Value.int .i64 0])++(List.replicate 512 (Value.int .u8 0))) 513 dA dA rfl rfl iw ⟨iT,iT⟩<|λc6 c7 a9 b0 V=>?_
     have c8:=ag a.size a9;replace q:=q.new V;replace a:=a.acc V;have b1:=b0.ul (m:=1) (sz:=513) a7 eu;have c9:=a.size;refine nz<|uf (e:=164) (sz:=513) (bytes:=520) (z:=.agg (([Value.int .i64 0])++(List.replicate 512 (Value.int .u8 0))).toArray) dA rfl dA rfl iT rfl q rfl b1 a8 jo eu (λd0=>eu)<|λb2 d1 X b3 d2=>?_
     replace a:=a.own q b3 eu;refine mV<|oH<|pW<|ny<|nM<|mP<|mO (om rfl rfl (Coup.nN eu))<|mV<|oH ?_
     rw[<-Rv,<-T]at X;refine oO ⟨(k+1,b2),eu,⟨by go_num,rfl,rfl,rfl⟩,eu,X,λj s=>?_,a⟩
     by_cases b4:j<k
     · exact B j b4
     · obtain rfl:j=k:=by omega
       rw[U];exact O
   ·
    have b5:k=m:=by omega
    subst b5;have E:zk b=some (Aq b k):=by
      have F:(Aq b k).all (λc=>wX c.num)=true:=by
        rw[dx];intro c l;obtain⟨j,s,rfl⟩:=bB.1 l;exact B j<|cz.1 s
      rw[zk,zw,v,J,F,decide_eq_true (by omega:n % 516=0),decide_eq_true I];rfl
    have H:=VV b k;have D:=q.form' eu;obtain⟨g,o,c,rfl,b6,d3,b7⟩:=D;refine qP<|qL<|rf<|qX<|ny<|mR<|mP<|mV<|mV<|mQ<|nQ<|nR [_,_] ⟨rfl,rfl,trivial⟩ ?_
    exact⟨.inl ⟨_,g,o,c,E,by rw[H];rfl,b6,by rw[H];exact b7,by rw[H];exact q.sl⟩,a⟩
end Go.Proofs.YtpaniebomegnbaaGreat
namespace Coup
open Go Go.RowKit
section
variable {P:Program}{ρ:Env}{w:World}{d:Option Nat}{ty:TypeId}{pos:String}{af:Array Edge}{gd:Option (Nat × Bool)}{K:Value->World->Prop}
theorem ztz {dT sT e:Nat} {x y:Operand} {dLen dCap:Nat} (cs:List UInt8) (hu:P.underlying dT=some (.slice e)) (hsz:vM P e 1=true) (g off:Nat) (hd:ev ρ x= .slice (some ⟨g,off,none⟩) dLen dCap) (hs:ev ρ y=strOf cs)
  {l:List Value} {t:Nat} (hr:row w g l t) (hle:cs.length<=dLen) (hfit:off+cs.length<=l.length)
  (h:∀ w',row w' g (splice l off (bv cs)) t->Only g w w'->K (goInt cs.length) w'):Mk P ρ w ⟨d, .call ⟨.builtin .copy,#[x,y],#[dT,sT]⟩,ty,pos,af,gd⟩ K:=by
 have a:ByteArray.size ⟨cs.toArray⟩=cs.length:=by simp[ByteArray.size]
 have c:=Go.Lib.run_copy_row_string (P:=P) w dT sT ty e g off dLen dCap ⟨cs.toArray⟩ l.toArray t hu (Rc hsz) hr (by rw[a];exact hle) (by rw[a];simpa using hfit);rw[a]at c;have f:(l.toArray.toList.take off++Go.Lib.byteCells (ByteArray.data ⟨cs.toArray⟩).toList++l.toArray.toList.drop (off+cs.length))=splice l off (bv cs):=by
  rw[splice,oh,aG];simp[Go.Lib.byteCells,bv,uk]
 rw[f]at c;refine⟨_,_,?_,h _ (by simpa [row]using setRow_heap w g _ _ t _ hr) (Only.setRow _)⟩;simp only[strOf]at hs;simp[execOp,resolve,invoke,builtin,hd,hs,c,Result.andThen]
end
end Coup
namespace Go.Proofs.YtpaniebomegnbaaGreat
open Go Go.RowKit Coup
def qU:List UInt8:=[67,80,76,71]
def uh(c s:Nat):List UInt8:=qU++(nZ 8 c++(nZ 8 s++pq 108))
theorem ZG(c s:Nat):(uh c s).length=128:=by simp[uh,qU,ry,pq]
def hdF(c s i j:Nat):UInt8:=if j<4 then qU.getD j 0 else if j<12 then(if j - 4<i then(nZ 8 c).getD (j - 4) 0 else 0)else if j<20 then(if j - 12<i then(nZ 8 s).getD (j - 12) 0 else 0)else 0
def Bl(c s i:Nat):List UInt8:=(List.range 128).map (hdF c s i)
theorem TK(c s i j:Nat):(Bl c s i)[j]?=if j<128 then some (hdF c s i j)else none:=by
 rw[Bl,aW]
 by_cases a:j<128
 .rw[eQ a,if_pos a];rfl
 .rw[bQ (by rw[gV];omega),if_neg a];rfl
theorem Sv(c s i:Nat):(Bl c s i).length=128:=by simp[Bl]
theorem Xw{x j:Nat}(h:j<8):(nZ 8 x)[j]?=some ((nZ 8 x).getD j 0):=by
 rw[bI,aI (by rw[ry];exact h)];rfl
theorem zrn(c s:Nat):Bl c s 8=uh c s:=by
 refine dV λj=>?_
 rw[TK];unfold uh hdF
 by_cases a:j<4
 .rw[if_pos eu,if_pos a,bG (by simpa [qU]using a)]
  match j,a with
  |0,_=>rfl
  |1,_=>rfl
  |2,_=>rfl
  |3,_=>rfl
 .rw[bC (by simp[qU];omega),show qU.length=4 from rfl,if_neg a]
  by_cases c:j<12
  .rw[if_pos eu,if_pos c,if_pos eu,bG kN,Xw eu]
  .rw[if_neg c,bC kN,ry,show j - 4 - 8=j - 12 by omega]
   by_cases e:j<20
   .rw[if_pos eu,if_pos e,if_pos eu,bG kN,Xw eu]
   .rw[if_neg e,bC kN,ry]
    by_cases f:j<128
    .rw[if_pos f,pq,iM,if_pos eu]
    .rw[if_neg f,pq,iM,if_neg eu]
theorem zro(c s:Nat):splice (List.replicate 128 (Value.int .u8 0)) 0 (bv qU)=bv (Bl c s 0):=by
 have e:splice (List.replicate 128 (Value.int .u8 0)) 0 (bv qU)=bv (qU++pq 124):=by
  simp only[splice,dw,aV,bg,oh,wK,Nk];rw[show qU.length=4 from rfl,iR];rfl
 rw[e]
 congr 1
theorem ztA(c s i:Nat)(h:i<8):((Bl c s i).set (4+i) ((nZ 8 c).getD i 0)).set (12+i) ((nZ 8 s).getD i 0)=Bl c s (i+1):=by
 refine dV λj=>?_
 rw[eO,bq,Sv,eO,Sv,TK,TK];unfold hdF
 by_cases h:12+i=j
 .subst h
  rw[if_pos rfl,if_pos eu,if_pos eu,if_neg eu,if_neg eu,if_pos eu,if_pos eu,gz]
 .rw[if_neg h]
  by_cases k:4+i=j
  .subst k
   rw[if_pos rfl,if_pos eu,if_pos eu,if_neg eu,if_pos eu,if_pos eu,gz]
  .rw[if_neg k]
   by_cases c:j<128
   .rw[if_pos c,if_pos c]
    congr 1
    by_cases e:j<4
    .rw[if_pos e,if_pos e]
    .rw[if_neg e,if_neg e]
     by_cases f:j<12
     .rw[if_pos f,if_pos f]
      by_cases a:j - 4<i
      .rw[if_pos a,if_pos eu]
      .rw[if_neg a,if_neg eu]
     .rw[if_neg f,if_neg f]
      by_cases g:j<20
      .rw[if_pos g,if_pos g]
       by_cases a:j - 12<i
       .rw[if_pos a,if_pos eu]
       .rw[if_neg a,if_neg eu]
      .rw[if_neg g,if_neg g]
   .rw[if_neg c,if_neg c]
theorem Yl{x i:Nat}(h:i<8)(s:Int)(hs:s=((56 - 8*i:Nat):Int)):IntKind.u8.wrap ((x:Int) / 2 ^ (56 - 8*i))=(((nZ 8 x).getD i 0).toNat:Int):=by
 have a:=zoN x (8 - 1 - i);rw[bI,XF 8 x i h];rw[show 56 - 8*i=8*(8 - 1 - i) by omega,IntKind.wrap_u8]
 injection a
theorem BX(l:List UInt8)(i:Nat)(b:UInt8):(bv l).set i (.int .u8 (b.toNat:Int))=bv (l.set i b):=by simp[bv,fZ,uk]
theorem YW(c s:Nat)(w:World)(hc:c<18446744073709551616)(hs:s<18446744073709551616):
   CQ 229 [.agg #[.int .u64 c, .int .u64 s]] w (λv w'=>v= .agg (bv (uh c s)).toArray/\Below w.heap.size w w'):=by
 have a:=Below.refl w.heap.size w;refine nP (fn:=Tryz.f229) (rs:=[.cell 2 265]) (n:=31) Tryz.func229 rfl rfl Tryz.ntmps229 dA rfl<|mR<|nz<|oV ([.int .u64 c, .int .u64 s]) rfl<|λo w1 Q h G=>?_
 replace a:=a.acc G;refine nz<|nU (List.replicate 128 (Value.int .u8 0)) dA<|λj w2 z g A=>?_
 have p:=ag a.size z;have q:o<j:=ae h.lt z;replace h:=h.new A;replace a:=a.acc A;refine pV<|mO (xQ (e:=5) (n:=128) (0) (128) (128) (128) dA rfl rfl rfl rfl ig eu eu eu eu eu)<|nz<|ztz (e:=5) qU dA dA j 0 rfl rfl g iT (by simp[qU])<|λR g B=>?_
 replace h:=h.only B (ai q);replace a:=B.below a p;rw[zro c s]at g;refine mQ<|ng<|mR<|mP<|mQ<|oU ?_
 refine qZ (α:=Nat) 0 (λi=>[(6, .int .i64 (i:Nat)),(1, .pointer (some ⟨o,0,none⟩)),(2, .pointer (some ⟨j,0,none⟩))])
   (λi w'=>i<=8/\row w' o [.int .u64 c, .int .u64 s] 229/\row w' j (bv (Bl c s i)) 265/\Below w.heap.size w w') (λi=>8 - i)
   ⟨rfl,rfl,rfl,rfl⟩ ⟨aC _,h,g,a⟩ ?_
 clear h g a;rintro i f S ⟨T,h,g,a⟩;have U:o≠j:=by omega
 have r:(bv (Bl c s i)).length=128:=by rw[oh];exact Sv _ _ _
 refine mR<|mO (pE rfl rfl)<|mQ<|ng<|oP rfl (λH=>?_)<|λH=>?_
 ·
  refine nL<|ny<|ng<|oU<|mR<|mP<|mV<|mQ ?_
  obtain⟨L,l⟩:=aa (Bl c s i);have I:=Yl (x:=c) (i:=i) eu _ rfl;have J:=Yl (x:=s) (i:=i) eu _ rfl;have C:=ztA c s i eu;have V:L.length=128:=by rw[<-l];exact Sv _ _ _
  rw[l]at g r C;refine qz [j] dA ?_;intro X t K;replace h:=h.new t;replace g:=g.new t;replace a:=a.acc t;have D:=h;refine mU 0 (nK)<|mU 1 (om rfl rfl (Coup.nN eu))<|mU 2 (nK)<|mU 3 (om rfl rfl (Coup.nN eu))<|mU 4 (nk 0)<|nI 5 (λw' u=>mZ (D.kq u))<|mU 6 (nK)<|mU 7 (yD rfl rfl (Coup.nN eu))<|mU 8 (vE rfl rfl (Coup.nN eu))<|mU 9 (wQ rfl rfl eu (KN (56 - 8*i) eu eu))<|mU 10 (rz (k:=.u8) dA dA rfl I)<|mU 11 (nk 1)<|nI 12 (λw' u=>mZ (D.kq u))<|mU 13 (nK)<|mU 14 (yD rfl rfl (Coup.nN eu))<|mU 15 (vE rfl rfl (Coup.nN eu))<|mU 16 (wQ rfl rfl eu (KN (56 - 8*i) eu eu))<|mU 17 (rz (k:=.u8) dA dA rfl J)<|mU 18 (Ai (e:=5) (m:=128) dA rfl rfl (4+i) eu eu)<|nS 19 dA<|qR rfl rfl<|oW g<|λY g v=>?_
  have E:=K.aq v;refine⟨E,?_⟩;replace h:=h.only v (ai q);replace a:=v.below a p;refine mU 20 (Ai (e:=5) (m:=128) dA rfl rfl (12+i) eu eu)<|nS 21 dA<|qR rfl rfl<|oW g<|λM g y=>?_
  have N:=E.aq y;refine⟨N,?_⟩;replace h:=h.only y (ai q);replace a:=y.below a p;refine oL dA<|pW<|ny<|nM<|mO (om rfl rfl (Coup.nN eu))<|mP<|oH ?_
  have F:row M j (((bv L).set (0+(4+i)) (.int .u8 (((nZ 8 c).getD i 0).toNat:Int))).set (0+(12+i)) (.int .u8 (((nZ 8 s).getD i 0).toNat:Int))) 265:=g;rw[bg,bg,BX,BX,C]at F;refine oO ⟨i+1,eu,⟨by go_num,rfl,rfl,rfl⟩,eu,h,F,a⟩
 ·
  have O:i=8:=by omega
  subst O;rw[zrn]at g;rw[zrn]at r;obtain⟨L,l⟩:=aa (uh c s);rw[l]at g r;rw[l];refine qP<|qL<|rf<|qX<|ny<|mR<|mO (oI 128 g)<|nH<|nT 128 (bv L) g<|λZ g P=>?_
  replace a:=P.below a p;refine mQ<|nQ<|nR [_] ⟨⟨_,rfl,Ld.qp (k:=128) g dA dA gp⟩,trivial⟩ ?_
  exact⟨rfl,a⟩
def rY(s:List UInt8):Nat:=qK ((s.drop 4).take 8)
def sZ(s:List UInt8):Nat:=qK ((s.drop 12).take 8)
def zS(s:List UInt8):Bool:=decide (Af s rR=uh (rY s) (sZ s)) && decide (1<=sZ s) && decide (sZ s<=rY s) && decide (rY s<=4611686018427387904)
theorem Hd(a b:List UInt8)(ha:a.length=128)(hb:b.length=128)(w:World):CQ 231 [.agg (bv a).toArray, .agg (bv b).toArray] w (λv w'=>v= .agg (bv (Af a b)).toArray/\Below w.heap.size w w'):=EE (LF a b ha hb w)
theorem ztB(s:List UInt8)(w:World)(hs:s.length=128):
   CQ 186 [.agg (bv s).toArray] w (λv w'=>v= .tuple #[.agg #[.int .u64 (rY s), .int .u64 (sZ s)], .bool (zS s)]/\Below w.heap.size w w'):=by
 have a:=Below.refl w.heap.size w;have b5:maxLen=9223372036854775807:=by decide
 have b6:(bv s).length=128:=by rw[oh];exact hs
 have N:rY s<18446744073709551616:=Cw _ 8 jQ;have O:sZ s<18446744073709551616:=Cw _ 8 jQ;obtain⟨Z,P,Q,R⟩:=TV;refine nP (fn:=Tryz.f186) (rs:=[.cell 2 229, .tmp 3]) (n:=36) Tryz.func186 rfl rfl Tryz.ntmps186 dA rfl<|mR<|nz<|oV ((bv s)) rfl<|λS w1 b7 g U=>?_
 replace a:=a.acc U;refine nz<|nU ([Value.int .u64 0,Value.int .u64 0]) dA<|λV w2 X c z=>?_
 have l:=ag a.size X;replace g:=g.new z;replace a:=a.acc z;refine mV<|mQ<|ng<|qz [] dA ?_
 intro b8 u Y;replace g:=g.new u;replace c:=c.new u;replace a:=a.acc u;have A:=g;refine mU 0 (xQ (e:=5) (n:=128) (4) (12) (128) (8) dA rfl ⟨_,_,rfl,rfl⟩ ⟨_,_,rfl,rfl⟩ rfl ig eu eu eu eu eu)<|yM 1 dA rfl (λ_=>nX dA rfl) (λw' f=>TW _ 8 _ _ w' ((A.kq f).Tn 4 8 eu eu) eu)<|mU 2 (xQ (e:=5) (n:=128) (12) (20) (128) (8) dA rfl ⟨_,_,rfl,rfl⟩ ⟨_,_,rfl,rfl⟩ rfl ig eu eu eu eu eu)<|yM 3 dA rfl (λ_=>nX dA rfl) (λw' f=>TW _ 8 _ _ w' ((A.kq f).Tn 12 8 eu eu) eu)<|mU 4 (SL (k0:=.u64) (k1:=.u64) dA dA rfl rfl)<|nS 5 dA<|qJ rfl rfl<|nU ([Value.int .u64 0,Value.int .u64 0]) dA<|λB b9 v h m=>?_
 have C:=Y.add0 m;refine⟨C,?_⟩;have a0:=ag a.size v;have a1:S<B:=ae g.lt v;have a2:V<B:=ae c.lt v;replace g:=g.new m;replace c:=c.new m;replace a:=a.acc m;refine nS 6 dA<|qR rfl rfl<|nT 2 ([.int .u64 (rY s), .int .u64 (sZ s)]) h<|λc4 h o=>?_
 have a3:=C.aq o;refine⟨a3,?_⟩;replace g:=g.only o (ai a1);replace c:=c.only o (ai a2);replace a:=o.below a a0;refine oL dA<|ny<|ng<|qz [] dA ?_
 intro a4 p a5;replace g:=g.new p;replace c:=c.new p;replace h:=h.new p;replace a:=a.acc p;have a6:=g;have i:=h;refine nI 0 (λw' f=>oI 128 (a6.kq f))<|mU 1 (Ae (bv Z) (by rw[<-Q];kernel_rfl))<|nI 3 (λw' f=>oI 2 (i.kq f))<|nS 2 dA ?_
 have D:Z.length=128:=by rw[<-oh];exact R
 have E:=λw'=>Hd s Z hs D w'
 have F:=YJ s Z hs D;have G:=λw'=>YW (rY s) (sZ s) w' N O
 have I:=ZG (rY s) (sZ s);obtain⟨T,J⟩:=aa (Af s Z);obtain⟨H,K⟩:=aa (uh (rY s) (sZ s));rw[J]at E F;rw[K]at G I;have q:zS s=(decide (T=H) && decide (1<=sZ s) && decide (sZ s<=rY s) && decide (rY s<=4611686018427387904)):=by rw[zS,P,J,K]
 refine qf rfl rfl (nX dA rfl) (E a4) ?_;rintro _ a7 ⟨rfl,r⟩;have L:=a5.add0 r;refine⟨L,?_⟩;replace c:=c.new r;replace h:=h.new r;replace a:=a.acc r;refine nS 4 dA<|qf rfl rfl (nX dA rfl) (G a7) ?_
 rintro _ c5 ⟨rfl,t⟩;have a8:=L.add0 t;refine⟨a8,?_⟩;replace c:=c.new t;replace h:=h.new t;replace a:=a.acc t;refine mU 5 (VA (n:=128) dA rfl rfl F I)<|mU 6 (nK)<|DJ 17 rfl (λy=>?_)<|λy=>?_
 ·
  refine mU 7 (nk 1)<|nI 8 (λw' f=>mZ (i.kq f))<|mU 9 (tN rfl rfl)<|mU 10 (pO rfl)<|mU 11 (nK)<|DJ 22 rfl (λa9=>?_)<|λa9=>?_
  ·
   refine mU 12 (nk 1)<|nI 13 (λw' f=>mZ (i.kq f))<|mU 14 (nk 0)<|nI 15 (λw' f=>mZ (i.kq f))<|mU 16 (Kl rfl rfl)<|mU 17 (pO rfl)<|mU 18 (nK)<|DJ 29 rfl (λb0=>?_)<|λb0=>?_
   ·
    refine mU 19 (nk 0)<|nI 20 (λw' f=>mZ (i.kq f))<|mU 21 (Kl rfl rfl)<|mU 22 (pO rfl)<|mU 23 (rA)<|oL dA<|ny<|mR<|mO (oI 2 h)<|mP<|nH<|nT 2 ([.int .u64 (rY s), .int .u64 (sZ s)]) c<|λc6 c b1=>?_
    replace a:=b1.below a l;refine mV<|mQ<|nQ<|nR [_,_] ⟨⟨_,rfl,Ld.qp (k:=2) c dA dA gp⟩,rfl,trivial⟩<|⟨?_,a⟩
    rw[q];rw[decide_eq_true y,decide_eq_true (show 1<=sZ s by omega),decide_eq_true (show sZ s<=rY s by omega)];have e:decide ((rY s:Int)<=4611686018427387904)=decide (rY s<=4611686018427387904):=by
     by_cases M:rY s<=4611686018427387904
     .rw[decide_eq_true M,decide_eq_true eu]
     .rw[decide_eq_false M,decide_eq_false eu]
    rw[<-e]
    rfl
   ·
    have j:zS s=false:=by rw[q,decide_eq_false (show¬sZ s<=rY s by omega),ed,fC]
    refine oK 19 dA rfl<|oK 20 dA rfl<|oK 21 dA rfl<|mU 22 (oo rfl)<|mU 23 (rA)<|oL dA<|ny<|mR<|mO (oI 2 h)<|mP<|nH<|nT 2 ([.int .u64 (rY s), .int .u64 (sZ s)]) c<|λc7 c b2=>?_
    replace a:=b2.below a l;refine mV<|mQ<|nQ<|nR [_,_] ⟨⟨_,rfl,Ld.qp (k:=2) c dA dA gp⟩,rfl,trivial⟩<|⟨?_,a⟩
    rw[j]
    rfl
  ·
   have j:zS s=false:=by rw[q,decide_eq_false (show¬1<=sZ s by omega),ed,fC,fC]
   refine oK 12 dA rfl<|oK 13 dA rfl<|oK 14 dA rfl<|oK 15 dA rfl<|oK 16 dA rfl<|mU 17 (oo rfl)<|mU 18 (nK)<|oK 19 dA rfl<|oK 20 dA rfl<|oK 21 dA rfl<|mU 22 (oo rfl)<|mU 23 (rA)<|oL dA<|ny<|mR<|mO (oI 2 h)<|mP<|nH<|nT 2 ([.int .u64 (rY s), .int .u64 (sZ s)]) c<|λc8 c b3=>?_
   replace a:=b3.below a l;refine mV<|mQ<|nQ<|nR [_,_] ⟨⟨_,rfl,Ld.qp (k:=2) c dA dA gp⟩,rfl,trivial⟩<|⟨?_,a⟩
   rw[j]
   rfl
 ·
  have j:zS s=false:=by rw[q,decide_eq_false y,fC,fC,fC]
  refine oK 7 dA rfl<|oK 8 dA rfl<|oK 9 dA rfl<|mU 10 (oo rfl)<|mU 11 (nK)<|oK 12 dA rfl<|oK 13 dA rfl<|oK 14 dA rfl<|oK 15 dA rfl<|oK 16 dA rfl<|mU 17 (oo rfl)<|mU 18 (nK)<|oK 19 dA rfl<|oK 20 dA rfl<|oK 21 dA rfl<|mU 22 (oo rfl)<|mU 23 (rA)<|oL dA<|ny<|mR<|mO (oI 2 h)<|mP<|nH<|nT 2 ([.int .u64 (rY s), .int .u64 (sZ s)]) c<|λc9 c b4=>?_
  replace a:=b4.below a l;refine mV<|mQ<|nQ<|nR [_,_] ⟨⟨_,rfl,Ld.qp (k:=2) c dA dA gp⟩,rfl,trivial⟩<|⟨?_,a⟩
  rw[j]
  rfl
def Bz(i:Int):Prop:=-9223372036854775808<=i/\i<=9223372036854775807
def Aa(all:Nat)(n:Int):Bool:=decide (4<=n/\n<=4000/\1+n<=all)
section
variable {Y:World->List Nat->Prop}{g lo:Nat}{L:List Nat}{D:Dk}{w:World}
theorem Hy(h:Two (DZ g D) Y lo L w)(n:Int)(hn:Bz n):CQ 183 [.pointer (some ⟨g,0,none⟩), .int .i64 n] w (λv w'=>v= .int .i64 (if Aa D.V.length n then 0 else 2)/\w=w'):=by
 have c:=WK h;have hp:=(yV h).2;have i:=(yV h).1.n;have j:=hn.1;have k:=hn.2;refine nP (fn:=Tryz.f183) (rs:=[.tmp 4]) (n:=23) Tryz.func183 rfl rfl Tryz.ntmps183 dA rfl<|mR<|mV<|mQ<|ng<|oU<|mR<|mP<|nD (c) ?_
 rintro _ _ ⟨rfl,rfl⟩;refine mO (qy rfl rfl)<|mV<|mQ<|pJ rfl (eu)<|mR<|mP<|mO (pE rfl rfl)<|mP<|ui 12 rfl (λe=>?_)<|λe=>?_
 ·
  refine nE<|nE<|mO (pO rfl)<|mP<|nE<|nE<|nE<|nE<|nE<|mO (pO rfl)<|mV<|oH<|ny<|uC rfl (rfl)<|mR<|mV<|mQ<|nQ<|tu<|qb<|nR [_] ⟨rfl,trivial⟩ ?_
  have a:Aa D.V.length n=false:=decide_eq_false eu;exact⟨by rw[a];rfl,rfl⟩
 ·
  refine mY<|mP<|mY<|mO (rq rfl rfl)<|mO (oo rfl)<|mP<|ui 16 rfl (λf=>?_)<|λf=>?_
  ·
   refine nE<|nE<|nE<|nE<|nE<|mO (pO rfl)<|mV<|mQ<|uC rfl (rfl)<|mR<|mV<|mQ<|nQ<|tu<|qb<|nR [_] ⟨rfl,trivial⟩ ?_
   have a:Aa D.V.length n=false:=decide_eq_false eu;exact⟨by rw[a];rfl,rfl⟩
  ·
   refine mY<|mP<|mY<|nD c ?_
   rintro _ _ ⟨rfl,rfl⟩;refine mY<|mP<|mY<|mO (om rfl rfl (Coup.nN eu))<|mY<|mO (pE rfl rfl)<|mO (oo rfl)<|mV<|mQ<|oP rfl (λg=>?_)<|λg=>?_
   ·
    refine lL ?_;have a:Aa D.V.length n=false:=decide_eq_false eu;exact⟨by rw[a];rfl,rfl⟩
   ·
    refine lM ?_;have a:Aa D.V.length n=true:=decide_eq_true eu;exact⟨by rw[a];rfl,rfl⟩
end
section
variable {Y:World->List Nat->Prop}[mW Y]{g lo:Nat}{L:List Nat}{D:Dk}{w:World}
def tV(D:Dk)(c s:Nat):Dk:=if qB D then su (ug D 0 (uh c s))else ug D 0 (uh c s)
theorem BP(h:Two (DZ g D) Y lo L w)(c s:Nat)(hc:c<18446744073709551616)(hs:s<18446744073709551616)(hsh:sK D 90000):
   CQ 184 [.pointer (some ⟨g,0,none⟩), .agg #[.int .u64 c, .int .u64 s]] w (λv w'=>v= .int .i64 (if qB D && qB (ug D 0 (uh c s))then 0 else 10)/\Two (DZ g (tV D c s)) Y lo L w'/\mX lo L w w'):=by
 have a:=h;have e:=mX.refl lo L w;have q:xy D 0=true:=decide_eq_true ⟨eu,by have:=(yV h).2;omega⟩;have i:=λw'=>YW c s w' hc hs
 have j:=ZG c s;obtain⟨H,k⟩:=aa (uh c s);rw[tV,k];rw[k]at i j;refine nP (fn:=Tryz.f184) (rs:=[.tmp 4]) (n:=15) Tryz.func184 rfl rfl Tryz.ntmps184 dA rfl<|mR<|nz<|oV ([.int .u64 c, .int .u64 s]) rfl<|λy r t l m=>?_
 replace a:=a.nA m t l.lt;replace e:=e.new m;refine mV<|mQ<|ng<|mR<|mP<|mO (oI 2 l)<|nD (i r) ?_
 rintro _ z ⟨rfl,o⟩;replace a:=a.new o;replace e:=e.new o;have p:=RY a 0 H j hsh;rw[KI,q,if_pos rfl]at p;refine nD (p) ?_;rintro _ A ⟨rfl,a,u⟩;replace e:=e.lq u;refine nV<|mP<|mO (oD rfl rfl)<|mQ<|oP rfl (λg=>?_)<|λg=>?_
 ·
  refine lT ?_;have f:qB D=false:=by cases hx:qB D with|false=>rfl|true=>simp[hx]at g
  refine⟨by rw[f];rfl,?_,e⟩;rw[f];exact a.weak<|λb hb=>aj _ hb
 ·
  have f:qB D=true:=by cases hx:qB D with|true=>rfl|false=>simp[hx]at g
  rw[f,if_pos rfl,fI];refine nL<|ny<|mR<|mP<|nD (Sy a) ?_
  rintro _ B ⟨rfl,a,v⟩;replace e:=e.lq v;refine lQ ?_;exact⟨rfl,a.weak (λb hb=>aj _ hb),e⟩
def Bn(D:Dk)(m:Nat):Dk:=(List.range m).foldl (fun(D:Dk) (i:Nat)=>ug D (i:Int) rR) D
theorem Uc(D:Dk)(m:Nat):Bn D (m+1)=ug (Bn D m) (m:Int) rR:=by simp[Bn,gB]
theorem SV{D:Dk}{k:Nat}(h:sJ D k):∀ m,sJ (Bn D m) (m+k)/\(Bn D m).V.length=D.V.length
 |0=>⟨by rw[bg];exact h,rfl⟩
 |m+1=>by
  obtain⟨a,c⟩:=SV h m;rw[Uc];obtain⟨e,f,_⟩:=a.ug (m:Int) rR;exact⟨e.weak eu,f.trans c⟩
def yJ(D:Dk)(n:Nat):Dk:=su (ug (su (Bn D (1+n))) 0 (uh 1 1))
theorem ztC(h:Two (DZ g D) Y lo L w)(n:Int)(hn:Bz n)(ha:sJ D 80000):
   CQ 126 [.pointer (some ⟨g,0,none⟩), .int .i64 n] w (λv w'=>v= .int .i64 (if Aa D.V.length n then 0 else 2)/\Two (DZ g (if Aa D.V.length n then yJ D n.toNat else D)) Y lo L w'/\mX lo L w w'):=by
 have a:=h;have c:=mX.refl lo L w;have p:=Hy h n hn;obtain⟨Z,y,z,A⟩:=TV;have B:Z.length=128:=by rw[<-oh];exact A
 have q:=λm=>Uc D m
 simp only[y]at q;obtain⟨j,r⟩:=aa (Aa D.V.length n);rw[r]at p |-;refine nP (fn:=Tryz.f126) (rs:=[.tmp 4]) (n:=36) Tryz.func126 rfl rfl Tryz.ntmps126 dA rfl<|mR<|mV<|mQ<|ng<|mR<|mP<|mP<|nD (p) ?_
 rintro _ _ ⟨rfl,rfl⟩;refine nV<|mP<|mO (oD rfl rfl)<|mQ<|oP rfl (λo=>?_)<|λo=>?_
 ·
  refine lT ?_;have e:j=false:=by cases j with|false=>rfl|true=>simp at o
  subst e;exact⟨rfl,a,c⟩
 ·
  have e:j=true:=by cases j with|true=>rfl|false=>simp at o
  subst e;have N:=of_decide_eq_true r;have C:∃ m:Nat,n=m:=⟨n.toNat,eu⟩;obtain⟨m,rfl⟩:=C;rw[if_pos rfl,if_pos rfl,aR];refine nL<|ny<|ng<|mR<|mP<|mO (om rfl rfl (Coup.nN eu))<|mP<|mQ<|oU ?_
  refine qZ (α:=Nat) 0 (λi=>[(17, .int .i64 (i:Nat)),(16, .int .i64 (1+(m:Int))),(0, .pointer (some ⟨g,0,none⟩))])
    (λi w'=>i<=1+m/\Two (DZ g (Bn D i)) Y lo L w'/\mX lo L w w') (λi=>1+m - i)
    ⟨rfl,rfl,rfl,rfl⟩ ⟨aC _,a,c⟩ ?_
  clear a c;rintro i f O ⟨P,a,c⟩;have k:=SV ha i;have s:=FY k.1.left k.1.dead;refine mR<|mO (pE rfl rfl)<|mQ<|ng<|oP rfl (λE=>?_)<|λE=>?_
  ·
   refine nL<|ny<|ng<|oU<|mR<|mP<|nV<|mP<|mP<|mO (Ae (bv Z) (by rw[<-z];kernel_rfl)) ?_
   have t:=RY a (i:Int) Z B (xZ k.1.short eu);have F:xy (Bn D i) (i:Int)=true:=decide_eq_true eu;rw[KI,F,s.1,if_pos rfl,if_pos rfl,<-q]at t;refine nD (t) ?_;rintro _ Q ⟨rfl,a,G⟩;replace c:=c.lq G;refine nV<|mP<|mO (oD rfl rfl)<|mQ<|pJ rfl (eu)<|nL<|pW<|ny<|nM<|mO (om rfl rfl (Coup.nN eu))<|mP<|oH<|oO ⟨i+1,eu,⟨by go_num,rfl,rfl,rfl⟩,eu,a,c⟩
  ·
   have H:i=1+m:=by omega
   subst H;have l:=OH k.1;have R:=FK (D:=Bn D (1+m));have u:=l.2.ug 0 (uh 1 1);have I:=FY l.2.left l.2.dead;have J:=FY u.1.left u.1.dead;refine qP<|qL<|rf<|qX<|ny<|ng<|mR<|mP ?_
   have e:=Sy a;rw[s.1,if_pos rfl]at e;refine nD (e) ?_;rintro _ S ⟨rfl,a,K⟩;replace c:=c.lq K;refine nV<|mP<|mO (oD rfl rfl)<|mQ<|pJ rfl (eu)<|nL<|ny<|mR<|mP<|mO (SL (k0:=.u64) (k1:=.u64) dA dA rfl rfl) ?_
   have v:=BP a 1 1 eu eu (xZ l.2.short eu);rw[tV,I.1,if_pos rfl,J.1]at v;refine nD (v) ?_;rintro _ T ⟨rfl,a,M⟩;replace c:=c.lq M;refine lQ ?_;exact⟨rfl,a,c⟩
end
structure Lg where
 count:Nat
 since:Nat
 size:Nat
 num:Nat
 at_:Nat
 dead:Bool
def DR(g:Nat)(G:Lg):List Value:=[.int .u64 (G.count:Int), .int .u64 (G.since:Int), .pointer (some ⟨g,0,none⟩), .int .i64 (G.size:Int), .int .i64 (G.num:Int), .int .i64 (G.at_:Int), .bool G.dead]
structure rF(g x:Nat)(Y:World->List Nat->Prop)(lo:Nat)(L:List Nat)(D:Dk)(G:Lg)(w:World):Prop where
 two:Two (DZ g D) Y lo (x::L) w
 rowx:row w x (DR g G) 231
 ge:lo<=x
 ni:x∉L
namespace rF
variable {Y:World->List Nat->Prop}{g x lo gc:Nat}{L L2 M:List Nat}{D:Dk}{G:Lg}{w w':World}
theorem lt(h:rF g x Y lo L D G w):x<w.heap.size:=h.rowx.lt
theorem nu [hY:mW Y](h:rF g x Y lo L D G w)(k:Kp M w w')(hM:∀ b∈M,b<lo\/b∈L):rF g x Y lo L D G w':=
 ⟨h.two.nu k λb hb=>(hM b hb).imp id (aj _),h.rowx.nu k λa=>(hM _ a).elim (λc=>absurd h.ge (dN.2 c)) h.ni,h.ge,h.ni⟩
theorem new [hY:mW Y](h:rF g x Y lo L D G w)(hb:Below w.heap.size w w'):rF g x Y lo L D G w':=h.nu (M:=[]) (Kp.of_below hb) ig
theorem only[hY:mW Y](h:rF g x Y lo L D G w)(ho:Only gc w w')(hg:gc<lo\/gc∈L):rF g x Y lo L D G w':=h.nu (Kp.rC ho) λb hb=>by rw[aM.1 hb];exact hg
theorem weak(h:rF g x Y lo L D G w)(h2:∀ b∈L2,b∈L):rF g x Y lo L2 D G w:=⟨h.two.weak λb hb=>(ak.1 hb).elim (λe=>e▸aK ..) λa=>aj _ (h2 b a),h.rowx,h.ge,λa=>h.ni (h2 _ a)⟩
theorem nA [hY : mW Y] (h : rF g x Y lo L D G w) (hb : Below w.heap.size w w') (hg : w.heap.size <= gc) (hg' : gc < w'.heap.size) : rF g x Y lo (gc :: L) D G w' :=
  ⟨(h.two.nA hb hg hg').weak (L2 := x :: gc :: L) λb hm => by
    rcases List.mem_cons.1 hm with rfl | hm
    · exact List.mem_cons_of_mem _ (List.mem_cons_self ..)
    · rcases List.mem_cons.1 hm with rfl | hm
      · exact List.mem_cons_self ..
      · exact List.mem_cons_of_mem _ (List.mem_cons_of_mem _ hm), h.rowx.new hb, h.ge, λhm => by
    rcases List.mem_cons.1 hm with e | hm
    · have := h.lt; omega
    · exact h.ni hm⟩
theorem fst(h:rF g x Y lo L D G w):Two (DZ g D) Y lo L w:=h.two.weak λ_ hb=>aj _ hb
end rF
section
variable {Y:World->List Nat->Prop}[mW Y]{g x lo:Nat}{L:List Nat}{D:Dk}{G:Lg}{w:World}
def Cv(G:Lg)(s:Nat)(ok:Bool):Lg:=if ok then {G with count:=G.count+1,since:=s}else {G with dead:=true}
def xg(D:Dk)(c s:Nat):Bool:=qB D && qB (ug D 0 (uh c s))
theorem Cj(h:rF g x Y lo L D G w)(s:Nat)(hc:G.count+1<18446744073709551616)(hs:s<18446744073709551616)(hsh:sK D 90000):
   CQ 188 [.pointer (some ⟨x,0,none⟩), .int .u64 (s:Int)] w (λv w'=>v= .int .i64 (if xg D (G.count+1) s then 0 else 10)/\rF g x Y lo L (tV D (G.count+1) s) (Cv G s (xg D (G.count+1) s)) w'/\mX lo L w w'):=by
 obtain⟨e,a,t,u⟩:=h;have f:=mX.refl lo L w;have N:=a.lt;have v:=fun(L:List Nat) (w':World) (h:Two (DZ g D) Y lo L w')=>BP h (G.count+1) s hc hs hsh
 obtain⟨ok,l⟩:=aa (xg D (G.count+1) s);obtain⟨D2,y⟩:=aa (tV D (G.count+1) s);rw[l,y];unfold xg at l;rw[l,y]at v;obtain⟨c,O,sz,P,at_,Q⟩:=G;dsimp only[DR,Cv]at*;refine nP (fn:=Tryz.f188) (rs:=[.tmp 4]) (n:=31) Tryz.func188 rfl rfl Tryz.ntmps188 dA rfl<|mR<|nV<|mP<|mO (nW rfl)<|mO (nk 0)<|mO (nk 0)<|mO (mZ a)<|mO (om rfl rfl (wu64 eu))<|mP<|mO (SL (k0:=.u64) (k1:=.u64) dA dA rfl rfl)<|nz<|nU ([Value.int .u64 0,Value.int .u64 0]) dA<|λz R A i m=>?_
 have E:x<z:=ae a.lt A;replace e:=e.nA m A i.lt;replace a:=a.new m;replace f:=f.new m;refine nH<|nT 2 (_) i<|λS i o=>?_
 replace e:=e.only o eG;replace a:=a.only o (ai E);replace f:=f.oq o;refine mQ<|ng<|ng<|vK (lo) ((z::x::L)) dA ?_
 intro F j H I;replace e:=e.new j;replace a:=a.new j;replace f:=f.new j;replace i:=i.new j;have J:=a;have K:=i;refine mU 0 (nK)<|mU 1 (nW rfl)<|mU 2 (nk 2)<|nI 3 (λw' p=>mZ (J.kL p))<|nI 4 (λw' p=>oI 2 (K.kL p))<|nS 5 dA<|qf rfl rfl (nX dA rfl) (v _ F e) ?_
 rintro _ T ⟨rfl,e,k⟩;have M:=I.uK H k.wk;refine⟨M,?_⟩;replace a:=a.kl k;replace f:=f.lq k;replace i:=i.kl k;refine mU 6 (rA)<|oL dA<|ny<|mR<|mP<|mO (oD rfl rfl)<|mQ<|oP rfl (λq=>?_)<|λq=>?_
 ·
  refine mR<|mP<|mO (nW rfl)<|mO (nk 6)<|nH<|oW a<|λU a B=>?_
  replace e:=e.only B eG;replace f:=f.oq B;refine pV<|mP<|mV<|mQ<|nQ<|qb<|nR [_] ⟨rfl,trivial⟩ ?_
  have r:ok=false:=by cases ok with|false=>rfl|true=>simp at q
  subst r;exact⟨rfl,⟨e.weak (λb hb=>aj _ hb),a,t,u⟩,f⟩
 ·
  have r:ok=true:=by cases ok with|true=>rfl|false=>simp at q
  subst r;refine nL<|ny<|mR<|mP<|mO (oI 2 i)<|mO (nW rfl)<|mO (nk 0)<|nH<|NW [.int .u64 ((c:Int)+1), .int .u64 (s:Int)] rfl rfl a dA ig ko<|λV a C=>?_
  replace e:=e.only C eG;replace f:=f.oq C;refine mo ?_;exact⟨rfl,⟨e.weak (λb hb=>aj _ hb),a,t,u⟩,f⟩
omit [mW Y]
theorem QX(h:rF g x Y lo L D G w):CQ 154 [.pointer (some ⟨x,0,none⟩)] w (λv w'=>v= .int .i64 (if G.dead then 10 else 0)/\w=w'):=by
 obtain⟨i,e,j,k⟩:=h;obtain⟨c,l,sz,m,at_,f⟩:=G;dsimp only[DR]at*;refine nP (fn:=Tryz.f154) (rs:=[.tmp 2]) (n:=18) Tryz.func154 rfl rfl Tryz.ntmps154 dA rfl<|mR<|mV<|mQ<|ng<|oU<|mR<|mP<|mO (xJ dA rfl rfl)<|mP<|Ri 6 rfl (rfl)<|mY<|mP<|mY<|mO (nW rfl)<|mY<|mO (nk 2)<|mY<|mO (mZ e)<|mY<|mO (xJ dA rfl rfl)<|mO (oo rfl)<|mV<|mQ<|tC rfl (rfl)<|mR<|mP<|mO (nW rfl)<|mO (nk 6)<|mO (mZ e)<|mV<|mQ<|xm rfl (λa=>?_)<|λa=>?_
 ·
  refine lL ?_;subst a;exact⟨rfl,rfl⟩
 ·
  refine lM ?_;have g:f=false:=by cases f with|false=>rfl|true=>cases a
  subst g;exact⟨rfl,rfl⟩
theorem CG(h:rF g x Y lo L D G w)(hle:G.at_<=G.size)(hsz:G.size<=4000):CQ 96 [.pointer (some ⟨x,0,none⟩)] w (λv w'=>v= .int .i64 ((G.size - G.at_:Nat):Int)/\Below w.heap.size w w'):=by
 obtain⟨k,a,l,m⟩:=h;obtain⟨c,o,sz,p,at_,q⟩:=G;dsimp only[DR]at*;have e:=Below.refl w.heap.size w;refine nP (fn:=Tryz.f96) (rs:=[.tmp 2]) (n:=14) Tryz.func96 rfl rfl Tryz.ntmps96 dA rfl<|mR<|mV<|mQ<|ng<|mR<|mP<|mO (xJ dA rfl rfl)<|mQ<|tC rfl (rfl)<|nL<|ny<|ng<|qz [] dA ?_;intro r g s;replace a:=a.new g;replace e:=e.acc g;have i:=a;refine mU 0 (nK)<|mU 1 (nW rfl)<|mU 2 (nk 3)<|nI 3 (λw' f=>mZ (i.kq f))<|mU 4 (nK)<|mU 5 (nW rfl)<|mU 6 (nk 5)<|nI 7 (λw' f=>mZ (i.kq f))<|mU 8 (vE rfl rfl (Coup.nN eu))<|mU 9 (rA)<|oL dA<|ny<|nQ<|nR [_] ⟨rfl,trivial⟩ ?_;have j:(sz:Int) - at_=((sz - at_:Nat):Int):=by omega
 exact⟨by show Value.int .i64 ((sz:Int) - at_)=_;rw[j],e⟩
end
def qH(D:Dk)(at_:Nat):List qg->Dk × Bool
 |[]=>(D,true)
 |s::l=>if qB D then qH (ug D (at_:Int) s) (at_+1) l else(ug D (at_:Int) s,false)
theorem Wz:∀ (l:List qg) (D:Dk) (a:Nat) (s:qg),(qH D a l).2=true->qH D a (l++[s])=(ug (qH D a l).1 ((a+l.length:Nat):Int) s,qB (qH D a l).1)
 |[],D,a,s,_=>by
  simp only[aV,qH,aX,dD]
  split
  .rename_i c;rw[c]
  .rename_i c;cases hx:qB D with
   |true=>exact absurd hx c
   |false=>rfl
 |t::l,D,a,s,c=>by
  rw[bV,qH];rw[qH]at c |-
  by_cases e:qB D=true
  .rw[if_pos e]at c |-
   rw[if_pos e,Wz l _ _ s c,aD,show a+1+l.length=a+(l.length+1) by omega]
  .rw[if_neg e]at c;cases c
theorem Vm:∀ (l m:List qg) (D:Dk) (a:Nat),(qH D a l).2=false->qH D a (l++m)=qH D a l
 |[],m,D,a,h=>by cases h
 |t::l,m,D,a,h=>by
  rw[bV,qH];rw[qH]at h |-
  by_cases c:qB D=true
  .rw[if_pos c]at h |-
   rw[if_pos c,Vm l m _ _ h]
  .rw[if_neg c,if_neg c]
theorem Vb(D:Dk)(i:Int)(s:qg):(ug D i s).V.length=D.V.length:=by
 unfold ug LJ
 split
 .split
  .show((uq D).V.set _ _).length=_
   rw[bq,Cs]
  .rw[Cs]
 .rfl
theorem zmm{D:Dk}{k:Nat}(h:sK D k)(i:Int)(s:qg):sK (ug D i s) (k+1):=by
 unfold ug LJ
 split
 .rename_i c
  obtain⟨m,rfl,f⟩:=YU c;have g:=h.oZ f
  split
  .intro v a
   rcases iJ a with e|e
   .rw[Cs]at e;exact ag (h v e) eu
   .rw[e,aA,dM,aR];omega
  .intro v a;rw[Cs]at a;exact ag (h v a) eu
 .exact xZ h eu
theorem Bi:∀ (l:List qg) (D:Dk) (a:Nat),(qH D a l).1.V.length=D.V.length
 |[],D,a=>rfl
 |t::l,D,a=>by
  have c:(ug D (a:Int) t).V.length=D.V.length:=Vb _ _ _;rw[qH]
  split
  .rw[Bi l,c]
  .exact c
theorem Sa:∀ (l:List qg) (D:Dk) (a k:Nat),sK D k->sK (qH D a l).1 (k+l.length)
 |[],D,a,k,h=>h
 |t::l,D,a,k,h=>by
  have c:sK (ug D (a:Int) t) (k+1):=zmm h _ _;rw[qH,aD]
  split
  .exact xZ (Sa l _ _ _ c) eu
  .exact xZ c eu
def qM(b:List UInt8)(n:Nat):List qg:=(List.range n).map λi=>(b.drop (128*i)).take 128
theorem GL(b:List UInt8)(n:Nat):(qM b n).length=n:=by simp[qM]
theorem Vg(b:List UInt8){n i:Nat}(h:i<n):(qM b n)[i]?=some ((b.drop (128*i)).take 128):=by
 rw[qM,aW,eQ h];rfl
theorem zrq{b:List UInt8}{n:Nat}(h:b.length=128*n):yX (qM b n):=λs a=>by
 obtain⟨i,c,rfl⟩:=bB.1 a;have:=cz.1 c;rw[aH,aL];omega
theorem zjh(b:List UInt8)(n:Nat):qM b (n+1)=qM b n++[(b.drop (128*n)).take 128]:=by simp[qM,gB]
theorem WH(b:List UInt8):∀ n,(qM b n).flatten=b.take (128*n)
 |0=>rfl
 |n+1=>by
  rw[zjh,jC,WH b n,List.flatten_singleton,Nat.mul_succ,List.take_add]
section
variable {Y:World->List Nat->Prop}[mW Y]{g x lo:Nat}{L:List Nat}{D:Dk}{G:Lg}{w:World}
def xG(D:Dk)(a:Nat)(R:List qg):Dk × Bool:=if(qH D a R).2 then(su (qH D a R).1,qB (qH D a R).1)else qH D a R
theorem FB(h:rF g x Y lo L D G w)(R:List qg)(hR:yX R)(p n c:Nat)(hp:p∈L)(hn:R.length=n)(hrow:nC w (some ⟨p,0,none⟩) n 128 (bv R.flatten))(hfit:1+G.at_+n<=D.V.length)(hsh:sK D 80000)(hn2:n<=4000):
   CQ 157 [.pointer (some ⟨x,0,none⟩), .slice (some ⟨p,0,none⟩) n c] w (λv w'=>v= .int .i64 (if(xG D (1+G.at_) R).2 then 0 else 10)/\rF g x Y lo L (xG D (1+G.at_) R).1 G w'/\mX lo L w w'):=by
 obtain⟨j,a,t,u⟩:=h;have k:=mX.refl lo L w;have a7:=a.lt;have a8:=j.lt p (aj _ hp);have a9:=(yV j).1.n;obtain⟨O,P,sz,Q,at_,S⟩:=G;dsimp only[DR]at*;refine nP (fn:=Tryz.f157) (rs:=[.tmp 4]) (n:=37) Tryz.func157 rfl rfl Tryz.ntmps157 dA rfl<|mR<|mV<|mQ<|ng<|mR<|mP<|mO (oQ (e:=265) (sz:=128) dA rfl rfl)<|mP<|mQ<|oU ?_;refine qZ (α:=Nat) 0 (λi=>[(10, .int .i64 (i:Nat)),(9, .int .i64 (n:Int)),(8, .slice (some ⟨p,0,none⟩) n c),(0, .pointer (some ⟨x,0,none⟩))])
   (λi w'=>i<=n/\(qH D (1+at_) (R.take i)).2=true/\rF g x Y lo L (qH D (1+at_) (R.take i)).1 ⟨O,P,sz,Q,at_,S⟩ w'/\nC w' (some ⟨p,0,none⟩) n 128 (bv R.flatten)/\mX lo L w w') (λi=>n - i)
   ⟨rfl,rfl,rfl,rfl,rfl⟩ ⟨aC _,rfl,⟨j,a,t,u⟩,hrow,k⟩ ?_
 clear j k a hrow;rintro i f b0 ⟨b1,B,⟨j,a,-,-⟩,hrow,k⟩;dsimp only[DR]at a;have b2:=k.size;have C:=Sa (R.take i) D (1+at_) 80000 hsh;have T:=Bi (R.take i) D (1+at_);rw[aH]at C;refine mR<|mO (pE rfl rfl)<|mQ<|ng<|oP rfl (λU=>?_)<|λU=>?_
 ·
  refine nL<|ny<|ng<|oU<|mR ?_
  have V:∃ s,R[i]?=some s:=⟨_,aI eu⟩;obtain⟨s,E⟩:=V;have X:R.take (i+1)=R.take i++[s]:=by rw[bf,E];rfl
  have l:=Wz (R.take i) D (1+at_) s B;rw[<-X,aH,bP eu]at l;have Z:s.length=128:=hR s (aN E);refine mP<|mO (rE (e:=265) (sz:=128) dA rfl rfl (i) eu eu)<|mO (ou rfl (Um hrow hR E))<|nz<|nU (List.replicate 128 (Value.int .u8 0)) dA<|λI b3 J m v=>?_
  have a0:x<I:=ae a.lt J;replace j:=j.nA v J m.lt;replace a:=a.new v;replace hrow:=hrow.new v;replace k:=k.new v;refine mV<|nH<|nT 128 (_) m<|λb4 m y=>?_
  replace j:=j.only y eG;replace a:=a.only y (ai a0);replace hrow:=hrow.only y eu;replace k:=k.oq y;refine mQ<|ng<|vK (lo) ((I::x::L)) dA ?_
  intro b5 q a1 a2;replace j:=j.new q;replace a:=a.new q;replace hrow:=hrow.new q;replace k:=k.new q;replace m:=m.new q;have K:=a;have a3:=m;refine mU 0 (nK)<|mU 1 (nW rfl)<|mU 2 (nk 2)<|nI 3 (λw' r=>mZ (K.kL r))<|mU 4 (nK)<|mU 5 (nW rfl)<|mU 6 (nk 5)<|nI 7 (λw' r=>mZ (K.kL r))<|mU 8 (om rfl rfl (Coup.nN eu))<|mU 9 (nK)<|mU 10 (om rfl rfl (Coup.nN eu))<|nI 11 (λw' r=>oI 128 (a3.kL r))<|nS 12 dA ?_
  have a4:=RY j ((1+(at_:Int))+(i:Int)) s Z (xZ C eu);refine qf rfl rfl (nX dA rfl) (a4) ?_;rintro _ b6 ⟨rfl,j,z⟩;have a5:=a2.uK a1 z.wk;refine⟨a5,?_⟩;replace a:=a.kl z;replace hrow:=hrow.nu z.kp dB;replace k:=k.lq z;refine mU 13 (rA)<|oL dA<|ny<|mR ?_
  have F:xy (qH D (1+at_) (R.take i)).1 ((1+(at_:Int))+(i:Int))=true:=decide_eq_true eu;have a6:(1+(at_:Int))+(i:Int)=((1+at_+i:Nat):Int):=by omega
  rw[KI,F,if_pos rfl];rw[a6]at j;refine mP<|mO (oD rfl rfl)<|mQ<|oP rfl (λH=>?_)<|λH=>?_
  ·
   refine lH ?_;have A:qB (qH D (1+at_) (R.take i)).1=false:=by cases hq:qB (qH D (1+at_) (R.take i)).1 with|false=>rfl|true=>simp[hq]at H
   rw[A]at l;have M:=Vm (R.take (i+1)) (R.drop (i+1)) D (1+at_) (by rw[l]);rw[bM,l]at M;rw[xG,M];exact⟨by rw[A];rfl,⟨j.weak (λb hb=>aj _ hb),a,t,u⟩,k⟩
  ·
   have A:qB (qH D (1+at_) (R.take i)).1=true:=by cases hq:qB (qH D (1+at_) (R.take i)).1 with|true=>rfl|false=>simp[hq]at H
   refine nL<|pW<|ny<|nM<|mO (om rfl rfl (Coup.nN eu))<|mP<|oH<|oO ⟨i+1,eu,⟨by go_num,rfl,rfl,rfl,rfl⟩,eu,by rw[l];exact A,?_,hrow,k⟩
   rw[l];exact⟨j.weak (λb hb=>aj _ hb),a,t,u⟩
 ·
  have F:i=n:=by omega
  subst F;rw[aP eu]at B j C T;refine qP<|qL<|rf<|qX<|ny<|mR<|mP<|mO (nW rfl)<|mO (nk 2)<|mO (mZ a)<|nD (Sy j) ?_
  rintro _ b7 ⟨rfl,j,N⟩;replace a:=a.kl N;replace k:=k.lq N;refine lQ ?_;rw[xG,B,if_pos rfl];exact⟨rfl,⟨j,a,t,u⟩,k⟩
def Pq(G:Lg):Lg:={G with count:=G.count+1,since:=G.count+1,num:=0,at_:=0}
theorem Ey(h:rF g x Y lo L D G w)(hc:G.count<=4611686018427387904)(hsh:sK D 90000):
    CQ 153 [.pointer (some ⟨x,0,none⟩)] w (λv w'=>∃ e:Int,v= .int .i64 e/\mX lo L w w'/\
      ((G.dead=true/\e=10/\rF g x Y lo L D G w')\/(G.dead=false/\G.count=4611686018427387904/\e=8/\rF g x Y lo L D G w')\/
        (G.dead=false/\G.count<4611686018427387904/\xg D (G.count+1) (G.count+1)=false/\e=10/\rF g x Y lo L (tV D (G.count+1) (G.count+1)) {G with dead:=true} w')\/
        (G.dead=false/\G.count<4611686018427387904/\xg D (G.count+1) (G.count+1)=true/\e=0/\rF g x Y lo L (tV D (G.count+1) (G.count+1)) (Pq G) w'))):=by
  have a:=mX.refl lo L w;have o:=QX h;have e:=h;have A:=h.lt;obtain⟨j,k⟩:=aa (G.dead);rw[k]at o |-;refine nP (fn:=Tryz.f153) (rs:=[.tmp 2]) (n:=33) Tryz.func153 rfl rfl Tryz.ntmps153 dA rfl ?_;refine mR<|mV<|mQ<|ng<|mR<|mP ?_
  refine nD o ?_;rintro _ _ ⟨rfl,rfl⟩;refine nV<|mP ?_
  refine mO (oD rfl rfl) ?_;refine mQ ?_;refine oP rfl (λl=>?_)<|λl=>?_
  ·
   refine mR<|mP<|mV<|mQ<|nQ<|qb ?_
   refine nR [_] ⟨rfl,trivial⟩ ?_;have g:j=true:=by cases j with|true=>rfl|false=>simp at l
   subst g;exact⟨_,rfl,a, .inl ⟨rfl,rfl,e⟩⟩
  ·
   have g:j=false:=by cases j with|false=>rfl|true=>simp at l
   subst g;refine nL<|ny<|ng<|mR<|mP<|mO (nW rfl)<|mO (nk 0)<|mO (nk 0) ?_
   refine mO (ou rfl ((Ld.qN e.rowx dA rfl))) ?_;refine mO (qy rfl rfl) ?_;refine mQ ?_;refine oP rfl (λt=>?_)<|λt=>?_
   ·
    refine mR<|mV<|mQ<|nQ<|qb ?_
    refine nR [_] ⟨rfl,trivial⟩ ?_;exact⟨_,rfl,a, .inr (.inl ⟨rfl,eu,rfl,e⟩)⟩
   ·
    have p:G.count<4611686018427387904:=by omega
    obtain⟨ok,u⟩:=aa (xg D (G.count+1) (G.count+1));have q:=Cj e (G.count+1) eu eu hsh;rw[u]at q |-;refine nL<|ny<|ng<|mR<|mP<|mP<|mO (nW rfl)<|mO (nk 0)<|mO (nk 0) ?_;refine mO (ou rfl ((Ld.qN e.rowx dA rfl))) ?_;refine mO (om rfl rfl (wu64 eu)) ?_;refine nD (q) ?_;rintro _ B ⟨rfl,e,v⟩;replace a:=a.lq v;refine nV<|mP ?_;refine mO (oD rfl rfl) ?_;refine mQ ?_;refine oP rfl (λm=>?_)<|λm=>?_
    ·
     refine mR<|mP<|mV<|mQ<|nQ<|qb ?_
     refine nR [_] ⟨rfl,trivial⟩ ?_;have g:ok=false:=by cases ok with|false=>rfl|true=>simp at m
     subst g;exact⟨_,rfl,a, .inr (.inr (.inl ⟨rfl,p,rfl,rfl,e⟩))⟩
    ·
     have g:ok=true:=by cases ok with|true=>rfl|false=>simp at m
     subst g;obtain⟨i,f,y,z⟩:=e;obtain⟨c,C,sz,E,at_,F⟩:=G;dsimp only[DR,Cv]at f k;subst k;rw[if_pos rfl]at f;dsimp only at f;refine nL<|ny<|mR<|mP<|mP<|mO (nW rfl)<|mO (nk 4) ?_
     refine nH<|oW f<|λH f r=>?_
     replace a:=a.oq r;replace i:=i.only r eG;refine mO (nW rfl)<|mO (nk 5) ?_
     refine nH<|oW f<|λI f s=>?_
     replace a:=a.oq s;replace i:=i.only s eG;refine pV<|mV<|mQ<|nQ ?_
     refine nR [_] ⟨rfl,trivial⟩ ?_;exact⟨_,rfl,a, .inr (.inr (.inr ⟨rfl,p,rfl,rfl,⟨i,f,y,z⟩⟩))⟩
end
structure AO(D:Dk)(G:Lg):Prop where
 s1:1<=G.since
 sc:G.since<=G.count
 cm:G.count<=4611686018427387904
 sz4:4<=G.size
 szm:G.size<=4000
 at_:G.at_<=G.size
 num:G.num<=G.at_
 fit:1+G.size<=D.V.length
def vX(G:Lg)(R:Rec):List qg:=qM (zh G.count G.num (yw R)) (qC (516*R.length))
theorem Wo(G:Lg)(R:Rec):(vX G R).length=qC (516*R.length):=GL _ _
theorem zrr(G:Lg){R:Rec}(h:rT R):(vX G R).flatten=zh G.count G.num (yw R)/\yX (vX G R):=by
 have a:=Zj G.count G.num (yw R);rw[Xo h]at a;refine⟨?_,zrq a⟩;rw[vX,WH,<-a,dQ]
def uP(D:Dk)(G:Lg)(R:Rec):Int × Dk × Lg:=
 if G.dead then(10,D,G)else if yK R=false then(2,D,G)else if G.size<G.at_+(vX G R).length then(8,D,G)
 else if(xG D (1+G.at_) (vX G R)).2 then(0,(xG D (1+G.at_) (vX G R)).1,{G with at_:=G.at_+(vX G R).length,num:=G.num+1})else(10,(xG D (1+G.at_) (vX G R)).1,{G with dead:=true})
section
variable {Y:World->List Nat->Prop}[mW Y]{g x lo:Nat}{L:List Nat}{D:Dk}{G:Lg}{w:World}
omit [mW Y] in
theorem znG(h:rF g x Y lo L D G w)(hd:G.dead=true)(R:Rec)(p:Option Addr)(n cp:Nat):
  CQ 99 [.pointer (some ⟨x,0,none⟩), .slice p n cp] w (λv w'=>v= .int .i64 (uP D G R).1/\rF g x Y lo L (uP D G R).2.1 (uP D G R).2.2 w'/\mX lo L w w'):=by
 have c:=mX.refl lo L w;have a:=QX h;have e:=h;rw[hd]at a;rw[uP,hd,if_pos rfl];refine nP (fn:=Tryz.f99) (rs:=[.tmp 4]) (n:=72) Tryz.func99 rfl rfl Tryz.ntmps99 dA rfl<|mR<|mV<|mQ<|ng<|mR<|mP<|nD (a) ?_
 rintro _ _ ⟨rfl,rfl⟩;refine lX ?_;exact⟨rfl,e,c⟩
theorem zrs(h:rF g x Y lo L D G w)(hd:G.dead=false)(R:Rec)(hR:rT R)(hm:yK R=false)(p:Option Addr)(n cp:Nat)(hs:nC w p n 513 (pY R))(hn:R.length=n)(hn2:n<=1000000):
  CQ 99 [.pointer (some ⟨x,0,none⟩), .slice p n cp] w (λv w'=>v= .int .i64 (uP D G R).1/\rF g x Y lo L (uP D G R).2.1 (uP D G R).2.2 w'/\mX lo L w w'):=by
 have a:=mX.refl lo L w;have f:=QX h;have e:=h;have j:=(De R hR p n cp w hs hn hn2).to λv w' (h:((yK R=true/\∃ g o c,v= .tuple #[.slice (some ⟨g,o,none⟩) (516*n) c, .int .i64 0]/\w.heap.size<=g/\516*n<=c/\nC w' (some ⟨g,o,none⟩) (516*n) 1 (bv (yw R)))\/(yK R=false/\v= .tuple #[.slice none 0 0, .int .i64 2]))/\Below w.heap.size w w')=>(show v= .tuple #[.slice none 0 0, .int .i64 2]/\Below w.heap.size w w' from⟨h.1.elim (λh=>by rw[hm]at h;cases h.1) λh=>h.2,h.2⟩)
 rw[hd]at f;rw[uP,hd,if_neg ig,if_pos hm];refine nP (fn:=Tryz.f99) (rs:=[.tmp 4]) (n:=72) Tryz.func99 rfl rfl Tryz.ntmps99 dA rfl<|mR<|mV<|mQ<|ng<|mR<|mP<|nD (f) ?_
 rintro _ _ ⟨rfl,rfl⟩;refine nV<|mP<|mO (oD rfl rfl)<|mQ<|pJ rfl (ig)<|nL<|ny<|mR<|mP<|nD (j) ?_;rintro _ k ⟨rfl,i⟩;replace e:=e.new i;replace a:=a.new i;refine mP<|mO (nJ rfl rfl)<|mO (nJ rfl rfl)<|mV<|mV<|mQ<|ng<|oU<|mR<|mP<|mO (oD rfl rfl)<|mV<|mQ<|sU rfl (ig)<|mR<|mP<|mV<|mQ<|nQ<|tu<|qb<|nR [_] ⟨rfl,trivial⟩ ?_;exact⟨rfl,e,a⟩
theorem zpY(h:rF g x Y lo L D G w)(hok:AO D G)(hsh:sK D 80000)(hd:G.dead=false)(R:Rec)(hR:rT R)(hm:yK R=true)(p:Option Addr)(n cp:Nat)(hs:nC w p n 513 (pY R))(hn:R.length=n)(hn2:n<=1000000):
   CQ 99 [.pointer (some ⟨x,0,none⟩), .slice p n cp] w (λv w'=>v= .int .i64 (uP D G R).1/\rF g x Y lo L (uP D G R).2.1 (uP D G R).2.2 w'/\mX lo L w w'):=by
 have a:=mX.refl lo L w;have C:=QX h;have f:=h;have a3:=(De R hR p n cp w hs hn hn2).to λv w' (h:((yK R=true/\∃ g o c,v= .tuple #[.slice (some ⟨g,o,none⟩) (516*n) c, .int .i64 0]/\w.heap.size<=g/\516*n<=c/\nC w' (some ⟨g,o,none⟩) (516*n) 1 (bv (yw R)))\/(yK R=false/\v= .tuple #[.slice none 0 0, .int .i64 2]))/\Below w.heap.size w w')=>(show ∃ g o c,v= .tuple #[.slice (some ⟨g,o,none⟩) (516*n) c, .int .i64 0]/\w.heap.size<=g/\nC w' (some ⟨g,o,none⟩) (516*n) 1 (bv (yw R))/\Below w.heap.size w w' from h.1.elim (fun⟨_,g,o,c,E,F,_,H⟩=>⟨g,o,c,E,F,H,h.2⟩) λh=>by rw[hm]at h;cases h.1)
 rw[hd]at C;have I:1<=n/\n<=60:=by
   have:=of_decide_eq_true (Bool.and_eq_true_iff.1 hm).1
   rwa [hn]at this
 have J:=(QJ I).1;have c6:=(QJ I).2;have q:=Wo G R;obtain⟨a4,a5⟩:=zrr G hR;have r:=Zj G.count G.num (yw R);rw[Xo hR,hn]at r;rw[hn]at q;have c7:qC (516*n)<=1000:=by unfold qC qw;omega
 have a6:vB (G.count:Int) (G.num:Int)=true:=by
   have E:=hok.s1;have F:=hok.sc;have H:=hok.cm;have c8:=hok.szm;have c9:=hok.at_;have d0:=hok.num;unfold vB;rw[decide_eq_true eu,decide_eq_true (by unfold zoK;omega),decide_eq_true eu,decide_eq_true eu];rfl
 have a7:=hok.fit;have K:=hok.at_;have M:=hok.szm;have a8:=hok.num;rw[uP,hd,if_neg ig,if_neg (by rw[hm];simp),q];generalize vX G R=RW at*;generalize O:qC (516*n)=N at*;obtain⟨a9,P⟩:=aa (xG D (1+G.at_) RW);rw[P];obtain⟨D2,ok⟩:=a9;refine nP (fn:=Tryz.f99) (rs:=[.tmp 4]) (n:=72) Tryz.func99 rfl rfl Tryz.ntmps99 dA rfl<|mR<|mV<|mQ<|ng<|mR<|mP<|nD (C) ?_
 rintro _ _ ⟨rfl,rfl⟩;refine nV<|mP<|mO (oD rfl rfl)<|mQ<|pJ rfl (ig)<|nL<|ny<|mR<|mP<|nD (a3) ?_;rintro _ b0 ⟨d1,ob,b1,rfl,d2,k,Q⟩;replace f:=f.new Q;replace a:=a.new Q;refine mP<|mO (nJ rfl rfl)<|mO (nJ rfl rfl)<|mV<|mV<|mQ<|ng<|oU<|mR<|mP<|mO (oD rfl rfl)<|mV<|mQ<|pJ rfl (ig)<|mR<|mP<|mO (oQ (e:=164) (sz:=513) dA rfl rfl)<|nD (Nq n b0) ?_;rintro _ _ ⟨rfl,rfl⟩;refine mP<|nD (CG f K M) ?_;rintro _ d3 ⟨rfl,s⟩;replace f:=f.new s;replace a:=a.new s;replace k:=k.new s;rw[J];refine mO (rq rfl rfl)<|mV<|mQ<|oP rfl (λb2=>?_)<|λb2=>?_
 ·
  refine lL ?_;have t:G.size<G.at_+N:=by omega
  rw[if_pos t];exact⟨rfl,f,a⟩
 ·
  have t:¬G.size<G.at_+N:=by omega
  rw[if_neg t];refine nL<|pW<|ny<|ng<|qz [] dA ?_
  intro b3 u b4;replace f:=f.new u;replace a:=a.new u;replace k:=k.new u;have S:=f;refine mU 0 (nK)<|mU 1 (nW rfl)<|mU 2 (nk 0)<|mU 3 (nk 0)<|nI 4 (λw' y=>ou rfl ((Ld.qN (S.nu y jT).rowx dA rfl)))<|mU 5 (nK)<|mU 6 (nW rfl)<|mU 7 (nk 4)<|nI 8 (λw' y=>ou rfl ((Ld.qN (S.nu y jT).rowx dA rfl)))<|mU 9 (SL (k0:=.u64) (k1:=.i64) dA dA rfl rfl)<|mU 10 (nK)<|nS 11 dA ?_
  have T:=zri G.count G.num a6 (yw R) _ (516*n) b1 b3 k eu;rw[O]at T;refine qf rfl rfl (nX dA rfl) (T) ?_;rintro _ d4 ⟨b5,rfl,b6,U,z⟩;replace f:=f.nA z b6 U.lt;have b7:=b4.add0 z;refine⟨b7,?_⟩;replace a:=a.new z;refine mU 12 (nK)<|mU 13 (nJ rfl rfl)<|mU 14 (nJ rfl rfl)<|mU 15 (rA)<|mU 16 (rA)<|oL dA<|ny<|ng<|mR<|mP<|mP ?_
  have V:=U.ul (m:=N) (sz:=128) (by rw[oh,r];omega) jo;rw[<-a4]at V;have X:=FB f RW a5 b5 N N (aK ..) q V eu hsh eu;rw[P]at X;clear r O J;refine nD (X) ?_;rintro _ d5 ⟨rfl,f,b8⟩;replace a:=a.lq b8;refine nV ?_;obtain⟨j,i,Y,l⟩:=f;obtain⟨c,b9,sz,c4,at_,d6⟩:=G;dsimp only[DR]at i hd a8 K M a7;subst hd;replace j:=j.weak (L2:=x::L) (λb hb=>(ak.1 hb).elim (λe=>e▸aK ..) λhm=>aj _ (aj _ hm));replace l:x∉L:=λhm=>l (aj _ hm)
  refine mP<|mO (oD rfl rfl)<|mQ<|oP rfl (λA=>?_)<|λA=>?_
  ·
   refine mR<|mP<|mO (nW rfl)<|mO (nk 6)<|nH<|oW i<|λd7 i Z=>?_
   replace a:=a.oq Z;replace j:=j.only Z eG;refine pV<|mP<|mV<|mQ<|nQ<|qb<|nR [_] ⟨rfl,trivial⟩ ?_
   have B:ok=false:=by cases ok with|false=>rfl|true=>simp at A
   subst B;exact⟨rfl,⟨j,i,Y,l⟩,a⟩
  ·
   have B:ok=true:=by cases ok with|true=>rfl|false=>simp at A
   subst B;refine nL<|ny<|mR<|mP<|mO (nW rfl)<|mO (nk 5)<|mO (mZ i)<|mP<|mO (oQ (e:=265) (sz:=128) dA rfl rfl)<|mO (om rfl rfl (Coup.nN eu))<|mO (nW rfl)<|mO (nk 5)<|nH<|oW i<|λc5 i a0=>?_
   replace a:=a.oq a0;replace j:=j.only a0 eG;refine pV ?_;have a1:row c5 x [.int .u64 (c:Int), .int .u64 (b9:Int), .pointer (some ⟨g,0,none⟩), .int .i64 (sz:Int), .int .i64 (c4:Int), .int .i64 ((at_:Int)+(N:Int)), .bool false] 231:=i;replace i:=a1;clear a1;refine mP<|mO (nW rfl)<|mO (nk 4)<|mO (mZ i)<|mO (om rfl rfl (Coup.nN eu))<|mO (nW rfl)<|mO (nk 4)<|nH<|oW i<|λd8 i a2=>?_
   replace a:=a.oq a2;replace j:=j.only a2 eG;refine mo ?_;exact⟨rfl,⟨j,i,Y,l⟩,a⟩
theorem ztD(h:rF g x Y lo L D G w)(hok:AO D G)(hsh:sK D 80000)(R:Rec)(hR:rT R)(p:Option Addr)(n cp:Nat)(hs:nC w p n 513 (pY R))(hn:R.length=n)(hn2:n<=1000000):
  CQ 99 [.pointer (some ⟨x,0,none⟩), .slice p n cp] w (λv w'=>v= .int .i64 (uP D G R).1/\rF g x Y lo L (uP D G R).2.1 (uP D G R).2.2 w'/\mX lo L w w'):=by
 cases hd:G.dead with
 |true=>exact znG h hd R p n cp
 |false=>
  cases hm:yK R with
  |true=>exact zpY h hok hsh hd R hR hm p n cp hs hn hn2
  |false=>exact zrs h hd R hR hm p n cp hs hn hn2
end
end Go.Proofs.YtpaniebomegnbaaGreat
namespace Coup
open Go Go.RowKit
section
variable {md:Option Nat->Prop}{P:Program}{n:Nat}{Q:Post}{ρ:Env}{w w0:World}
end
end Coup
namespace Go.Proofs.YtpaniebomegnbaaGreat
open Go Go.RowKit Coup
structure Fv where
 c:Nat
 nn:Nat
 b:List UInt8
def ut:Nat->List UInt8->Nat->List Fv
 |0,_,_=>[]
 |f+1,l,n=>if wh l n then⟨tJ (oM l 0),tZ (oM l 0),rQ l⟩::ut f (l.drop (128*qC (rQ l).length)) (n - qC (rQ l).length)else[]
theorem ztE(p:Option Addr)(n cp:Nat)(l:List UInt8)(w:World)(h:nC w p n 128 (bv l))(hn:n<=1000000)(hj:wh l n=false):CQ 251 [.slice p n cp] w (λv w'=>v=Rl/\Below w.heap.size w w'):=by
 have f:CQ 251 [.slice p n cp] w (λv w'=>JR l n w v w'):=by
  by_cases c:0<n
  .cases hm:vB (tJ (oM l 0)) (tZ (oM l 0))with
   |true=>exact IK p n cp l w h hn c hm
   |false=>exact PE p n cp l w h hn c hm
  .obtain rfl:n=0:=by omega
   exact OI p cp l w
 exact f.to λv w' ⟨g,a⟩=>by
  rcases a with⟨_,a⟩|⟨e,_⟩
  .exact⟨a,g⟩
  .rw[hj]at e;cases e
theorem Sc{l:List UInt8}{n:Nat}(hj:wh l n=true):0<n/\vB (tJ (oM l 0)) (tZ (oM l 0))=true/\(l.length=n*128->qC (rQ l).length<=n/\1<=qC (rQ l).length):=by
 rw[wh,aJ,aJ]at hj;obtain⟨⟨g,c⟩,e⟩:=hj;have h:=of_decide_eq_true g;rw[UU,aJ,aJ,aJ]at c;obtain⟨⟨⟨i,k⟩,m⟩,f⟩:=c;have f:=of_decide_eq_true f;rw[Ju,aJ,aJ,aJ]at e;obtain⟨⟨⟨_,o⟩,a⟩,_⟩:=e;have a:=of_decide_eq_true a;refine⟨h,i,λp=>?_⟩;have hb:(rQ l).length<=Ak l (vz (oM l 0)):=by rw[rQ,aH];omega
 have j:qw (rQ l).length<=qw (Ak l (vz (oM l 0))):=by unfold qw;omega
 rw[a]at j;have hp:1<=qw (rQ l).length:=by unfold qw;omega
 unfold qC;omega
theorem ztF(p:Option Addr)(n cp:Nat)(l:List UInt8)(w:World)(h:nC w p n 128 (bv l))(hn:n<=1000000)(hj:wh l n=true):Calls Tryz.prog 251 [.slice p n cp].toArray w
  (pX λv w'=>∃ sp,v= .tuple #[.agg #[.int .u64 (tJ (oM l 0)), .int .i64 (tZ (oM l 0))], .slice sp (rQ l).length (rQ l).length, .int .i64 (qC (rQ l).length:Nat), .int .i64 0]/\nC w' sp (rQ l).length 1 (bv (rQ l))/\Below w.heap.size w w'):=by
 obtain⟨c,e,_⟩:=Sc hj;exact(IK p n cp l w h hn c e).to λv w' ⟨f,g⟩=>by
  rcases g with⟨a,_⟩|⟨_,sp,a,i⟩
  .rw[hj]at a;cases a
  .exact⟨sp,a,i,f⟩
theorem ztG{w:World}{q:Option Addr}{m c sz j:Nat}{cs:List Value}(h:nC w q m sz cs)(hj:j<=m)(hc:m<=c):nC w (if c=j then q else q.map (·.add (j*sz))) (m - j) sz (cs.drop (j*sz)):=by
 refine⟨by rw[aL,h.len,Nat.sub_mul],ag (Nat.sub_le _ _) h.max,λa=>?_⟩;have c:0<(m - j)*sz:=a;have k:0<m - j:=Nat.pos_of_mul_pos_right c;have l:(m - j)*sz+j*sz=m*sz:=by rw[<-cB];congr 1;omega
 obtain⟨b,e,hp,f,g⟩:=h.at_ eu;refine⟨b,e+j*sz,by rw[if_neg eu,hp,dZ,Addr.add_lit],f,λi o=>?_⟩;rw[bD,<-g (j*sz+i) eu]
 congr 2;omega
def Km(R:List Fv)(k:Nat)(v:List Value)(W:World):Prop:=∃ r,R[k]?=some r/\∃ sp,v=[.agg #[.int .u64 (r.c:Int), .int .i64 (r.nn:Int)], .slice sp r.b.length r.b.length]/\nC W sp r.b.length 1 (bv r.b)
theorem GK (l:List UInt8) (g1 ga oa n c:Nat) (w:World) (hn:n<=1000000) (h0n:0<n) (hcn:n<=c) (r1:row w g1 [.slice (some ⟨ga,oa,none⟩) n c] 190)
  (hs:nC w (some ⟨ga,oa,none⟩) n 128 (bv l)):KP Tryz.prog 250 [.pointer (some ⟨g1,0,none⟩)] (ut n l n).length (Km (ut n l n)) [g1,ga] w:=by
 intro a0 J Jx W I K c9 L a1;have M:=r1.new I;have N:=hs.new I;have O:=N.some eu;obtain⟨_,_,a2,O⟩:=O;cases a2;have d0:=Below.refl W.heap.size W;obtain⟨R,P⟩:=aa (ut n l n);rw[P]at L |-;refine nP (fn:=Tryz.f250) (rs:=[]) (n:=28) Tryz.func250 rfl rfl Tryz.ntmps250 dA rfl<|mR<|mO (mZ M)<|mV<|mQ<|oU ?_
 refine qZ (α:=Nat × Nat × Nat × Option Addr × List UInt8) (0,n,c,some ⟨ga,oa,none⟩,l) (λk=>[(0, .func (.yield a0) #[] #[]),(1, .pointer (some ⟨g1,0,none⟩)),(3, .slice k.2.2.2.1 k.2.1 k.2.2.1)])
  (λk w'=>k.1<=R.length/\k.2.1<=k.2.2.1/\k.2.1<=n/\(∃ f,k.2.1<=f/\R.drop k.1=ut f k.2.2.2.2 k.2.1)/\nC W k.2.2.2.1 k.2.1 128 (bv k.2.2.2.2)/\(∀ b o,k.2.2.2.1=some ⟨b,o,none⟩->0<k.2.1->b=ga)/\J k.1 w'/\(∀ x,x∈[g1,ga]->w'.heap[x]?=W.heap[x]?)/\W.heap.size<=w'.heap.size) (λk=>k.2.1) ⟨rfl,rfl,rfl,rfl⟩ ⟨aC _,hcn,ax _,⟨n,ax _,P.symm⟩,N,(λb o e _=>by cases e;rfl),a1,λ_ _=>rfl,ax _⟩ ?_
 rintro⟨k,m,j,q,h⟩ f r ⟨d1,a3,d2,⟨fu,d3,u⟩,p,Q,S,T,a4⟩;dsimp only at*;have g:=Below.refl r.heap.size r;have U:h.length=m*128:=by simpa [oh]using p.len
 have V:nC r q m 128 (bv h):=by
  by_cases a5:0<m
  .obtain⟨b,o,rfl,_⟩:=p.some eu
   obtain rfl:=Q b o rfl a5;exact p.blk (T b ig) a4
  .exact⟨p.len,p.max,λz=>absurd z (by rw[show m=0 by omega,bZ];exact gW 0)⟩
 cases hj:wh h m with
 |false=>
  have a6:k=R.length:=by
   have i:=congrArg List.length u;cases fu with
   |zero=>rw[ut,aL,aX]at i;omega
   |succ fu=>rw[ut,hj,if_neg ig,aL,aX]at i;omega
  refine oU<|mR<|mP<|qi rfl (nX dA rfl) (ztE q m j h r (V.new g) eu hj) ?_
  rintro _ A ⟨rfl,B⟩;replace g:=g.acc B;refine mP<|mO (nJ rfl rfl)<|mO (nJ rfl rfl)<|mO (nJ rfl rfl)<|mO (nJ rfl rfl)<|nz<|nU ([Value.int .u64 0,Value.int .i64 0]) dA<|λa7 a8 v s w=>?_
  have D:=ag g.size v;replace g:=g.acc w;refine nH<|nT 2 (_) s<|λd4 s a9=>?_
  replace g:=a9.below g D;refine mV<|mV<|mV<|mQ<|ng<|mR<|mP<|mO (oD rfl rfl)<|mP<|zU 18 rfl (iT)<|nE<|nE<|nE<|nE<|nE<|mO (pO rfl)<|mQ<|yj rfl<|nQ<|qb<|tu<|Bc<|tu<|nR [] trivial ?_
  exact Or.inl<|a6▸K _ _ _ S g
 |true=>
  have b0:=Sc hj;have b1:=b0.2.2 U;have E:∃ F,fu=F+1:=⟨fu - 1,eu⟩;obtain⟨fu,rfl⟩:=E;rw[ut,hj,if_pos rfl]at u;have b2:k<R.length:=by
   have i:=congrArg List.length u;rw[aL,aD]at i;omega
  have b3:R[k]?=some ⟨tJ (oM h 0),tZ (oM h 0),rQ h⟩:=by
   have i:=congrArg (λF=>F[0]?) u;simpa [bD]using i
  have b4:R.drop (k+1)=ut fu (h.drop (128*qC (rQ h).length)) (m - qC (rQ h).length):=by
   have i:=congrArg (List.drop 1) u;rw[dP]at i;exact i
  have b5:=ztF q m j h;generalize tJ (oM h 0)=C at*;generalize tZ (oM h 0)=b6 at*;generalize rQ h=G at*;generalize qC G.length=a at*;refine oU<|mR<|mP<|qi rfl (nX dA rfl) (b5 r (V.new g) eu hj) ?_
  rintro _ A ⟨X,rfl,b7,B⟩;replace g:=g.acc B;have t:=Below.refl (A).heap.size A;refine mP<|mO (nJ rfl rfl)<|mO (nJ rfl rfl)<|mO (nJ rfl rfl)<|mO (nJ rfl rfl)<|nz<|nU ([Value.int .u64 0,Value.int .i64 0]) dA<|λa7 a8 v s w=>?_
  have D:=ag g.size v;have b8:=ag t.size v;replace g:=g.acc w;replace t:=t.acc w;refine nH<|nT 2 (_) s<|λb9 s Y=>?_
  replace g:=Y.below g D;replace t:=Y.below t b8;refine mV<|mV<|mV<|mQ<|ng<|mR<|mP<|mO (oD rfl rfl)<|mP<|rD 18 rfl (ig)<|mY<|mP<|mY<|mO (oI 2 s)<|mY<|mP<|mY ?_
  have c4:=L k _ b9 b2 ⟨_,b3,X,rfl,b7.below t (ax _)⟩ (K _ _ _ S g);refine YD (vl:=[.agg #[.int .u64 (C:Int), .int .i64 (b6:Int)], .slice X G.length G.length]) rfl rfl c4 ?_;have H:=ztG p b1.1 a3;have d5:(h.drop (128*a)).length=(m - a)*128:=by rw[aL,U];omega
  replace H:nC W (if j=a then q else q.map (·.add (a*128))) (m - a) 128 (bv (h.drop (128*a))):=by rw[dY 128 a,Al];exact H
  rintro e d6 (⟨rfl,c5,c6,d7⟩|⟨rfl,c7⟩)
  .refine⟨_,rfl,?_⟩
   refine mY<|mO (sD rfl)<|mO (oo rfl)<|mQ<|Ni rfl<|nL<|ny<|nM<|mP<|mP<|mO (MV (e:=265) (sz:=128) a m j dA rfl ⟨_,_,rfl,rfl⟩ rfl rfl ig eu eu eu)<|mV<|oH<|pW<|oO ⟨(k+1,m - a,j - a,if j=a then q else q.map (·.add (a*128)),h.drop (128*a)),by show m - a<m;omega,⟨rfl,rfl,rfl,rfl⟩,by show k+1<=_;omega,by show m - a<=j - a;omega,by show m - a<=n;omega,⟨fu,by show m - a<=fu;omega,b4⟩,H,λb o e z=>?_,c5,λx y=>?_,?_⟩
   .have d8:0<m - a:=z
    have e:(if j=a then q else q.map (·.add (a*128)))=some ⟨b,o,none⟩:=e;rw[if_neg eu]at e;have E:=p.some eu;obtain⟨d9,e0,Z,_⟩:=E;rw[Z,dZ,Addr.add_lit]at e;cases e;exact Q _ _ Z eu
   .have c8:x<r.heap.size:=by
     simp only[ak,bu,or_false]at y;have i:=M.lt;rcases y with rfl|rfl<;>omega
    rw[c6 x y,g.block x c8,T x y]
   .have:=g.size;omega
  .refine⟨_,rfl,?_⟩
   refine mY<|mO (sD rfl)<|mO (oo rfl)<|mQ<|yj rfl<|nQ<|qb<|tu<|Bc<|tu<|nR [] trivial ?_
   exact Or.inr c7
theorem MH(l:List UInt8)(ga oa:Nat)(n cp:Nat)(w:World)(h:nC w (some ⟨ga,oa,none⟩) n 128 (bv l))(hn:n<=1000000)(h0n:0<n)(hcn:n<=cp):
  CQ 232 [.slice (some ⟨ga,oa,none⟩) n cp] w (λv w'=>∃ g1,v= .func (.func 250) #[] [.pointer (some ⟨g1,0,none⟩)].toArray/\g1<w'.heap.size/\w.heap.size<=g1/\Below w.heap.size w w'/\
   KP Tryz.prog 250 [.pointer (some ⟨g1,0,none⟩)] (ut n l n).length (Km (ut n l n)) [g1,ga] w'):=by
 have a:=Below.refl w.heap.size w;refine nP (fn:=Tryz.f232) (rs:=[.tmp 2]) (n:=4) Tryz.func232 rfl rfl Tryz.ntmps232 dA rfl<|mR<|nz<|oV ([_]) rfl<|λg1 w1 f c e=>?_
 replace a:=a.acc e;refine nV<|mO (sV)<|mV<|mQ<|nQ<|nR [_] ⟨rfl,trivial⟩ ?_
 have g:=a.size;exact⟨_,rfl,c.lt,eu,a,GK l _ ga oa n cp _ hn h0n hcn c (h.below a (ax _))⟩
theorem zpZ{l:List UInt8}{n:Nat}(hj:wh l n=true):(rQ l).length<=32768:=by
 rw[wh,aJ,aJ]at hj;have a:=hj.2;rw[Ju,aJ,aJ,aJ]at a;have c:=of_decide_eq_true a.1.1.2;rw[rQ,aH];omega
theorem p_:∀ (f:Nat) (l:List UInt8) (n:Nat) (r:Fv),r∈ut f l n->r.b.length<=32768
 |0,l,n,r,a=>by cases a
 |f+1,l,n,r,a=>by
  rw[ut]at a
  split at a
  .rename_i c
   rcases ak.1 a with rfl|a
   .exact zpZ c
   .exact p_ f _ _ r a
  .cases a
theorem YL:∀ (f:Nat) (l:List UInt8) (n:Nat),(ut f l n).length<=f
 |0,l,n=>ax 0
 |f+1,l,n=>by
  rw[ut]
  split
  .rw[aD];have:=YL f (l.drop (128*qC (rQ l).length)) (n - qC (rQ l).length);omega
  .simp
structure xV(w:World)(lo:Nat)(o:Option Nat)(vs:List Value)(L:List Rec):Prop where
 len:vs.length=L.length
 at_:∀ (i:Nat) l,L[i]?=some l->∃ b off c,vs[i]?=some (.slice (some ⟨b,off,none⟩) l.length c)/\nC w (some ⟨b,off,none⟩) l.length 513 (pY l)/\b<w.heap.size/\some b≠o/\l.length<=c/\lo<=b
namespace xV
variable {w w':World}{lo:Nat}{o:Option Nat}{vs:List Value}{L:List Rec}
theorem nil(w:World)(lo:Nat)(o:Option Nat):xV w lo o [] []:=⟨rfl,λi l a=>by simp at a⟩
theorem kp{M:List Nat}(h:xV w lo o vs L)(k:Kp M w w')(hM:∀ g,g∈M->w.heap.size<=g\/o=some g\/g<lo):xV w' lo o vs L:=⟨h.len,λi l f=>by
 obtain⟨b,g,c,j,m,o,a,p⟩:=h.at_ i l f;refine⟨b,g,c,j,m.nu k λr s e q=>?_,ae o k.size,a,p⟩;cases e;rcases hM b q with e|e|e
 .omega
 .exact a e.symm
 .omega⟩
theorem new(h:xV w lo o vs L)(hb:Below w.heap.size w w'):xV w' lo o vs L:=h.kp (M:=[]) (Kp.of_below hb) ig
theorem only{g:Nat}(h:xV w lo o vs L)(ho:Only g w w')(hg:g<lo):xV w' lo o vs L:=h.kp (Kp.rC ho) λb hb=>by rw[aM.1 hb];exact .inr (.inr hg)
theorem soft{B:Nat}(h:xV w lo o vs L)(k:uz B w w'):xV w' lo o vs L:=⟨h.len,λi l a=>by
 obtain⟨b,e,c,f,g,j,m⟩:=h.at_ i l a;exact⟨b,e,c,f,g.soft k,ae j k.size,m⟩⟩
theorem grow{v v':Value}(h:xV w lo v.ownBlock vs L)(hg:w.grownBy w' v.ownBlock)(hf:∀ g,v'.ownBlock=some g->v.ownBlock=some g\/w.heap.size<=g):xV w' lo v'.ownBlock vs L:=⟨h.len,λi l j=>by
 obtain⟨b,k,c,m,o,p,a,q⟩:=h.at_ i l j;refine⟨b,k,c,m,o.nu (Kp.rX hg) λr s e f=>?_,ae p hg.size,λe=>(hf b e.symm).elim (λg=>a g.symm) (λg=>eu),q⟩;cases e;simp only[ah]at f;exact a f.symm⟩
theorem snoc{b off c:Nat}{l:Rec}(h:xV w lo o vs L)(h2:nC w (some ⟨b,off,none⟩) l.length 513 (pY l))(h3:b<w.heap.size)(h4:some b≠o)(h5:l.length<=c)(h6:lo<=b):xV w lo o (vs++[.slice (some ⟨b,off,none⟩) l.length c]) (L++[l]):=
 ⟨by simp[h.len],λi l' a=>by
  by_cases e:i<L.length
  .rw[bG e]at a
   obtain⟨f,g,j,k,l,m,o,p⟩:=h.at_ i l' a;exact⟨f,g,j,by rw[bG (by rw[h.len];exact e)];exact k,l,m,o,p⟩
  .have q:i=L.length:=by
    have:=(aO.1 a).1;simp at this;omega
   subst q;simp at a;subst a;exact⟨b,off,c,by rw[<-h.len];simp,h2,h3,h4,h5,h6⟩⟩
end xV
def Ar(p:Option Addr)(S:List Rec):World->List Nat->Prop:=λw C=>(∀ b∈C,b<w.heap.size)/\∃ vs,nC w p S.length 1 vs/\(0<S.length->∀ b o,p=some ⟨b,o,none⟩->b∈C)/\
 ∀ (i:Nat) r,S[i]?=some r->∃ b a c,vs[i]?=some (.slice (some ⟨b,a,none⟩) r.length c)/\nC w (some ⟨b,a,none⟩) r.length 513 (pY r)/\b∈C
theorem KT{M:List Nat}{w w':World}{p:Option Addr}{m sz:Nat}{cs:List Value}(h:nC w p m sz cs)(k:Kp M w w')(hM:0<m->∀ b o,p=some ⟨b,o,none⟩->b∉M):nC w' p m sz cs:=by
 by_cases a:0<m
 .exact h.nu k<|hM a
 .exact⟨h.len,h.max,λc=>absurd c (by rw[show m=0 by omega,bZ];exact gW 0)⟩
instance(p:Option Addr)(S:List Rec):mW (Ar p S):=
 ⟨fun {w w' B M} ⟨h,vs,j,a,l⟩ k f=>⟨λb hb=>ae (h b hb) k.size,vs,KT j k λm b o e=>f b (a m b o e),a,λi r hr=>by
  obtain⟨b,p,c,q,s,g⟩:=l i r hr;exact⟨b,p,c,q,s.nu k (λu v e=>by cases e;exact f _ g),g⟩⟩,λt b hb=>t.1 b hb⟩
def zm(Y Z:World->List Nat->Prop):World->List Nat->Prop:=λw C=>∃ C1 C2,C=C1++C2/\Y w C1/\Z w C2
instance(Y Z:World->List Nat->Prop)[hY:mW Y][hZ:mW Z]:mW (zm Y Z):=
 ⟨fun {w w' B M} ⟨C1,C2,e,a,c⟩ k f=>⟨C1,C2,e,hY.nu a k λb hb=>f b (by rw[e];exact aF _ hb),hZ.nu c k λb hb=>f b (by rw[e];exact aB _ hb)⟩,
  fun {w B} ⟨C1,C2,e,a,c⟩ b hb=>by
   rw[e]at hb;exact(ay.1 hb).elim (hY.lt a b) (hZ.lt c b)⟩
theorem zrt{X Y Z:World->List Nat->Prop}[hX:mW X][hY:mW Y]{lo:Nat}{L M C:List Nat}{w w':World}(h:Two X Y lo L w)(k:Kp M w w')(hM:∀ b∈M,b<lo\/b∈L)(hz:Z w' C)(hC:∀ b∈C,w.heap.size<=b):Two X (zm Y Z) lo L w':=by
 obtain⟨⟨B,E,i,m,c,f⟩,j,l⟩:=h;have o:=λb hb=>hX.lt i b hb
 exact⟨⟨B,E++C,hX.nu i k λb hb a=>(hM b a).elim (λg=>absurd (c b hb).1 (dN.2 g)) (c b hb).2.2,
  ⟨E,C,rfl,hY.nu m k λb hb a=>(hM b a).elim (λg=>absurd (f b hb).1 (dN.2 g)) (f b hb).2,hz⟩,
  λb hb=>⟨(c b hb).1,λa=>(ay.1 a).elim (c b hb).2.1 λe=>absurd (o b hb) (bT.2 (hC b e)),(c b hb).2.2⟩,
  λb hb=>(ay.1 hb).elim (f b) λe=>⟨ag j (hC b e),λa=>absurd (l b a) (bT.2 (hC b e))⟩⟩,ag j k.size,λb hb=>ae (l b hb) k.size⟩
def AJ(D:Dk)(n:Nat):List UInt8:=((List.range n).map λi=>pF D (1+i)).flatten
theorem P_(D:Dk)(n:Nat):AJ D (n+1)=AJ D n++pF D (1+n):=by simp[AJ,gB]
theorem TF{D:Dk}(h:yL D){i:Nat}(hi:i<D.V.length):(pF D i).length=128:=TD (EK h hi).2.1
def Cr(s c k:Nat)(r:Fv):Option Rec:=if r.nn=k/\s<=r.c/\r.c<=c then zk r.b else none
def xR(s c:Nat):Nat->List Fv->List Rec
 |_,[]=>[]
 |k,r::R=>match Cr s c k r with
  |some x=>x::xR s c (k+1) R
  |none=>[]
def wU(S:List Rec):Nat:=(S.map λr=>qC (516*r.length)).sum
def xu(D:Dk)(G:Lg):List Rec:=xR G.since G.count 0 (ut G.size (AJ D G.size) G.size)
structure yF(w0:World)(B x g g1 g2 cc si n:Nat)(de:Bool)(T:List Rec)(W:World):Prop where
 rx:row W x [.int .u64 (cc:Int), .int .u64 (si:Int), .pointer (some ⟨g,0,none⟩), .int .i64 (n:Int), .int .i64 ((T.length:Nat):Int), .int .i64 ((wU T:Nat):Int), .bool de] 231
 r1:row W g1 [.pointer (some ⟨x,0,none⟩)] 160
 ow:∃ v vs,row W g2 [v] 196/\nY W B 159 1 v T.length vs/\xV W B v.ownBlock vs T
 kb:Kp [x] w0 W
theorem yF.soft{w0 W W':World}{B B' x g g1 g2 cc si n:Nat}{de:Bool}{T:List Rec}(h:yF w0 B x g g1 g2 cc si n de T W)(hs:uz B' W W')(hB:w0.heap.size<=B'):yF w0 B x g g1 g2 cc si n de T W':=
 ⟨h.rx.soft hs,h.r1.soft hs,let ⟨v,vs,h1,h2,h3⟩:=h.ow;⟨v,vs,h1.soft hs,h2.soft hs,h3.soft hs⟩,h.kb.soft hs hB⟩
theorem Dg{w0 W:World}{B e:Nat}{p:Option Addr}{c:Nat}{vs:List Value}{o:Option Nat}{S:List Rec}(hv:nY W B e 1 (.slice p S.length c) S.length vs)(hr:xV W B o vs S)(hB:w0.heap.size<=B):
  Ar p S W (List.range' w0.heap.size (W.heap.size - w0.heap.size)):=by
 have f:∀ b,w0.heap.size<=b->b<W.heap.size->b∈List.range' w0.heap.size (W.heap.size - w0.heap.size):=λb a g=>dh.2 ⟨a,eu⟩
 refine⟨λb hb=>by have:=dh.1 hb;omega,vs,hv.sl,λl b o e=>?_,λi r h=>?_⟩
 .subst e
  have:=hv.lt b rfl;exact f b eu this.2
 .obtain⟨b,j,c,a,g,k,_,_,m⟩:=hr.at_ i r h
  exact⟨b,j,c,a,g,f b eu k⟩
theorem zru{w:World}{base e sz m b:Nat}{v:Value}{xs:List Value}(h:nY w base e sz v m xs)(hb:v.ownBlock=some b):∃ o:Obj,w.heap[b]?=some o/\o.isCells=true:=by
 rcases h.2 with a|⟨g,e,f,i,rfl,j,c,rest⟩
 .simp[a,Value.ownBlock]at hb
 .cases hb;exact⟨_,c,rfl⟩
theorem V_{w:World}{base e sz m c:Nat}{p:Option Addr}{xs:List Value}(h:nY w base e sz (.slice p m c) m xs):m<=c:=by
 rcases h.2 with⟨a,_⟩|⟨g,f,i,j,c,k,l,e,_⟩
 .cases a;exact ax _
 .cases c;exact e
theorem Ot{s c k:Nat}{r:Fv}{R:List Fv}(h:Cr s c k r=none):xR s c k (r::R)=[]:=by rw[xR,h]
theorem XH{s c k:Nat}{r:Fv}{R:List Fv}{x:Rec}(h:Cr s c k r=some x):xR s c k (r::R)=x::xR s c (k+1) R:=by rw[xR,h]
theorem zoU(T:List Rec)(r:Rec):wU (T++[r])=wU T+qC (516*r.length):=by simp[wU]
theorem ER{b:List UInt8}{r:Rec}(h:zk b=some r):1<=r.length/\r.length<=60:=by
 unfold zk at h
 split at h
 .rename_i a
  cases h;rw[zw,aJ,aJ]at a;have:=of_decide_eq_true a.1.2
  rwa [VV]
 .cases h
section
variable {Y:World->List Nat->Prop}[mW Y]{g x lo:Nat}{L:List Nat}{D:Dk}{G:Lg}{w:World}
theorem ME(h:rF g x Y lo L D G w)(hok:AO D G)(h0:G.num=0)(h1:G.at_=0):
   CQ 187 [.pointer (some ⟨x,0,none⟩)] w (λv w'=>∃ p c,v= .tuple #[.slice p (xu D G).length c, .int .i64 0]/\(xu D G).length<=c/\
     rF g x (zm Y (Ar p (xu D G))) lo L D {G with num:=(xu D G).length,at_:=wU (xu D G)} w'/\mX lo L w w'):=by
 have y:=Below.refl w.heap.size w;have a:=h.rowx;have o6:=a.lt;have d5:=h.ge;have d6:=h.ni;have o7:=hok.fit;have o8:=hok.szm;have o9:=hok.sz4;have i2:=(yV h.two).1;have p0:maxLen=9223372036854775807:=by decide
 have f7:xu D G=xR G.since G.count 0 (ut G.size (AJ D G.size) G.size):=rfl;have i3:=λw' (hb:Below w.heap.size w w') i=>Dh (h.new hb).two i
 generalize xu D G=S at*;obtain⟨Z,a0,sz,p1,at_,b0⟩:=G;dsimp only[DR]at*;subst h0 h1;refine nP (fn:=Tryz.f187) (rs:=[.cell 2 196, .tmp 3]) (n:=99) Tryz.func187 rfl rfl Tryz.ntmps187 dA rfl<|mR<|nz<|oV ([_]) rfl<|λU w1 i4 j f8=>?_
 have f9:x<U:=ae a.lt i4;replace a:=a.new f8;replace y:=y.acc f8;refine nz<|nU ([Value.slice none 0 0]) dA<|λF w2 g0 p d7=>?_
 have e1:x<F:=ae a.lt g0;have i5:U<F:=ae j.lt g0;replace a:=a.new d7;replace j:=j.new d7;replace y:=y.acc d7;refine nV<|mV<|mQ<|ng<|mR<|mO (mZ j)<|mO (nW rfl)<|mO (nk 3)<|mO (mZ a)<|mP<|mQ<|oU ?_
 have a7:=a.lt;have p2:=j.lt;have p3:=p.lt;have d7:=y.size;refine qZ (α:=Nat × Value) (0, .slice none 0 0) (λk=>[(16, .int .i64 (k.1:Nat)),(15, .int .i64 (sz:Int)),(4,k.2),(1, .pointer (some ⟨U,0,none⟩)),(2, .pointer (some ⟨F,0,none⟩))])
   (λk w'=>k.1<=sz/\nY w' w2.heap.size 265 128 k.2 k.1 (bv (AJ D k.1))/\row w' x [.int .u64 (Z:Int), .int .u64 (a0:Int), .pointer (some ⟨g,0,none⟩), .int .i64 (sz:Int), .int .i64 ((0:Nat):Int), .int .i64 ((0:Nat):Int), .bool b0] 231/\row w' U [.pointer (some ⟨x,0,none⟩)] 160/\row w' F [.slice none 0 0] 196/\Below w.heap.size w w'/\w2.heap.size<=w'.heap.size) (λk=>sz - k.1)
   ⟨rfl,rfl,rfl,rfl,rfl,rfl⟩ ⟨aC _,ym _ _ _ _,a,j,p,y,ax _⟩ ?_
 clear a j p y;rintro⟨i,u⟩ f e2 ⟨p4,t,a,j,p,y,p5⟩;dsimp only at*;have K:=Below.refl e2.heap.size e2;refine mR<|mO (pE rfl rfl)<|mQ<|ng<|oP rfl (λi6=>?_)<|λi6=>?_
 ·
  refine nL<|ny<|ng<|oU<|mR<|mP<|nV ?_
  have i7:((1+i:Nat):Int)=1+(i:Int):=by omega
  have i8:xy D ((1+i:Nat):Int)=true:=decide_eq_true eu;have e3:=TF i2 (i:=1+i) eu;have g1:=P_ D i;obtain⟨s,L⟩:=aa (pF D (1+i));rw[L]at e3 g1;refine mO (mZ j)<|mO (nW rfl)<|mO (nk 2)<|mO (mZ a)<|mP<|mO (om rfl rfl (Coup.nN eu)) ?_
  have g2:=i3 _ y ((1+i:Nat):Int);rw[i8,if_pos rfl,if_pos rfl,aR,L,i7]at g2;refine nD (g2) ?_;rintro _ p6 ⟨rfl,b5⟩;replace a:=a.new b5;replace j:=j.new b5;replace p:=p.new b5;replace y:=y.acc b5;replace K:=K.acc b5;refine mP<|mO (nJ rfl rfl)<|mO (nJ rfl rfl)<|nz<|nU (List.replicate 128 (Value.int .u8 0)) dA<|λe4 p7 b6 e5 b7=>?_
  have i9:=ag y.size b6;have j0:=ag K.size b6;have j1:x<e4:=ae a.lt b6;have j2:U<e4:=ae j.lt b6;have j3:F<e4:=ae p.lt b6;replace a:=a.new b7;replace j:=j.new b7;replace p:=p.new b7;replace y:=y.acc b7;replace K:=K.acc b7;refine nH<|nT 128 (bv s) e5<|λp8 e5 b8=>?_
  replace a:=a.only b8 (ai j1);replace j:=j.only b8 (ai j2);replace p:=p.only b8 (ai j3);replace y:=b8.below y i9;replace K:=b8.below K j0;refine mV<|mQ<|ng<|mR<|mP<|mO (oD rfl rfl)<|mQ<|pJ rfl (ig)<|nL<|ny<|nM<|mP<|mO (ou rfl (Ld.qp (k:=128) e5 dA dA (by rw[oh,e3])))<|nz<|uE (e:=265) (.agg (bv s).toArray) (bv s) (List.replicate 128 (Value.int .u8 0)) 128 dA dA rfl rfl iw ⟨iT,iT⟩<|λp9 q0 q4 j4 b9=>?_
  replace a:=a.new b9;replace j:=j.new b9;replace p:=p.new b9;replace y:=y.acc b9;replace K:=K.acc b9;have j5:=j4.ul (m:=1) (sz:=128) (by rw[oh,e3]) eu;replace t:=t.new K;have q5:=K.size;refine nz<|uf (e:=265) (sz:=128) (bytes:=128) (z:=.agg (List.replicate 128 (Value.int .u8 0)).toArray) dA rfl dA rfl iT rfl t rfl j5 (tq _) jo eu (λj6=>eu)<|λj7 q6 g3 c4 q7=>?_
  replace a:=a.own t c4 eu;replace j:=j.own t c4 eu;replace p:=p.own t c4 eu;replace y:=y.own t c4 eu;refine mV<|oH<|pW<|ny<|nM<|mO (om rfl rfl (Coup.nN eu))<|mP<|oH ?_
  rw[<-wK,<-g1]at g3;refine oO ⟨(i+1,j7),by show _ - (i+1)<_ - i;omega,⟨by go_num,rfl,rfl,rfl,rfl,rfl⟩,by show i+1<=_;omega,g3,a,j,p,y,by have:=c4.size;have:=K.size;omega⟩
 ·
  have j8:i=sz:=by omega
  subst j8;have e6:=t.form' eu;obtain⟨ga,j9,k0,rfl,q8,q9,k7⟩:=e6;have k8:=t.sl;refine qP<|qL<|rf<|qX<|ny<|ng<|mR<|mP<|qi rfl (nX dA rfl) (MH (AJ D i) ga j9 i k0 e2 k8 eu eu k7) ?_
  rintro _ g4 ⟨k9,rfl,r0,r1,d8,g5⟩;replace a:=a.new d8;replace j:=j.new d8;replace p:=p.new d8;replace y:=y.acc d8;refine mQ<|oU ?_;have g6:=p_ i (AJ D i) i;have l0:=YL i (AJ D i) i;obtain⟨R,l1⟩:=aa (ut i (AJ D i) i);rw[l1]at g5 f7 g6 l0;have e7:=y.size;have e6:∃ b,(g4).heap.size=b:=⟨_,rfl⟩;obtain⟨b1,r2⟩:=e6;have r3:=j.lt;have r4:=p.lt;have l2:yF w b1 x g U F Z a0 i b0 [] g4:=⟨a,j,⟨_,[],p,ym _ _ _ _,xV.nil _ _ _⟩,Kp.AX y⟩;refine j_ (ps:=[39,40]) (m:=R.length) (V:=Km R) (ks:=[k9,ga]) (λ_ h=>h) rfl dA g5 (Below.refl _ _) (by rintro k v W ⟨r,_,c5,rfl,_⟩;rfl) dA ig
    (by intro r5 g7;simp only[ak,bu,or_false]at g7;rcases g7 with rfl|rfl<;>omega)
    (λk W=>k<=R.length/\∃ T:List Rec,T.length=k/\wU T<=1000*k/\S=T++xR a0 Z k (R.drop k)/\yF w b1 x g U F Z a0 i b0 T W)
    (λc W=>c= .exit 2/\yF w b1 x g U F Z a0 i b0 S W) (λk W W' ⟨h1,T,c6,l3,e8,e9⟩ L=>⟨h1,T,c6,l3,e8,e9.soft L e7⟩) (λc W W' ⟨h1,c6⟩ L=>⟨h1,c6.soft L e7⟩) ⟨aC _,[],rfl,ax _,f7,l2⟩ ?_ ?_ ?_
  · intro l k v W1 g8 l4 c7 r6
    obtain⟨l5,T,l6,l7,P,a1⟩:=c7;obtain⟨r,g9,c5,rfl,d9⟩:=l4;have r7:=g6 r (aN g9);have l8:R.drop k=r::R.drop (k+1):=by rw[dG g8];congr 1;exact bX ((aI g8).symm.trans g9)
    rw[l8]at P;have E:=Below.refl W1.heap.size W1;refine mR<|nz<|nU ([Value.int .u64 0,Value.int .i64 0]) dA<|λr8 r9 l9 X m0=>?_
    have m1:=ag E.size l9;replace E:=E.acc m0;refine nH<|nT 2 ([.int .u64 (r.c:Int), .int .i64 (r.nn:Int)]) X<|λs0 X m2=>?_
    replace E:=m2.below E m1;refine mQ<|nM<|mV<|oH<|⟨rfl,E,λW2 L=>?_⟩
    have X:=X.soft L;have d9:=(d9.new E).soft L;have s1:=L.size;have s2:=E.size;have m3:yF w b1 x g U F Z a0 i b0 T W2:=yF.soft (w0:=w) ⟨a1.rx.new E,a1.r1.new E,let ⟨v,vs,q1,q2,q3⟩:=a1.ow;⟨v,vs,q1.new E,q2.new E,q3.new E⟩,a1.kb.trans (Kp.AX E)⟩ L e7;obtain⟨a,j,⟨v,vs,p,t,H⟩,Y⟩:=m3;obtain⟨a2,a3,rfl⟩:=t.form;have q:=Below.refl W2.heap.size W2;have h2:=λw' (h:nC w' c5 r.b.length 1 (bv r.b))=>VB r.b c5 r.b.length r.b.length w' h (ax _) eu
    cases hrb:zk r.b with
    |none=>
      have a8:S=T:=by rw[P,Ot (by rw[Cr,hrb];split<;>rfl),aU]
      have m4:=λw' (h:nC w' c5 r.b.length 1 (bv r.b))=>(h2 w' h).to λv w2 h=>(show v= .tuple #[.slice none 0 0, .int .i64 4]/\Below w'.heap.size w' w2 from⟨h.1.elim (fun⟨_,_,_,_,h1,_⟩=>by rw[hrb]at h1;cases h1) λh=>h.2,h.2⟩)
      refine oU<|mR<|mP<|nD (m4 _ (d9.new q)) ?_
      rintro _ m5 ⟨rfl,a4⟩;replace a:=a.new a4;replace j:=j.new a4;replace q:=q.acc a4;refine mP<|mO (nJ rfl rfl)<|mO (nJ rfl rfl)<|mV<|mV<|mQ<|ng<|ng<|qz [] dA ?_;intro s3 f0 s4;replace a:=a.new f0;replace j:=j.new f0;replace q:=q.acc f0;refine mU 0 (nK)<|mU 1 (oD rfl rfl)<|mU 2 (nK)<|EN 48 rfl (iT)<|oK 3 dA rfl<|oK 4 dA rfl<|oK 5 dA rfl<|oK 6 dA rfl<|oK 7 dA rfl<|oK 8 dA rfl<|oK 9 dA rfl<|mU 10 (pO rfl)<|mU 11 (nK)<|oK 12 dA rfl<|oK 13 dA rfl<|oK 14 dA rfl<|oK 15 dA rfl<|oK 16 dA rfl<|oK 17 dA rfl<|oK 18 dA rfl<|oK 19 dA rfl<|mU 20 (pO rfl)<|mU 21 (nK)<|oK 22 dA rfl ?_;refine oK 23 dA rfl<|oK 24 dA rfl<|oK 25 dA rfl<|oK 26 dA rfl<|oK 27 dA rfl<|oK 28 dA rfl<|oK 29 dA rfl<|mU 30 (pO rfl)<|oL dA<|ny<|yj rfl<|qP<|qL<|Mf rfl ?_;exact⟨Jy (M:=[]) (Kp.of_below q) ig,rfl,a8▸⟨a,j,⟨_,vs,p.new q,t.new q,H.new q⟩,Y.trans (Kp.AX q)⟩⟩
    |some rr=>
      have m6:=λw' (h:nC w' c5 r.b.length 1 (bv r.b))=>(h2 w' h).to λv w2 h=>(show ∃ g o c,v= .tuple #[.slice (some ⟨g,o,none⟩) rr.length c, .int .i64 0]/\w'.heap.size<=g/\rr.length<=c/\nC w2 (some ⟨g,o,none⟩) rr.length 513 (pY rr)/\Below w'.heap.size w' w2 from h.1.elim (fun⟨s5,g,o,c,h1,c6,e8,e9,m7⟩=>by rw[hrb]at h1;cases h1;exact⟨g,o,c,c6,e8,e9,m7,h.2⟩) λh=>by rw[hrb]at h;cases h.1)
      have m8:=ER hrb;have h3:=QJ m8;have s6:qC (516*rr.length)<=1000:=by unfold qC qw;omega
      refine oU<|mR<|mP<|nD (m6 _ (d9.new q)) ?_
      rintro _ m5 ⟨f1,oq,h4,rfl,s7,m9,b2,a4⟩;replace X:=X.new a4;replace a:=a.new a4;replace j:=j.new a4;replace q:=q.acc a4;refine mP<|mO (nJ rfl rfl)<|mO (nJ rfl rfl)<|mV<|mV<|mQ<|ng<|ng<|qz [] dA ?_;intro n0 c8 s8;replace X:=X.new c8;replace a:=a.new c8;replace j:=j.new c8;replace b2:=b2.new c8;replace q:=q.acc c8;have f2:=X;have f3:=a;have f4:=j;refine mU 0 (nK)<|mU 1 (oD rfl rfl)<|mU 2 (nK)<|Aw 48 rfl (ig)<|mU 3 (nk 1)<|nI 4 (λw' A=>mZ (f2.kq A))<|nI 5 (λw' A=>mZ (f4.kq A))<|mU 6 (nW rfl)<|mU 7 (nk 4)<|nI 8 (λw' A=>mZ (f3.kq A))<|mU 9 (oD rfl rfl)<|mU 10 (oo rfl)<|mU 11 (nK)<|DJ 57 rfl (λn1=>?_)<|λn1=>?_
      ·
       refine oK 12 dA rfl<|oK 13 dA rfl<|oK 14 dA rfl<|oK 15 dA rfl<|oK 16 dA rfl<|oK 17 dA rfl<|oK 18 dA rfl<|oK 19 dA rfl<|mU 20 (pO rfl)<|mU 21 (nK)<|oK 22 dA rfl<|oK 23 dA rfl<|oK 24 dA rfl<|oK 25 dA rfl<|oK 26 dA rfl<|oK 27 dA rfl<|oK 28 dA rfl<|oK 29 dA rfl<|mU 30 (pO rfl)<|oL dA<|ny<|yj rfl<|qP<|qL<|Mf rfl ?_
       have a8:S=T:=by rw[P,Ot (by rw[Cr,if_neg eu]),aU]
       exact⟨Jy (M:=[]) (Kp.of_below q) ig,rfl,a8▸⟨a,j,⟨_,vs,p.new q,t.new q,H.new q⟩,Y.trans (Kp.AX q)⟩⟩
      ·
       refine mU 12 (nk 0)<|nI 13 (λw' A=>mZ (f2.kq A))<|nI 14 (λw' A=>mZ (f4.kq A))<|mU 15 (nW rfl)<|mU 16 (nk 0)<|mU 17 (nk 1)<|nI 18 (λw' A=>mZ (f3.kq A))<|mU 19 (pE rfl rfl)<|mU 20 (oo rfl)<|mU 21 (nK)<|DJ 67 rfl (λh5=>?_)<|λh5=>?_
       ·
        refine oK 22 dA rfl<|oK 23 dA rfl<|oK 24 dA rfl<|oK 25 dA rfl<|oK 26 dA rfl<|oK 27 dA rfl<|oK 28 dA rfl<|oK 29 dA rfl<|mU 30 (pO rfl)<|oL dA<|ny<|yj rfl<|qP<|qL<|Mf rfl ?_
        have a8:S=T:=by rw[P,Ot (by rw[Cr,if_neg eu]),aU]
        exact⟨Jy (M:=[]) (Kp.of_below q) ig,rfl,a8▸⟨a,j,⟨_,vs,p.new q,t.new q,H.new q⟩,Y.trans (Kp.AX q)⟩⟩
       ·
        refine mU 22 (nk 0)<|nI 23 (λw' A=>mZ (f2.kq A))<|nI 24 (λw' A=>mZ (f4.kq A))<|mU 25 (nW rfl)<|mU 26 (nk 0)<|mU 27 (nk 0)<|nI 28 (λw' A=>mZ (f3.kq A))<|mU 29 (rq rfl rfl)<|mU 30 (oo rfl)<|oL dA<|ny<|oP rfl (λn2=>?_)<|λn2=>?_
        ·
         refine qP<|qL<|Mf rfl ?_
         have a8:S=T:=by rw[P,Ot (by rw[Cr,if_neg eu]),aU]
         exact⟨Jy (M:=[]) (Kp.of_below q) ig,rfl,a8▸⟨a,j,⟨_,vs,p.new q,t.new q,H.new q⟩,Y.trans (Kp.AX q)⟩⟩
        ·
         have n3:Cr a0 Z k r=some rr:=by rw[Cr,if_pos eu,hrb]
         rw[XH n3]at P;have a5:=t;have s9:=h5;refine nL<|ny<|mR ?_
         replace p:=p.new q;replace t:=t.new q;replace H:=H.new q;have t0:=q;have C:sI (x::F::(Value.slice a2 T.length a3).ownBlock.toList) W2 n0:=⟨Kp.AX q⟩;have t1:=q.size;refine mO (mZ p)<|mP<|nz<|uE (e:=159) (.slice (some ⟨f1,oq,none⟩) rr.length h4) ([.slice (some ⟨f1,oq,none⟩) rr.length h4]) ([Value.slice none 0 0]) 1 dA dA rfl rfl rfl ⟨iT,iT⟩<|λt2 t3 t4 n4 a6=>?_
         replace a:=a.new a6;replace j:=j.new a6;replace b2:=b2.new a6;replace p:=p.new a6;replace t:=t.new a6;replace H:=H.new a6;replace C:=C.new a6;have n5:=n4.ul (m:=1) (sz:=1) rfl eu;have n6:=(b2.some eu);obtain⟨_,_,n7,n8⟩:=n6;cases n7;have t5:=a6.size;refine nz<|uf (e:=159) (sz:=1) (bytes:=24) (z:=Value.slice none 0 0) dA rfl dA rfl iT rfl t rfl n5 ko jo eu (λj6=>eu)<|λt6 t7 Q a9 h6=>?_
         replace a:=a.own t a9 eu;replace j:=j.own t a9 eu;replace p:=p.own t a9 eu;obtain⟨t8,t9,rfl⟩:=Q.form;have e0:∀ b,(Value.slice a2 T.length a3).ownBlock=some b->b1<=b/\b<W2.heap.size:=a5.lt;have n9:=b2.nu (Kp.rX a9) (λb o e I=>by cases e;have:=(e0 _ (ah.1 I)).2;omega);have J:=(H.grow a9 h6).snoc n9 (ae n8 a9.size) (λe=>(h6 f1 e.symm).elim (λh7=>by have:=(e0 _ h7).2;omega) (λh7=>eu)) m9 eu;replace C:=C.nu (Kp.rX a9) (λb hb=>.inl (aj _ (aj _ hb)));refine nH<|oW p<|λu0 p c9=>?_
         replace a:=a.only c9 (ai e1);replace j:=j.only c9 (ai i5);replace Q:=Q.only c9 eu;replace C:=C.only c9 iB;replace J:=J.only c9 eu;refine pV<|mO (mZ j)<|mO (nW rfl)<|mO (nk 4)<|mO (mZ a)<|mO (om rfl rfl (Coup.nN eu))<|mO (nW rfl)<|mO (nk 4)<|nH<|oW a<|λo0 a d0=>?_
         replace j:=j.only d0 (bA f9);replace p:=p.only d0 (bA e1);replace Q:=Q.only d0 eu;replace C:=C.only d0 iB;replace J:=J.only d0 eu;refine mQ ?_;have a7:row o0 x [.int .u64 (Z:Int), .int .u64 (a0:Int), .pointer (some ⟨g,0,none⟩), .int .i64 (i:Int), .int .i64 (((T.length:Nat):Int)+1), .int .i64 ((wU T:Nat):Int), .bool b0] 231:=a;replace a:=a7;clear a7;refine qz [x] dA ?_;intro u1 b3 h8;replace a:=a.new b3;replace j:=j.new b3;replace p:=p.new b3;replace Q:=Q.new b3;replace C:=C.new b3;replace J:=J.new b3;have o1:=j;refine nI 0 (λw' A=>mZ (o1.kq A))<|mU 1 (nW rfl)<|mU 2 (nk 5)<|mU 4 (nK)<|mU 5 (oQ (e:=164) (sz:=513) dA rfl rfl)<|yM 6 dA rfl (λ_=>nX dA rfl) (λw' A=>Nq rr.length w')<|nS 3 dA<|Ap rfl rfl (mZ a) h8<|mU 7 (om rfl rfl (Coup.nN (by rw[h3.1];omega)))<|mU 8 (nW rfl)<|mU 9 (nk 5)<|nS 10 dA<|qR rfl rfl<|oW a<|λu2 a b4=>?_
         have o2:=h8.aq b4;refine⟨o2,?_⟩;replace j:=j.only b4 (bA f9);replace p:=p.only b4 (bA e1);replace Q:=Q.only b4 eu;replace C:=C.only b4 iB;replace J:=J.only b4 eu;refine oL dA<|pW ?_
         have o3:(((T++[rr]).length:Nat):Int)=((T.length:Nat):Int)+1:=by rw[aA];rfl
         have o4:((wU (T++[rr]):Nat):Int)=((wU T:Nat):Int)+vo rr.length:=by rw[zoU,h3.1];rfl
         refine⟨Jy C.k λb hb=>?_,λb hb=>?_,eu,T++[rr],by rw[aA,dM];omega,by rw[zoU];omega,by rw[aG];exact P,by rw[o3,o4];exact a,j,⟨_,_,p,by rw[aA];exact Q,J⟩,?_⟩
         .rcases ak.1 hb with rfl|hb
          .left;omega
          .rcases ak.1 hb with rfl|hb
           .left;omega
           .right;exact zru a5 (ah.1 hb)
         .have h9:b<b1/\b≠x/\b≠F:=by
           simp only[ak,bu,or_false]at hb;rcases hb with rfl|rfl<;>omega
          refine C.k.block b eu λI=>?_
          rcases ak.1 I with e|I
          .exact h9.2.1 e
          .rcases ak.1 I with e|I
           .exact h9.2.2 e
           .have:=(e0 _ (ah.1 I)).1;omega
         .refine((⟨Y⟩:sI [x] w W2).nu C.k λb I=>?_).k
          rcases ak.1 I with e|I
          .left;simp[e]
          .rcases ak.1 I with e|I
           .right;omega
           .have:=(e0 _ (ah.1 I)).1;right;omega
  · intro Dd W o5 c7 N
    obtain⟨l5,T,l6,l7,P,a1⟩:=c7;rw[List.drop_length,xR,aU]at P;subst P;obtain⟨a,j,⟨v,vs,p,t,H⟩,Y⟩:=a1;obtain⟨a2,a3,rfl⟩:=t.form;refine pW<|ny<|mR<|mO (mZ p)<|nH<|oW p<|λi0 p d1=>?_
    have d2:(i0).heap[Dd]?=some (.deferred (some [])):=((Kp.rC d1).block Dd (aY.1 N).1 jQ).trans N;replace N:=d2;clear d2;have O:=uz.put (B:=w.heap.size) (.deferred none) N eu rfl;have f5:row i0 F [.slice a2 S.length a3] 196:=p;have f6:=f5.soft O;have a7:=(a.only d1 eu).soft O;have a5:=(t.only d1 eu).soft O;have J:=(H.only d1 eu).soft O;have d3:=((⟨Y⟩:sI [x] w W).only d1 (by right;omega)).k.soft O (ax _);refine mV<|mQ<|nQ<|Oh [_,_] Dd N ⟨⟨_,rfl,Ld.qN f6 dA rfl⟩,rfl,trivial⟩ ?_
    exact⟨a2,a3,rfl,V_ a5,⟨zrt h.two d3 (λb hb=>.inr (by simp at hb;simp[hb])) (Dg a5 J eu) (λb hb=>(dh.1 hb).1),a7,d5,d6⟩,mX.Lj d3 (λb hb=>.inl (by simp at hb;subst hb;exact⟨d5,d6⟩))⟩
  · intro Dd c W' o5 c7 N
    obtain⟨rfl,a1⟩:=c7;obtain⟨a,j,⟨v,vs,p,t,H⟩,Y⟩:=a1;obtain⟨a2,a3,rfl⟩:=t.form;refine⟨dA,qP ?_⟩;refine qX<|ny<|mR<|mO (mZ p)<|nH<|oW p<|λi1 p d4=>?_
    have d2:(i1).heap[Dd]?=some (.deferred (some [])):=((Kp.rC d4).block Dd (aY.1 N).1 jQ).trans N;replace N:=d2;clear d2;have O:=uz.put (B:=w.heap.size) (.deferred none) N eu rfl;have f5:row i1 F [.slice a2 S.length a3] 196:=p;have f6:=f5.soft O;have a7:=(a.only d4 eu).soft O;have a5:=(t.only d4 eu).soft O;have J:=(H.only d4 eu).soft O;have d3:=((⟨Y⟩:sI [x] w W').only d4 (by right;omega)).k.soft O (ax _);refine mV<|mQ<|nQ<|Oh [_,_] Dd N ⟨⟨_,rfl,Ld.qN f6 dA rfl⟩,rfl,trivial⟩ ?_
    exact⟨a2,a3,rfl,V_ a5,⟨zrt h.two d3 (λb hb=>.inr (by simp at hb;simp[hb])) (Dg a5 J eu) (λb hb=>(dh.1 hb).1),a7,d5,d6⟩,mX.Lj d3 (λb hb=>.inl (by simp at hb;subst hb;exact⟨d5,d6⟩))⟩
end
end Go.Proofs.YtpaniebomegnbaaGreat
