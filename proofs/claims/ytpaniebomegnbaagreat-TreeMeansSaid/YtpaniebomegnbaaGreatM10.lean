import Derived.Test.YtpaniebomegnbaaGreatM9
set_option maxHeartbeats 8000000
set_option maxRecDepth 20000
namespace Go.Proofs.YtpaniebomegnbaaGreat
open Go Go.RowKit Coup
def uL(N:Nat)(f:Nat->Int):List Int:=(List.range N).map f
theorem UJ(N:Nat)(f:Nat->Int):(uL N f).length=N:=by unfold uL;simp
theorem WC{N n:Nat}{f:Nat->Int}{v:Int}(h:n<N):(uL N f).set n v=uL N (xK f [n] v):=by
 refine dI λi=>?_
 unfold uL xK;rw[ek]
 by_cases e:n=i
 .subst e
  simp[h]
 .rw[if_neg e]
  by_cases a:i<N
  .simp[a,bT e]
  .rw[bK jY,bK jY]
theorem Ti{N:Nat}{f g:Nat->Int}(h:∀ i,i<N->f i=g i):uL N f=uL N g:=iq λi a=>h i (bZ.1 a)
def AU(n i:Nat):Int:=if i=0 then 0 else if i<n then 3 else 0
theorem Ha(N:Nat):List.replicate (N*1) (VB 0)=iv (uL N (AU 1)):=by
 have:uL N (AU 1)=List.replicate N 0:=by
  refine dI λi=>?_
  unfold uL AU
  by_cases a:i<N
  .simp[a]
  .rw[bK jY,bK jY]
 rw[this,dD,iv,fP]
theorem Py{N n:Nat}(h1:1<=n):uL N (xK (AU n) [n] 3)=uL N (AU (n+1)):=Ti λi _=>by
 unfold xK AU
 by_cases e:i=n
 .subst e;simp;omega
 .have:i<n↔i<n+1:=by omega
  simp[e,this]
def Ue(N:Nat)(H:HS)(g gs:Nat)(w:World):Prop:=row w g [.slice (some ⟨gs,0,none⟩) N N] 54/\row w gs (iv (uL N (Bd H))) 3
instance(N:Nat)(H:HS)(g gs:Nat):Kept [g,gs] (Ue N H g gs):=⟨fun⟨c,e⟩ k a=>⟨c.nD k (a g ig),e.nD k (a gs ig)⟩⟩
theorem rC.liF{N:Nat}{H:HS}{fl:List Nat}{z:Nat->Pg}{G:Nat->Pg}(hH:rC N H fl)(hG:GS z G H):Gt G H.S H.F.fresh 0 H.F.free fl:=
 ⟨hH.ch,λm c=>have a:=hH.fk m c;⟨a.1,a.2.1,hH.SK hG a.1 a.2.1,a.2.2⟩,by
  have f:=EG (H.F.fresh - 1) 1 fl hH.nd λx e=>by have:=hH.fk x e;have:=hH.f1;omega
  have:=hH.f1;omega⟩
section
variable {Y:VE}[hYT:nz Y]{q jb mw N lo:Nat}{L:List Nat}{G0 V:Nat->Pg}{k:Nat}{H:HS}{fl rl:List Nat}{R:Nat->Nat->Prop}{P:Nat->Nat->List Nat}{B:Nat->Nat->List UInt8}{w:World}
end
def F0:sQ:=⟨1,0,0,0,0⟩
def H0:HS:=⟨F0,λ_=>sJ 0⟩
theorem SQ{N:Nat}(h:1<=N):rC N H0 []:=⟨ax _,h,(λn e a=>by have f:n<1:=a;omega),rfl,(λn c=>by cases c),fI,rfl,(by show 0<1;omega),(by show 0<N;omega)⟩
theorem Rh{N:Nat}(h:1<=N):HI N H0 [] [] (λ_ _=>False) (λ_ _=>[]) (λ_ _=>[]) []:=
 ⟨SQ h,⟨rfl,(λm f=>by cases f),fI⟩,(λm s h=>h.elim),(λm s i j n h=>h.elim),(λn g=>by cases g),(λn c a=>by have e:n<1:=a;omega),(λn c a=>by have e:n<1:=a;omega),λn c a=>by have e:n<1:=a;omega⟩
theorem Ij:Full H0 [] (λ_ _=>False):=λm a=>by cases a
theorem pg0(n:Nat):um (λ_=>uQ) 0 (oW (yu F0)) n=nQ H0 n:=by
 unfold um nQ
 split
 .rfl
 .rw[if_neg (by show¬n<1;omega)]
section
variable {Y:VE}[hYT:nz Y]{q N lo:Nat}{L:List Nat}{G V:Nat->Pg}{k:Nat}{H:HS}{fl:List Nat}{w:World}
theorem Fp(h:Two (GZ q N (λ_=>uQ) V k) Y lo L w):CQ 66 [VA q] w (λv w'=>v=VB 0/\Two (GZ q N (nQ H0) V k) Y lo L w'/\nC lo L w w'):=by
 have t:=ER h;have c:=λw'=>Xi F0 w'
 have g:=Aq (yu F0) (Qo F0).size;have e:=λL' w' (i:Two (GZ q N (λ_=>uQ) V k) Y lo L' w')=>(Dy i 0 dB g).to λv w2 ⟨j,l,m⟩=>(show v=VB 0/\Two (GZ q N (nQ H0) V k) Y lo L' w2/\nC lo L' w' w2 from⟨j,UI l λ_ o=>GZ.congr o λn _=>pg0 n,m⟩)
 have a:=nC.refl lo L w;obtain⟨Q,p⟩:=aa (oW (yu F0));simp only[p]at c e;refine nZ (rs:=[.tmp 2]) (n:=7) Tryz.func66 rfl rfl Tryz.ntmps66 dA rfl<|ny<|oG<|ng<|mZ (Ay (VB 1) (xc F0) rfl dA)<|nP (c w) ?_
 rintro _ r ⟨rfl,f⟩;replace a:=a.new f;replace h:=h.new f;refine nP (e _ r h) ?_;rintro _ u ⟨rfl,h,s⟩;replace a:=a.lq s;refine lZ ?_;exact⟨rfl,h,a⟩
theorem KX(a:Value)(w:World):CQ 131 [a] w (λ_ w'=>w=w'):=by
 refine nZ (rs:=[]) (n:=2) Tryz.func131 rfl rfl Tryz.ntmps131 dA rfl<|nU<|zS [] trivial ?_
 exact rfl
theorem Qp(h:Two (GZ q N (nQ H) V k) Y lo L w)(hH:rC N H fl):CQ 67 [VA q] w (λv w'=>∃ hb,v= .tuple #[VA hb,VB 0]/\row w' hb [VA q] 201/\w.heap.size<=hb/\Two (GZ q N (nQ H) V k) Y lo (hb::L) w'/\nC lo L w w'):=by
 have a:=nC.refl lo L w;have i:CQ 130 [VA q, .func (.func 131) #[] ([]:List Value).toArray] w (λv w'=>v=VB 0/\Two (GZ q N (nQ H) V k) Y lo L w'/\nC lo L w w'):=by
  refine(Jb h hH.hr 131 [] dA (λH' c Y'=>H'=H/\Y'=Y) (λe Y'=>False)
   (λH' c Y' ⟨_,e⟩=>by subst e;infer_instance) (λe Y' h=>h.elim) (λH' c Y' ⟨e,_⟩=>by rw[e];exact ax _) λjb mw L' w' u y j=>?_).to λv w' h=>?_
  .exact(KX _ w').toP λv w2 e=>by subst e;exact⟨H,fl,Y,⟨rfl,rfl⟩,j,nC.refl _ _ _⟩
  .rcases h with⟨H',c,Y',G',⟨rfl,rfl⟩,l,m,o,p⟩|⟨e,Y',h,_⟩
   .exact⟨l,m.two o,p⟩
   .exact h.elim
 refine nZ (rs:=[.tmp 2, .tmp 3]) (n:=13) Tryz.func67 rfl rfl Tryz.ntmps67 dA rfl<|ny<|nA<|nA<|nk<|nI<|ny<|ng<|nP i ?_
 rintro _ z ⟨rfl,h,r⟩;replace a:=a.lq r;refine oG<|ng<|mZ (pJ rfl rfl)<|nk<|qg rfl (iT)<|nU<|nJ<|ny<|ng<|mZ (Ay (VA q) [VA q] rfl dA)<|nK<|qi ([VA q]) rfl<|λs A t f g=>?_
 have B:=a.size;replace a:=a.new g;replace h:=h.nL g t f.lt;refine nA<|nA<|nk<|nY<|ou [_,_] ⟨rfl,rfl,trivial⟩ ?_
 exact⟨s,rfl,f,by have:=a.size;omega,h,a⟩
end
end Go.Proofs.YtpaniebomegnbaaGreat
namespace Go.Proofs.YtpaniebomegnbaaGreat
open Go Go.RowKit Coup Go.ChangeShapes Go.WideShapes Go.Deep
section
variable {Y:VE}[hYT:nz Y]{q N lo:Nat}{L:List Nat}{V:Nat->Pg}{k:Nat}{H:HS}{fl rl:List Nat}{R:Nat->Nat->Prop}{P:Nat->Nat->List Nat}{B:Nat->Nat->List UInt8}{w:World}
end
end Go.Proofs.YtpaniebomegnbaaGreat
namespace Go.Proofs.YtpaniebomegnbaaGreat
open Go Go.RowKit Coup
structure HM(N:Nat)(H:HS)(fl rl:List Nat)(R:Nat->Nat->Prop)(P:Nat->Nat->List Nat)(B:Nat->Nat->List UInt8)(A:List (Nat × Nat))(Gv:List Nat):Prop where
 hi:HI N H fl rl R P B []
 full:Full H rl R
 ra:∀ m s,R m s↔(m,s)∈A
 nd:A.Nodup
 gn:Gv.Nodup
 g3:∀ n,n∈Gv↔(H.S n).kind=3
 gf:∀ n∈Gv,1<=n/\n<H.F.fresh
 k3:∀ n,(H.S n).kind<=3
theorem Sq{α:Type}{l:List α}(h:l.Nodup){i j:Nat}{x:α}(hi:l[i]?=some x)(hj:l[j]?=some x):i=j:=
 (List.getElem?_inj (aL.1 hi).1 h).1 (hi.trans hj.symm)
theorem Tp{α:Type}{l:List α}(h:l.Nodup){k:Nat}{x:α}(hk:l[k]?=some x)(y:α):y∈l.eraseIdx k↔y∈l/\y≠x:=by
 constructor
 .intro f
  obtain⟨i,a,c⟩:=jS.1 f
  .exact⟨aO c,λe=>by subst e;exact a (Sq h c hk)⟩
 .rintro⟨f,c⟩
  obtain⟨i,a⟩:=eZ.1 f;exact jS.2 ⟨i,λe=>by rw[e,hk]at a;exact c (bQ a).symm,a⟩
namespace HM
variable {N:Nat}{H H':HS}{fl rl:List Nat}{R:Nat->Nat->Prop}{P:Nat->Nat->List Nat}{B:Nat->Nat->List UInt8}{A:List (Nat × Nat)}{Gv:List Nat}{b:List UInt8}{m s:Nat}
theorem give(h:HM N H fl rl R P B A Gv){n:Nat}{fl':List Nat}(hg:Fx N H fl 3 n H' fl'):HM N H' fl' rl R P B A (Gv++[n]):=by
 have j:=h.hi.gave hg (U:=sJ 3) (AJ dB) rl (.inl ⟨rfl,rfl⟩);rw[if_pos (show(sJ 3).kind=3 from rfl)]at j;have l:qG H'.S n (sJ 3)=H'.S:=funext λi=>by
  by_cases e:i=n
  .rw[e,uU,hg.new]
  .rw[tF e]
 rw[l]at j;have o:∀ m∈rl,m≠n:=λm f e=>by
  have p:=h.hi.rk.at_ m f;rcases hg.was with g|g
  .have:=(h.hi.ok.fk n g).2.2;rw[e]at p;omega
  .omega
 have q:n∉Gv:=λf=>by
  have u:=h.gf n f;have y:=(h.g3 n).1 f;rcases hg.was with g|g
  .have:=(h.hi.ok.fk n g).2.2;omega
  .omega
 refine⟨j,λm f=>?_,h.ra,h.nd,bU.2 ⟨h.gn,ig,λa r c s e=>by rw[aJ.1 s]at e;exact q (e▸r)⟩,λi=>?_,λi t=>?_,λi=>?_⟩
 .rw[hg.old m (o m f)];exact h.full m f
 .rw[ay,aJ]
  by_cases e:i=n
  .rw[e,hg.new];exact⟨λ_=>rfl,λ_=>.inr rfl⟩
  .rw[hg.old i e,<-h.g3];exact⟨λh=>h.resolve_right e, .inl⟩
 .rcases ay.1 t with k|k
  .have:=h.gf i k;have:=hg.grow;omega
  .rw[aJ.1 k];exact⟨hg.n1,hg.nf⟩
 .by_cases e:i=n
  .rw[e,hg.new];exact ax 3
  .rw[hg.old i e];exact h.k3 i
theorem back(h:HM N H fl rl R P B A Gv)(hN:N<=2048){k n:Nat}(hk:Gv[k]?=some n):HM N (wZ H n) (n::fl) rl R P B A (Gv.eraseIdx k):=by
 have f:=aO hk;have g:=h.gf n f;have l:=(h.g3 n).1 f;have a:∀ i,i≠n->(wZ H n).S i=H.S i:=λi c=>tF c
 have j:((wZ H n).S n).kind=0:=by show(qG H.S n _ n).kind=0;rw[uU];rfl
 refine⟨h.hi.back hN g.1 g.2 l,λm k=>?_,h.ra,h.nd,h.gn.eraseIdx _,λi=>?_,λi c=>?_,λi=>?_⟩
 .rw[a m λe=>by have:=h.hi.rk.at_ m k;rw[e]at this;omega];exact h.full m k
 .rw[Tp h.gn hk]
  by_cases e:i=n
  .rw[e,j];exact⟨λh=>absurd rfl h.2,λh=>absurd h iT⟩
  .rw[a i e,<-h.g3];exact⟨λh=>h.1,λh=>⟨h,e⟩⟩
 .exact h.gf i ((Tp h.gn hk i).1 c).1
 .by_cases e:i=n
  .rw[e,j];omega
  .rw[a i e];exact h.k3 i
end HM
namespace HM
variable {N:Nat}{H:HS}{fl rl:List Nat}{R:Nat->Nat->Prop}{P:Nat->Nat->List Nat}{B:Nat->Nat->List UInt8}{A:List (Nat × Nat)}{Gv:List Nat}
theorem Qr(h:HM N H fl rl R P B A Gv){n:Nat}(hn:n∈rl):∃ s,R n s:=by
 obtain⟨g,i⟩:=h.full n hn;have a:=h.hi.rk.at_ n hn;have f:=(h.hi.ok.gd n a.1 a.2.1).last;rcases iL (H.S n).slots with e|⟨T,t,e⟩
 .exact absurd e g
 .rw[iM]at e
  rw[e]at f;cases t with
  |none=>exact absurd ig f
  |some c=>exact⟨T.length,i T.length c kz⟩
theorem Mh{N:Nat}(h:1<=N):HM N H0 [] [] (λ_ _=>False) (λ_ _=>[]) (λ_ _=>[]) [] []:=
 ⟨Rh h,Ij,(λm s=>⟨λh=>h.elim,λh=>(by cases h)⟩),fI,fI,(λn=>⟨λh=>(by cases h),λh=>absurd h (by show¬(0:Nat)=3;decide)⟩),(λn h=>by cases h),(λn=>aC _)⟩
end HM
def Bt:(lv:Nat)->Key × V3->Key × Val lv
 |0,c=>(c.1,(c.2.1,c.2.2.1))
 |_+1,c=>(c.1,(⟨c.2.2.2,[]⟩:XD _))
theorem zvo:∀ (lv:Nat) (c:Key × V3),(Bt lv c).1=c.1
 |0,_=>rfl
 |_+1,_=>rfl
theorem Ms:∀ (lv:Nat) (c:Key × V3),uJ lv (Bt lv c)=qh lv c
 |0,c=>by unfold qh;rw[if_pos rfl];rfl
 |lv+1,c=>by unfold qh;rw[if_neg (jK lv)];rfl
theorem Wj(lv:Nat)(cs:List (Key × V3)):(cs.map (Bt lv)).map (λx=>(uJ lv x).length)=cs.map λc=>(qh lv c).length:=by
 rw[dJ];exact iq λc _=>congrArg List.length (Ms lv c)
theorem WZ(lv:Nat)(cs:List (Key × V3)):uu lv (cs.map (Bt lv))=uM lv cs:=by
 unfold uu uM sH;rw[Wj,aP]
theorem FM(lv:Nat)(cs:List (Key × V3)):yS lv (cs.map (Bt lv))=vJ lv cs:=by
 unfold yS vJ;rw[Wj]
theorem zvp:∀ (lv:Nat) (cs:List (Key × V3)),ve lv (cs.map (Bt lv))=(rZ lv cs).map (Bt lv)
 |0,_=>rfl
 |_+1,[]=>rfl
 |_+1,_::_=>rfl
def MF(x:MN):Prop:=x.lv<256/\(∀ c∈x.cs,c.1.length<=100)/\uM x.lv x.cs=true
theorem znm {lv : Nat} {cs : List (Key × V3)} {c : Key × V3} (h : c ∈ rZ lv cs) : c.1 = [] \/ c ∈ cs := by
  unfold rZ at h
  split at h
  · exact .inr h
  · cases cs with
    | nil => cases h
    | cons a r => rcases List.mem_cons.1 h with h | h
                  · exact .inl (by rw [h])
                  · exact .inr (List.mem_cons_of_mem _ h)
theorem KO(lv:Nat)(cs:List (Key × V3)):sH lv (cs.map (Bt lv))=(cs.map λc=>(qh lv c).length).sum:=by
 unfold sH;rw[Wj]
theorem ztq{x:MN}(h:xE x){c:Key × V3}(hc:c.1.length<=100):17+4*(qo x.cs c).length+sH x.lv ((qo x.cs c).map (Bt x.lv))<=623:=by
 have a:=h.size;rw[Md]at a;have f:=Ac x.lv c;have i:(qh x.lv c).length<=107:=by rw[f];split<;>omega
 rw[KO];obtain⟨A,B,_,_,g,_,e⟩:=ND h.keys.1 c;rw[g];rcases e with⟨_,e⟩|⟨_,j,_,e⟩
 .rw[e]at a
  simp only[aA,aD,bJ,bi,fT,dh]at a |-;omega
 .rw[e]at a
  simp only[aA,aD,bJ,bi,fT,dh]at a |-;omega
theorem zvq{x:MN}(h:xE x){c:Key × V3}(hc:c.1.length<=100):∀ y∈qo x.cs c,y.1.length<=100:=λy c=>by
 rcases YN h.keys.1 c with a|a
 .exact(h.wf y a).1
 .rw[a];exact hc
theorem zvr{l:List (Key × V3)}(h:∀ c∈l,c.1.length<=100):(wM l).length<=100:=by
 rcases zp1 l with a|⟨c,a,e⟩
 .rw[a];exact aC _
 .rw[e];exact h c a
theorem Yx:∀ {up:List MN} {c:Key × V3} {gs:List Nat},(∀ x∈up,xE x)->c.1.length<=100->(∀ x∈(qV up c gs).1,MF x)/\∀ c',(qV up c gs).2.1=some c'->c'.1.length<=100
 |[],c,gs,_,hc=>⟨(λx a=>by rw[qV]at a;cases a),(λc' f=>by rw[qV]at f;cases f;exact hc)⟩
 |x::up,c,gs,f,hc=>by
  have a:=f x (aK ..);have h:=zvq a hc;rw[qV]
  by_cases i:uM x.lv (qo x.cs c)=true
  .rw[if_pos i]
   refine⟨λj k=>?_,(λc' f=>by cases f)⟩;rw[aJ.1 k];exact⟨a.lv,h,i⟩
  .rw[if_neg i]
   dsimp only;have y:(wM ((qo x.cs c).drop (vJ x.lv (qo x.cs c)))).length<=100:=zvr λd g=>h d (eP g)
   obtain⟨z,A⟩:=Yx (up:=up) (c:=(wM ((qo x.cs c).drop (vJ x.lv (qo x.cs c))),(0,0,gs.headD 0))) (gs:=gs.tail) (λj k=>f j (aj _ k)) y;obtain⟨L,j,R,e,D,m,s,t⟩:=XI (l:=x.lv) (ks:=(qo x.cs c).map (Bt x.lv)) (λu o=>by
    obtain⟨d,g,rfl⟩:=bg.1 o;rw[zvo];exact h d g) (by rw[aP];exact ztq a hc) (by rw[WZ];exact i)
   rw[FM]at m;have B:L=((qo x.cs c).take (vJ x.lv (qo x.cs c))).map (Bt x.lv):=by rw[m,fA,e,dY]
   have C:j::R=((qo x.cs c).drop (vJ x.lv (qo x.cs c))).map (Bt x.lv):=by rw[m,fB,e,dK]
   rw[B,WZ]at s;rw[C,zvp,WZ]at t;refine⟨λu o=>?_,A⟩;rcases ak.1 o with p|p
   .rw[p]
    exact⟨a.lv,λd g=>h d (fH g),s⟩
   .rcases ak.1 p with q|q
    .rw[q]
     refine⟨a.lv,λd g=>?_,t⟩;rcases znm g with r|r
     .rw[r];exact aC _
     .exact h d<|eP r
    .exact z u q
theorem zq1{path:List MN}{c:Key × V3}{gs:List Nat}(h:∀ x∈path,xE x)(hlv:∀ x,path[0]?=some x->x.lv<255)(hc:c.1.length<=100):∀ x∈(vB path c gs).1,MF x:=by
 obtain⟨a,i⟩:=Yx (up:=path.reverse) (c:=c) (gs:=gs) (λx m=>h x (List.mem_reverse.1 m)) hc;rcases hp:qV path.reverse c gs with⟨o,e,r⟩;rw[hp]at a i;cases e with
 |none=>rw[(Td hp).1];exact a
 |some e=>
  cases path with
  |nil=>unfold vB;rw[hp];exact a
  |cons x l=>
   rw[(Sj hp (x:=x) rfl).1];intro p q;rcases ay.1 q with f|f
   .exact a p f
   .rw[aJ.1 f]
    have s:=i e rfl;refine⟨by have:=hlv x rfl;show x.lv+1<256;omega,λd t=>?_,?_⟩
    .rcases ak.1 t with g|g
     .rw[g];exact aC _
     .rw[aJ.1 g];exact s
    .unfold uM
     refine decide_eq_true ?_;have j:=Ac (x.lv+1) (([]:Key),(0,0,x.n));have k:=Ac (x.lv+1) e;rw[if_neg dB]at j k;simp only[aD,aY,bi,dZ,dh,List.sum_nil,j,k];omega
theorem T_{α β:Type}(f:Key × α->β)(ks:List (Key × α)){c d:Key × α}(h:c.1=d.1)(hf:f c=f d):(qo ks c).map f=(qo ks d).map f:=by
 have c:∀ (l:List (Key × α)) (i:Nat) (x:Key × α),(l.insertIdx i x).map f=(l.map f).insertIdx i (f x):=by
  intro l
  induction l with
  |nil=>intro i x;cases i<;>rfl
  |cons a l ih=>intro i x;cases i with
   |zero=>rfl
   |succ i=>simp only[jf,bi,ih]
 unfold qo;rw[h]
 split
 .rw[fO,fO,hf]
 .rw[c,c,hf]
theorem l_(l:List (Key × V3))(m:Nat):wM (l.drop m)=(((l.map Prod.fst).drop m).head?).getD []:=by
 unfold wM;rw[<-fB,List.head?_map]
theorem zvs{x:MN}{c d:Key × V3}(h:c.1=d.1):uM x.lv (qo x.cs c)=uM x.lv (qo x.cs d)/\vJ x.lv (qo x.cs c)=vJ x.lv (qo x.cs d)/\∀ m,wM ((qo x.cs c).drop m)=wM ((qo x.cs d).drop m):=by
 have a:=T_ (λf:Key × V3=>(qh x.lv f).length) x.cs h (by show(qh x.lv c).length=(qh x.lv d).length;rw[Ac,Ac,h]);have e:=T_ (Prod.fst:Key × V3->Key) x.cs h h;have g:(qo x.cs c).length=(qo x.cs d).length:=by
  have:=congrArg List.length e;simpa using this
 refine⟨by unfold uM;rw[a,g],by unfold vJ;rw[a],λm=>by rw[l_,l_,e]⟩
theorem YB:∀ (l:List MN) {c d:Key × V3} {gs hs:List Nat},c.1=d.1->yo l c gs=yo l d hs/\(qV l c gs).2.1.isSome=(qV l d hs).2.1.isSome
 |[],c,d,gs,hs,h=>⟨rfl,rfl⟩
 |x::up,c,d,gs,hs,h=>by
  obtain⟨a,e,f⟩:=zvs (x:=x) h;rw[yo,yo,qV,qV,a,e]
  split
  .exact⟨rfl,rfl⟩
  .obtain⟨g,i⟩:=YB up (c:=(wM ((qo x.cs c).drop (vJ x.lv (qo x.cs d))),(0,0,gs.headD 0))) (d:=(wM ((qo x.cs d).drop (vJ x.lv (qo x.cs d))),(0,0,hs.headD 0))) (gs:=gs.tail) (hs:=hs.tail) (f _)
   exact⟨by rw[g],i⟩
theorem b_(path:List MN)(c:Key × V3)(gs hs:List Nat):wo path c gs=wo path c hs:=by
 obtain⟨a,e⟩:=YB path.reverse (c:=c) (d:=c) (gs:=gs) (hs:=hs) rfl;unfold wo zL;rw[a,e]
theorem Ed:∀ (l:List MN) (c:Key × V3) (gs:List Nat),yo l c gs<=l.length
 |[],_,_=>ax _
 |x::up,c,gs=>by
  rw[yo]
  split
  .exact aC _
  .have:=Ed up (wM ((qo x.cs c).drop (vJ x.lv (qo x.cs c))),(0,0,gs.headD 0)) gs.tail
   rw[aD];omega
theorem ztr(path:List MN)(c:Key × V3)(gs:List Nat):wo path c gs<=path.length+1:=by
 unfold wo;have:=Ed path.reverse c gs;rw[jM]at this
 split<;>omega
def vK(N:Nat)(H:HS):Nat->HS
 |0=>H
 |j+1=>match vM N (vK N H j) 3 with|some (_,H')=>H'|none=>vK N H j
def ED(N:Nat)(H:HS)(j:Nat):Nat:=match vM N (vK N H j) 3 with|some (n,_)=>n|none=>0
theorem YD{N:Nat}{H:HS}{fl:List Nat}(h:rC N H fl)(hr:0<uD N H):∃ n H',vM N H 3=some (n,H')/\uD N H'+1=uD N H:=by
 have e:=h.fN;unfold vM;rcases h.free with⟨a,c⟩|⟨t,_,f,_,_,g,_⟩
 .have i:H.F.many=0:=by rw[<-h.fm,c];rfl
  rw[if_neg (by rw[a];exact λh=>h rfl)];unfold uD at hr |-;rw[if_neg dB];refine⟨_,_,rfl,?_⟩;show N - (H.F.fresh+1)+H.F.many+1=_;omega
 .rw[if_pos dB]
  refine⟨_,_,rfl,?_⟩;show N - H.F.fresh+(H.F.many - 1)+1=N - H.F.fresh+H.F.many;omega
theorem Tv{N:Nat}{H:HS}{fl rl:List Nat}{R:Nat->Nat->Prop}{P:Nat->Nat->List Nat}{B:Nat->Nat->List UInt8}{A:List (Nat × Nat)}{Gv:List Nat}(h:HM N H fl rl R P B A Gv):
  ∀ j,j<=uD N H->∃ fl',HM N (vK N H j) fl' rl R P B A (Gv++(List.range j).map (ED N H))/\uD N (vK N H j)+j=uD N H/\(vK N H j).F.root=H.F.root/\(∀ i∈Gv,(vK N H j).S i=H.S i)/\H.F.fresh<=(vK N H j).F.fresh
 |0,_=>⟨fl,by rw[List.range_zero,dZ,aR];exact h,rfl,rfl,λ_ _=>rfl,ax _⟩
 |j+1,hj=>by
  obtain⟨fl',c,t,l,m,o⟩:=Tv h j dB;obtain⟨n,H',f,hr⟩:=YD c.hi.ok dB;obtain⟨p,a⟩:=Sr c.hi.ok dB f;have q:vK N H (j+1)=H':=by rw[vK,f]
  have r:ED N H j=n:=by unfold ED;rw[f]
  have g:=c.give a;rw[q];refine⟨p,?_,dB,by rw[a.root,l],λi k=>?_,ag o a.grow⟩
  .rw[fQ,bJ,List.map_singleton,r,<-aH]
   exact g
  .have s:i≠n:=λe=>by
    subst e;have:=g.gn;rw[bU]at this;exact this.2.2 i (aF _ k) i (aJ.2 rfl) rfl
   rw[a.old i s,m i k]
theorem Gw{N:Nat}{H:HS}{fl rl:List Nat}{R:Nat->Nat->Prop}{P:Nat->Nat->List Nat}{B:Nat->Nat->List UInt8}{A:List (Nat × Nat)}{Gv:List Nat}(h:HM N H fl rl R P B A Gv){j:Nat}(hj:j<uD N H):vM N (vK N H j) 3=some (ED N H j,vK N H (j+1)):=by
 obtain⟨e,a,f,_⟩:=Tv h j dB;obtain⟨n,H',c,_⟩:=YD a.hi.ok dB;unfold ED;rw[vK,c]
section
variable {Y:VE}[hYT:nz Y]{q tb hb N lo:Nat}{L:List Nat}{V:Nat->Pg}{k:Nat}{H:HS}{fl:List Nat}{l:Nat}{t:Tr l}{w:World}
theorem FW{X:VE}[hXT:nz X](g j:Nat)(hj:j<=100000)(h:Two X (rH Y g [VB (j:Int)] 3) lo L w):
  CQ 58 [VA g] w (λv w'=>v=VB 0/\Two X (rH Y g [VB ((j+1:Nat):Int)] 3) lo L w'/\nC lo L w w'):=by
 have c:=nC.refl lo L w;have f:=Ab h;obtain⟨a,i,k⟩:=f;refine nZ (rs:=[.tmp 1]) (n:=4) Tryz.func58 rfl rfl Tryz.ntmps58 dA rfl<|ny<|oG<|mZ (nH a)<|mZ (oJ rfl rfl (show IntKind.i64.wrap ((j:Int)+1)=((j+1:Nat):Int) by rw[nV dB];omega))<|nT<|pQ a<|λl a e=>?_
 replace c:=c.oq e;have g:=GR h a e;refine mI ?_;exact⟨rfl,g,c⟩
theorem MB(gt:Nat)(h:Two (GZ q N (nQ H) V k) Y lo L w)(hH:rC N H fl){n:Nat}{H':HS}(hg:vM N H 3=some (n,H'))(hrt:row w gt [VA tb] 37)(hr:row w tb [VA q,VA hb] 50)(hrh:row w hb [VA q] 201)(hhb:hb<lo\/hb∈L):
  CQ 59 [VA gt] w (λv w'=>v=VB (n:Int)/\Two (GZ q N (nQ H') V k) Y lo L w'/\nC lo L w w'):=by
 have a:=nC.refl lo L w;have c:=(Kk hb h hH hrh hhb).to λv w' h=>(show v= .tuple #[VB (n:Int),VB 0]/\Two (GZ q N (nQ H') V k) Y lo L w'/\nC lo L w w' from by
  obtain⟨f,g⟩:=h;rcases f with⟨p,H2,r,e,_,i,j⟩|⟨e,_⟩
  .rw[hg]at e;cases e;exact⟨i,j,g⟩
  .rw[hg]at e;cases e)
 refine nZ (rs:=[.tmp 1]) (n:=15) Tryz.func59 rfl rfl Tryz.ntmps59 dA rfl<|ny<|oG<|mZ (nH hrt)<|mZ (oo rfl)<|mZ (nG 1)<|mZ (nH hr)<|nP c ?_
 rintro _ l ⟨rfl,m,o⟩;replace a:=a.ll o (λb hb=>hb);refine ng<|mZ (nW rfl rfl)<|mZ (nW rfl rfl)<|nA<|oG<|ng<|nP (KA l) ?_;rintro _ _ ⟨rfl,rfl⟩;refine mM ?_;exact⟨rfl,m,a⟩
theorem TF{n:Nat}{U:View}(h1:1<=n)(h2:n<H.F.fresh):um (nQ H) n (oW U)=nQ ⟨H.F,qG H.S n U⟩:=by
 funext i
 unfold um nQ qG
 by_cases a:i=n
 .subst a
  rw[if_pos rfl,if_neg dB,if_pos h2];show oW U=oW (if i=i then U else H.S i);rw[if_pos rfl]
 .rw[if_neg a]
  dsimp only;rw[if_neg a]
end
namespace HM
variable {N:Nat}{H H':HS}{fl rl:List Nat}{R:Nat->Nat->Prop}{P:Nat->Nat->List Nat}{B:Nat->Nat->List UInt8}{A:List (Nat × Nat)}{Gv:List Nat}
theorem KP(h:HM N H fl rl R P B A Gv){n:Nat}(hn:n∈Gv){U:View}(hU:Good U)(hU3:U.kind=3):HM N ⟨H.F,qG H.S n U⟩ fl rl R P B A Gv:=by
 have g:=(h.g3 n).1 hn;have f:=h.gf n hn;have j:∀ m∈rl,m≠n:=λm a e=>by
  have k:=h.hi.rk.at_ m a;rw[e]at k;omega
 refine⟨h.hi.Xq f.1 f.2 g hU hU3,λm a=>?_,h.ra,h.nd,h.gn,λi=>?_,h.gf,λi=>?_⟩
 .show(qG H.S n U m).slots≠[]/\∀ s c,(qG H.S n U m).slots[s]?=_->_
  rw[tF (j m a)];exact h.full m a
 .show i∈Gv↔(qG H.S n U i).kind=3
  by_cases e:i=n
  .subst e;rw[uU];exact⟨λ_=>hU3,λ_=>hn⟩
  .rw[tF e];exact h.g3 i
 .show(qG H.S n U i).kind<=3
  by_cases e:i=n
  .subst e;rw[uU];omega
  .rw[tF e];exact h.k3 i
theorem writes(h:HM N H fl rl R P B A Gv):∀ {o:List MN} {S:Nat->View},HM N ⟨H.F,S⟩ fl rl R P B A Gv->(∀ x∈o,x.n∈Gv/\MF x)->HM N ⟨H.F,wS S o⟩ fl rl R P B A Gv
 |[],S,h1,_=>h1
 |x::o,S,h1,hx=>by
  obtain⟨e,a⟩:=hx x (aK ..);have f:∀ c∈x.cs,c.1.length<=300:=λc g=>ag (a.2.1 c g) dB
  have i:rG (pv x.lv x.cs)<=512:=by
   have:=a.2.2;rw[Oh]at this;exact of_decide_eq_true this
  exact writes h (o:=o) (S:=qG S x.n (rW x)) (h1.KP e (GK f i) rfl) λj k=>hx j (aj _ k)
theorem root(h:HM N H fl rl R P B A Gv){n:Nat}(hn:n<N):HM N (zQ H n) fl rl R P B A Gv:=
 ⟨⟨h.hi.ok.root hn,h.hi.rk.frame (H':=zQ H n) (ax _) rfl (λ_ _=>rfl),λm s hr=>let ⟨h1,c,h2,h3⟩:=h.hi.cell m s hr;⟨h1,c,h2,h3.frame (H':=zQ H n) (ax _) (λ_ _=>rfl)⟩,h.hi.ap,h.hi.pk,h.hi.c0,h.hi.c1,h.hi.c2⟩,h.full,h.ra,h.nd,h.gn,h.g3,h.gf,h.k3⟩
end HM
theorem zts:∀ {l:Nat} {t:Tr l} {k lo hi:Key},qJ l t lo hi->qR k->pW lo k->rR k hi->(ze l t k).map Prod.fst=uj l t k
 |0,_,_,_,_,_,_,_,_=>rfl
 |l+1,t,k,lo,hi,h,hk,hlo,hhi=>by
  obtain⟨A,x,B,e,g,a,c,f,_⟩:=zR h hk hlo hhi;rw[Pt a,bi,zts (h.2.2.2.2 A x B e) hk c f,uj,a]
theorem RQ:∀ {l:Nat} {t:Tr l} {lo hi:Key},qJ l t lo hi->l+1<=(om l t).length
 |0,_,_,_,_=>ax _
 |l+1,t,lo,hi,h=>by
  obtain⟨x,r,e,_⟩:=h.1;have a:=RQ (h.2.2.2.2 [] x r e);show l+1+1<=(t.n::t.ks.flatMap λx=>om l x.2).length;rw[e,bP,aD,aA];omega
structure TS(N:Nat)(H:HS)(fl rl:List Nat)(R:Nat->Nat->Prop)(P:Nat->Nat->List Nat)(B:Nat->Nat->List UInt8)(A:List (Nat × Nat))(l:Nat)(t:Tr l):Prop where
 hm:∃ Gv,HM N H fl rl R P B A Gv/\Gv.Perm (om l t)
 tr:Dq H.S l t
 rt:H.F.root=t.n
 nb:N<=250
namespace TS
variable {N:Nat}{H:HS}{fl rl:List Nat}{R:Nat->Nat->Prop}{P:Nat->Nat->List Nat}{B:Nat->Nat->List UInt8}{A:List (Nat × Nat)}{l:Nat}{t:Tr l}
theorem rg(h:TS N H fl rl R P B A l t):∀ n∈om l t,1<=n/\n<H.F.fresh:=λn a=>by
 obtain⟨Gv,c,e⟩:=h.hm;exact c.gf n<|e.mem_iff.2 a
theorem ok(h:TS N H fl rl R P B A l t):rC N H fl:=by
 obtain⟨Gv,a,_⟩:=h.hm;exact a.hi.ok
theorem lv(h:TS N H fl rl R P B A l t):l+1<=N:=by
 have c:=RQ h.tr.snd_;have e:=EG N 0 (om l t) h.tr.nd λn a=>by
  have:=h.rg n a;have:=h.ok.fN;omega
 omega
theorem ti(h:TS N H fl rl R P B A l t):yh N H l t:=⟨h.rg,h.tr.hold,by have:=h.lv;have:=h.nb;omega,h.ok.fN,by have:=h.nb;omega⟩
end TS
theorem TZ{N:Nat}{H:HS}:∀ {l:Nat} {t:Tr l} {k lo hi:Key},yh N H l t->qJ l t lo hi->qR k->pW lo k->rR k hi->∀ x∈uj l t k,xE x
 |0,t,k,lo,hi,ht,h,_,_,_,x,hx=>by
  rw[uj]at hx;rw[aJ.1 hx];exact ht.zZ h
 |l+1,t,k,lo,hi,ht,h,hk,hlo,hhi,x,hx=>by
  obtain⟨A,c,B,e,j,f,g,i,_⟩:=zR h hk hlo hhi;rw[uj,f]at hx;rcases ak.1 hx with a|a
  .rw[a];exact ht.zZ h
  .exact TZ (ht.kid (x:=c) kz) (h.2.2.2.2 A c B e) hk g i x a
def Nk(N:Nat)(H:HS)(U:Nat)(out:List MN)(r:Nat):HS:=⟨⟨(vK N H U).F.fresh,(vK N H U).F.free,(vK N H U).F.many,(vK N H U).F.records,r⟩,wS (vK N H U).S out⟩
def xG(N:Nat)(H:HS)(U l:Nat):List Nat:=(List.range U).map (ED N H)++List.range' N (l+2)
theorem IJ{N:Nat}{H:HS}{U l j:Nat}(h:j<U):(xG N H U l).getD j 0=ED N H j:=by
 unfold xG;rw[bI,bF lD,aV,eH h]
 rfl
theorem TS.put {N:Nat} {H:HS} {fl rl:List Nat} {R:Nat->Nat->Prop} {P:Nat->Nat->List Nat} {B:Nat->Nat->List UInt8} {A:List (Nat × Nat)} {l:Nat} {t:Tr l} (h:TS N H fl rl R P B A l t) {key:Key} {v:Nat × Nat} (hk:qR key) (hv1:v.1<2147483648) (hv2:v.2<65536) {U:Nat}
  (hU:wo (uj l t key) (key,(v.1,v.2,0)) (xG N H U l)=U) (hr:U<=uD N H):
  ∃ l' t' fl',TS N (Nk N H U (vB (uj l t key) (key,(v.1,v.2,0)) (xG N H U l)).1 t'.n) fl' rl R P B A l' t'/\oO l' t'=uY (oO l t) (key,v)/\(vB (uj l t key) (key,(v.1,v.2,0)) (xG N H U l)).2.1.getD t.n=t'.n/\
   (∀ x∈(vB (uj l t key) (key,(v.1,v.2,0)) (xG N H U l)).1,MF x/\1<=x.n/\x.n<(vK N H U).F.fresh):=by
 obtain⟨Gv,K,p⟩:=h.hm;obtain⟨fl',j,a3,a4,L,a5⟩:=Tv K U hr;have q:=j.gn;rw[bU]at q;have a6:=j.hi.ok.fN;have M:Dq (vK N H U).S l t:=⟨h.tr.snd_,h.tr.rt,h.tr.nd,h.tr.hold.frame λn s=>L n (p.mem_iff.2 s)⟩;have O:∀ b∈(List.range U).map (ED N H),b<N:=λb hb=>by
  have:=j.gf b (aB _ hb);omega
 have P:(xG N H U l).Nodup:=bU.2 ⟨q.2.1,List.nodup_range',λa Q b hb e=>by
  have c:=O a Q;have i:=dw.1 hb;omega⟩
 have R:∀ g∈xG N H U l,g∉om l t:=λg T A=>by
  rcases ay.1 T with c|c
  .exact q.2.2 g (p.mem_iff.2 A) g c rfl
  .have i:=dw.1 c
   have a7:=h.rg g A;have:=h.ok.fN;omega
 obtain⟨l',t',B,C,a8,D,V,E,u,X⟩:=zs2 M hk hv1 hv2 P R (by unfold xG;rw[aA,List.length_range'];omega);have Y:B=(List.range U).map (ED N H):=by
  have Z:(vB (uj l t key) (key,(v.1,v.2,0)) (xG N H U l)).2.2=(xG N H U l).drop U:=by
   have m:=I_ (uj l t key).reverse (key,(v.1,v.2,0)) (xG N H U l);obtain⟨a0,y⟩:=Xa (l:=l) (t:=t) (k:=key);rcases hp:qV (uj l t key).reverse (key,(v.1,v.2,0)) (xG N H U l)with⟨o,F,r⟩;rw[hp]at m;dsimp only at m;unfold wo at hU;cases F with
   |none=>
    obtain⟨c,i⟩:=Td hp;rw[c];rw[i,if_neg dX,dx]at hU;rw[m,hU]
   |some F=>
    obtain⟨c,i⟩:=Sj hp (x:=nX l t) (by rw[y];rfl);rw[c];rw[i,if_pos rfl]at hU;show r.tail=_;rw[m,<-hU,<-dR,List.drop_one,hU]
  rw[Z]at C;have c:(xG N H U l).take U++(xG N H U l).drop U=B++(xG N H U l).drop U:=by rw[bM];exact C
  have i:=List.append_cancel_right c;rw[<-i];unfold xG;rw[bN ig]
 obtain⟨out,G⟩:=aa ((vB (uj l t key) (key,(v.1,v.2,0)) (xG N H U l)).1);have I:∀ x∈out,MF x:=by
  rw[<-G];refine zq1 (λx f=>?_) (λx f=>?_) hk.2
  .have a1:=TZ h.ti h.tr.snd_ hk (vF key) (.inl rfl)
   exact a1 x f
  .obtain⟨a0,y⟩:=Xa (l:=l) (t:=t) (k:=key)
   rw[y]at f;cases f;show l<255;have:=h.lv;have:=h.nb;omega
 rw[G]at D u |-;have z:(Gv++(List.range U).map (ED N H)).Perm (om l' t'):=by
  rw[Y]at E;exact(List.perm_append_comm.trans (List.Perm.append_left _ p)).trans E.symm
 have a2:=HM.writes j (o:=out) (S:=(vK N H U).S) j λx f=>⟨z.mem_iff.2 (u x f),I x f⟩
 have J:∀ n∈om l' t',1<=n/\n<(vK N H U).F.fresh:=λn s=>j.gf n (z.mem_iff.2 s)
 refine⟨l',t',fl',⟨⟨_,?_,z⟩,D,rfl,h.nb⟩,V,?_,λx f=>⟨I x f,J x.n (u x f)⟩⟩
 .exact a2.root (n:=t'.n) (by have:=J t'.n vH;omega)
 .rcases X with⟨e,m⟩|⟨e,_⟩
  .rw[e,m];rfl
  .rw[e];rfl
theorem zq2:∀ {l:Nat} {t:Tr l} {k:Key} {z:MN × Nat},(ze l t k)[0]?=some z->z.1.n=t.n
 |0,_,_,_,h=>by rw[ze]at h;cases h;rfl
 |_+1,_,_,_,h=>by rw[ze]at h;cases h;rfl
def Io(a1 a2:Int):Prop:=a1<0\/2147483648<=a1\/a2<0\/65536<=a2
theorem ZP:∀ (l:List MN) (c:Key × V3) (gs:List Nat),(qV l c gs).1.length<=2*l.length
 |[],_,_=>aC _
 |x::up,c,gs=>by
  rw[qV]
  split
  .simp only[aD,aY];omega
  .dsimp only
   have:=ZP up (wM ((qo x.cs c).drop (vJ x.lv (qo x.cs c))),(0,0,gs.headD 0)) gs.tail;simp only[aD];omega
theorem zq3(path:List MN)(c:Key × V3)(gs:List Nat):(vB path c gs).1.length<=2*path.length+1:=by
 have a:=ZP path.reverse c gs;rw[jM]at a;rcases hp:qV path.reverse c gs with⟨o,e,r⟩;rw[hp]at a;cases e with
 |none=>rw[(Td hp).1];exact Nat.le_succ_of_le a
 |some e=>
  cases path with
  |nil=>unfold vB;rw[hp];exact Nat.le_succ_of_le a
  |cons x l=>
   rw[(Sj hp (x:=x) rfl).1];dsimp only at a |-;rw[aA,dV];omega
structure Ri(N:Nat)(H:HS)(l:Nat)(t:Tr l)(key:Key)(v:Nat × Nat)(H':HS)(l':Nat)(t':Tr l'):Prop where
 row:oO l' t'=uY (oO l t) (key,v)
 room:uD N H'+wo (uj l t key) (key,(v.1,v.2,0)) []=uD N H
section
variable {Y:VE}[hYT:nz Y]{q tb hb N lo:Nat}{L:List Nat}{V:Nat->Pg}{k:Nat}{H:HS}{fl rl:List Nat}{R:Nat->Nat->Prop}{P:Nat->Nat->List Nat}{B:Nat->Nat->List UInt8}{A:List (Nat × Nat)}{l:Nat}{t:Tr l}{w:World}
theorem QL (ga gt gk:Nat) (v:Nat × Nat) (h:Two (GZ q N (nQ H) V k) Y lo L w) (hR:TR q tb hb N lo L H fl l t w) (hS:TS N H fl rl R P B A l t) (hra:row w ga [VB (v.1:Int),VB (v.2:Int)] 30) (hga:ga∈L) (hrt:row w gt [VA tb] 37) (hgt:gt∈L)
   {pk:Option Addr} {ck:Nat} {key:Key} (hrk:row w gk [.slice pk key.length ck] 23) (hgk:gk∈L) (hkey:nM w pk key.length 1 (bv key)) (hkL:∀ g o,pk=some ⟨g,o,none⟩->g<lo\/g∈L) (hkk:qR key) (hv1:v.1<2147483648) (hv2:v.2<65536):
   Calls Tryz.prog 56 [VA ga,VA gt,VA gk].toArray w
     (ul (λ_ w'=>∃ (H':HS) (fl':List Nat) (l':Nat) (t':Tr l'),TS N H' fl' rl R P B A l' t'/\Ri N H l t key v H' l' t'/\Two (GZ q N (nQ H') V k) Y lo L w'/\nC lo L w w') (λc w'=>uD N H<l+2/\c=pe (yA 8)/\Two (GZ q N (nQ H) V k) Y lo L w'/\nC lo L w w')):=by
 have T:=nC.refl lo L w;have m8:maxLen=9223372036854775807:=by decide
 have v4:=h.lo;have m9:=BQ tb hb (ck:=ck) h hR.ok hR.r hR.tb hR.rh hR.hb hR.ti hR.sd hR.rt hkey hkL hkk;have v5:=hS.lv;have v6:=hS.nb;refine xg (rs:=[]) (n:=79) Tryz.func56 rfl rfl Tryz.ntmps56 dA rfl<|nI<|ny<|mZ (nG 0)<|mZ (nH hra)<|mZ (pI rfl rfl)<|ng<|uy 13 rfl (dB)<|nE<|mZ (nG 0)<|nE<|mZ (nH hra)<|nE<|mZ (tV rfl rfl)<|mZ (oP rfl)<|ng<|uy 18 rfl (dB)<|nE<|mZ (nG 1)<|nE<|mZ (nH hra)<|nE<|mZ (pI rfl rfl)<|mZ (oP rfl)<|ng<|uy 23 rfl (dB)<|nE<|mZ (nG 1)<|nE<|mZ (nH hra)<|nE<|mZ (tV rfl rfl)<|mZ (oP rfl)<|nk<|qg rfl (dB) ?_
 refine nU<|nJ<|ny<|mZ (nH hrt)<|mZ (nH hrk)<|nP m9 ?_
 rintro _ E ⟨vs,bl,i4,i5,n0,i6,i7,i8,i9,n1⟩;replace T:=T.ll n1 (λb hb=>hb);have n2:=i5.form;obtain⟨c6,b2,rfl⟩:=n2;have j0:=hkey.rQ T hkL;have n3:=hra.kl T (.inr hga);have A:=hrk.kl T (.inr hgk);have n4:=hrt.kl T (.inr hgt);have n5:=(hR.ll T).mono i8;have v7:=T.size;have m:=Below.refl (E).heap.size E;have z:=n3;have v8:=i9.lt;refine nA<|nk<|wO (λa:Nat × Option Addr × Nat=>[(4,VA a.1),(3, .slice c6 (l+1) b2),(0,VA ga),(1,VA gt),(2,VA gk)]) (λa w'=>row w' a.1 (pV a.2.1 a.2.2 (key,(v.1,v.2,0))) 90/\og w' E.heap.size 5 1 (.slice a.2.1 key.length a.2.2) key.length (bv key)/\E.heap.size<=a.1/\VD E w') ?_ ?_
 ·
  refine qH [] dA ?_;intro n6 f4 f5;replace z:=z.new f4;replace A:=A.new f4;replace m:=m.acc f4;have n7:=z;have n8:=A;have v9:=m;refine nR 0 (λw' Z=>nH (n8.kq Z))<|nR 2 (λw' Z=>oK rfl (Ld.qI (k:=2) (n7.kq Z) dA dA rfl))<|zw 1 4 dA ?_ ?_
  ·
   have n9:=m.size;have o0:=z.lt;refine qw rfl rfl (oz dA rfl) (RY n6 (j0.new m) (uf key) (by have:=hkk.2;omega)) ?_;rintro _ o1 ⟨s,u,rfl,F,R⟩;have f6:=f5.add0 R;refine⟨f6,?_⟩;replace z:=z.new R;replace A:=A.new R;replace m:=m.acc R;have f7:=F.lt;refine mV ?_;have j1:=zt s u (key,(v.1,v.2,0));have j2:(pV s u (key,(v.1,v.2,0))).length=4:=rfl;refine oh 4 dA<|rf rfl rfl<|oD ([VC,VB 0,VB 0,VB 0]) dA<|λC j3 G y S=>?_
   have j4:=f6.add0 S;refine⟨j4,?_⟩;have w0:=ag f6.size G;have f8:=ag m.size G;have f9:ga<C:=ae z.lt G;have g0:gk<C:=ae A.lt G;replace z:=z.new S;replace A:=A.new S;replace F:=F.new S;replace m:=m.acc S;refine oh 5 dA ?_;have g1:=F;refine rA rfl rfl<|oC 4 (pV s u (key,(v.1,v.2,0))) y<|λw1 y c7=>?_
   have o2:=j4.aq c7;refine⟨o2,?_⟩;replace z:=z.only c7 (ai f9);replace A:=A.only c7 (ai g0);replace m:=c7.below m f8;refine pq dA ?_;have g2:=Coup.og.nD g1 (Kp.rJ c7) λb B e=>by
     have I:=f7 b e;have g3:b=C:=by simpa using B
     omega
   refine oM ⟨(C,s,u),VF,y,og.mono g2 dB,by dsimp only;omega,m⟩
  ·
   refine rf rfl rfl<|oD ([VC,VB 0,VB 0,VB 0]) dA<|λC j3 G y S=>?_
   have j5:=f5.add0 S;refine⟨j5,?_⟩;have w3:=ag f5.size G;have f8:=ag m.size G;have f9:ga<C:=ae z.lt G;have g0:gk<C:=ae A.lt G;replace z:=z.new S;replace A:=A.new S;replace m:=m.acc S;refine oh 1 dA ?_;have n9:=m.size;have o0:=y.lt;refine qw rfl rfl (oz dA rfl) (RY j3 (j0.new m) (uf key) (by have:=hkk.2;omega)) ?_;rintro _ o1 ⟨s,u,rfl,F,R⟩;have j6:=j5.add0 R;refine⟨j6,?_⟩;replace z:=z.new R;replace A:=A.new R;replace y:=y.new R;replace m:=m.acc R;have f7:=F.lt;refine mV ?_;have j1:=zt s u (key,(v.1,v.2,0));have j2:(pV s u (key,(v.1,v.2,0))).length=4:=rfl;refine oh 5 dA ?_;have g1:=F;refine rA rfl rfl<|oC 4 (pV s u (key,(v.1,v.2,0))) y<|λw4 y c8=>?_
   have o3:=j6.aq c8;refine⟨o3,?_⟩;replace z:=z.only c8 (ai f9);replace A:=A.only c8 (ai g0);replace m:=c8.below m f8;refine pq dA ?_;have g2:=Coup.og.nD g1 (Kp.rJ c8) λb B e=>by
     have I:=f7 b e;have g3:b=C:=by simpa using B
     omega
   refine oM ⟨(C,s,u),VF,y,og.mono g2 dB,by dsimp only;omega,m⟩
 ·
  rintro⟨C,s,u⟩ w5 wc ⟨y,F,G,m⟩;dsimp only at y F G;have d8:sV wc ((Value.slice s key.length u).ownBlock.toList++((Value.slice c6 (l+1) b2).ownBlock.toList++bl)) (pV s u (key,(v.1,v.2,0))) (key,(v.1,v.2,0)):=
    ⟨s,u,rfl,F.sl,λg o e=>aF _ (by subst e;exact aK ..),OH F⟩
  obtain⟨c9,j7⟩:=aa ((Value.slice s key.length u).ownBlock.toList);have j8:∀ b∈c9,E.heap.size<=b/\b<wc.heap.size:=λb hb=>by rw[<-j7]at hb;exact F.lt b (ah.1 hb)
  rw[j7]at d8;obtain⟨d9,j9⟩:=aa ((Value.slice c6 (l+1) b2).ownBlock.toList);rw[j9]at d8 i7 i6;have a7:=i9.Dc m (M:=List.range' E.heap.size (wc.heap.size - E.heap.size)) λb hb=>by
    have:=dw.1 hb;omega
  obtain⟨J,g4⟩:=aa (List.range' E.heap.size (wc.heap.size - E.heap.size)++i4);have k0:∀ b,E.heap.size<=b->b<wc.heap.size->b∈J:=λb I g3=>by rw[<-g4];exact aF _ (Rf I g3)
  have e0:∀ b∈i4,b∈J:=λb I=>by rw[<-g4];exact aB _ I
  rw[g4]at a7;have a0:∀ b∈L,b∈J:=λb hb=>e0 b (i8 b hb)
  have g5:∀ b∈c9++(d9++bl),b∈J:=λb hb=>by
    rcases ay.1 hb with K|K
    · exact k0 b (j8 b K).1 (j8 b K).2
    · rcases ay.1 K with a8|a8
      .exact e0 b<|i7 b a8
      .exact e0 b (i6 b a8).1
  have o4:C∈J:=k0 C G y.lt;have k7:=T.new m;have e1:=(n5.new m).mono e0;have e2:=n4.new m;have e3:=(n0.new m).mono (bl':=c9++(d9++bl)) λb hb=>aB _ (aB _ hb)
  have d0:=i5.sl.new m;have e4:∀ g o,c6=some ⟨g,o,none⟩->g∈c9++(d9++bl):=λg o e=>aB _ (aF _ (by rw[<-j9,e];exact aK ..))
  have d1:=SE hR.sd hkk (vF key) (.inl rfl);have d2:=zts hR.sd hkk (vF key) (.inl rfl);obtain⟨ps,k8⟩:=aa (ze l t key);rw[k8]at d1 d2 e3;have g6:∀ g7,ps[0]?=some g7->g7.1.n=t.n:=λg7 o5=>zq2 (by rw[k8];exact o5)
  have k9:∀ x∈ps.map Prod.fst,xE x:=by rw[d2];exact TZ hR.ti hR.sd hkk (vF key) (.inl rfl)
  rw[<-d1]at d0;obtain⟨U,b3⟩:=aa (wo (ps.map Prod.fst) (key,(v.1,v.2,0)) []);have w6:U<=l+2:=by
    have:=ztr (ps.map Prod.fst) (key,(v.1,v.2,0)) [];rw[b3,aP,d1]at this;exact this
  have w7:=m.size;have j1:=zt s u (key,(v.1,v.2,0));have j2:(pV s u (key,(v.1,v.2,0))).length=4:=rfl;have f:=nC.refl lo J wc;have o6:=y;have a3:=Below.refl wc.heap.size wc;have o7:=a7.lt;obtain⟨Gv,B,w8⟩:=hS.hm;have e5:∀ b∈c9++(d9++bl),b<lo\/b∈J:=λb hb=>.inr (g5 b hb)
  refine ny<|nK<|oD ([VB 0]) dA<|λa4 w9 g8 d3 e6=>?_
  have o8:=ag a3.size g8;have o9:C<a4:=ae y.lt g8;replace a7:=a7.nL e6 g8 d3.lt;replace f:=f.new e6;replace y:=y.new e6;replace a3:=a3.acc e6;refine nT<|pQ d3<|λp0 d3 e7=>?_
  replace a7:=a7.only e7 eG;replace f:=f.only e7 jo;replace y:=y.only e7 (ai o9);replace a3:=e7.below a3 o8;refine qx<|ng<|mZ (pz 4 y)<|mZ (uV) ?_
  have x0:=d3.lt;have b4:Two (GZ q N (nQ H) V k) (rH Y a4 [VB ((0:Nat):Int)] 3) lo J p0:=Ww a7 d3 ⟨dB,λB=>by have:=o7 _ B;omega⟩;have l0:=IX (X:=λ_=>GZ q N (nQ H) V k) (Y:=λj=>rH Y a4 [VB (j:Int)] 3) (gs:=[]) (wc:=b2) b4 k9 dB dB hkk.2 g6 (d0.new a3) (e3.new a3) (d8.new a3) g5 e4 58 [VA a4] dA λj a5 L' w' _ _ g9=>(FW a4 j (by rw[b3]at a5;omega) g9).to λv w2 ⟨a9,b4,K⟩=>⟨by rw[a9];simp,b4,K⟩
  rw[d1,b3]at l0;refine nP (l0) ?_;rintro _ x1 ⟨x2,x3,x4,b5,rfl,_,_,_,_,d4,l1,p1⟩;replace f:=f.ll p1 jU;have p2:=Nw l1;have d5:=(Ab l1).1;have d6:=(e1.ll f).mono (L':=b5) d4;have b6:=e2.kl f (.inr (a0 _ hgt));have p3:gt∈b5:=d4 _ (a0 _ hgt);have b7:=d6.r;have b0:=d6.rh;have b1:=wB (wB (wB p2 (g:=gt) (.inr (aj _ p3)) b6.lt) (g:=hb) (d6.hb.imp id λB=>aj _ (aj _ B)) b0.lt) (g:=tb) (d6.tb.imp id λB=>aj _ (aj _ (aj _ B))) b7.lt;have h0:∀ b∈b5,b∈tb::hb::gt::a4::b5:=λb hb=>by simp[hb]
  refine nk<|nI<|nI<|vX lo ((tb::hb::gt::a4::b5)) dA ?_
  intro x5 b8 p4 p5;replace f:=f.new b8;replace d5:=d5.new b8;replace b6:=b6.new b8;replace b7:=b7.new b8;replace b0:=b0.new b8;replace b1:=b1.new b8;have x6:=f;have p6:=d5;have p7:=b6;have p8:=b7;have x7:=b0;have x8:=b1;refine nR 0 (λw' Z=>nH (p6.kL Z))<|nR 1 (λw' Z=>nH (p7.kL Z))<|nu 2 (oo rfl)<|nu 3 (nG 1)<|nR 4 (λw' Z=>nH (p8.kL Z))<|oh 5 dA<|qw rfl rfl (oz dA rfl) (DT hb b1 d6.ok b0 (.inr ig)) ?_
  rintro _ p9 ⟨rfl,b1,b9⟩;replace f:=f.ll b9 (λb hb=>h0 b (d4 b hb));have q0:=p5.vv p4 b9.wk;refine⟨q0,?_⟩;replace d5:=d5.kl b9;replace b6:=b6.nD b9.kp eu;replace b7:=b7.kl b9;replace b0:=b0.nD b9.kp eu;refine nu 6 (rz rfl rfl)<|pq dA<|nJ<|oZ rfl (λq1=>?_)<|λq1=>?_
  ·
   refine nO ?_;have q2:=b1.weak (L2:=L) λb hb=>h0 b (d4 b (a0 b hb))
   have q3:=k7.ll f a0;refine wN rfl (oz dA rfl) (MQ 8 iT p9) ((λc w' ⟨h1,l2⟩=>wY ⟨dB,h1,by rw[<-l2];exact q2,by rw[<-l2];exact q3⟩)) ?_;rintro _ _ q4;exact q4.elim
  ·
   have l3:U<=uD N H:=by omega
   have l4:=hS.put hkk hv1 hv2 (U:=U) (by rw[<-d2,b_ _ _ _ []];exact b3) l3;rw[<-d2]at l4;obtain⟨l',t',fl',a6,l5,l6,e8⟩:=l4;have h2:wo (ps.map Prod.fst) (key,(v.1,v.2,0)) (xG N H U l)=U:=by rw[b_ _ _ _ []];exact b3
   have l7:=Tv B;have a1:=l7 U l3;obtain⟨x9,q5,q6,q7,y0,y1⟩:=a1;have q8:=λj (a5:j<U)=>Gw B (j:=j) dB
   have l8:=λj (a5:j<U)=>IJ (N:=N) (H:=H) (l:=l) a5
   obtain⟨h3,q9⟩:=aa (xG N H U l);rw[q9]at a6 l6 e8 h2 l8;have e9:∀ b∈J,b∈tb::hb::gt::a4::b5:=λb hb=>h0 b (d4 b hb)
   refine nU<|nJ<|ny<|ng<|mZ (oK rfl (Ld.qI (k:=4) (o6.kl f (.inr o4)) dA dA rfl))<|mZ uV ?_
   have r0:=(e1.ll f).mono e9;have r1:=e2.kl f (.inr (a0 _ hgt));have r2:=d8.nD f.kp λb B=>pG (e5 b B)
   have r3:=e3.ll f e5;have r4:=d0.rQ f λg o e=>e5 g (e4 g o e)
   have l9:=IX (X:=λj=>GZ q N (nQ (vK N H j)) V k) (Y:=λ_=>Y) (gs:=h3) (wc:=b2) b1 k9 dB dB hkk.2 g6 r4 r3 r2 (λb hb=>e9 b (g5 b hb)) e4 59 [VA gt] dA λj a5 L' w' r5 f0 g9=>by
     rw[h2]at a5;obtain⟨y2,r6,_⟩:=l7 j dB;have h4:=(r0.ll f0).mono r5;rw[l8 j a5];exact MB gt g9 r6.hi.ok (q8 j a5) (r1.kl f0 (.inr ig)) h4.r h4.rh h4.hb
   rw[d1,h2]at l9;refine nP (l9) ?_;rintro _ d7 ⟨y3,r7,y4,O,rfl,f1,h5,r8,r9,s0,s1,s2⟩;replace f:=f.ll s2 e9;have s3:=f1.form;obtain⟨s4,c2,rfl⟩:=s3;have f2:=f1.sl;have h6:∀ b∈J,b∈O:=λb hb=>s0 b (e9 b hb)
   obtain⟨out,h7⟩:=aa ((vB (ps.map Prod.fst) (key,(v.1,v.2,0)) h3).1);obtain⟨a2,m0⟩:=aa ((vK N H U).S);obtain⟨p,c4⟩:=aa ((vK N H U).F);have s5:vK N H U=⟨p,a2⟩:=by rw[<-m0,<-c4]
   rw[h7]at a6 e8 f1 f2 h5;rw[l6,h7];refine ng<|mZ (nW rfl rfl)<|mZ (nW rfl rfl)<|nA<|nA<|nk<|nI<|ny<|ng<|mZ (oV (e:=87) (sz:=3) dA rfl rfl)<|ng<|nk<|pE ?_
   have s6:p.root=t.n:=by rw[<-c4,q7];exact hS.rt
   have s7:p.fresh<=N:=by rw[<-c4];exact q5.hi.ok.fN
   rw[c4]at e8;have s8:∀ r,Nk N H U out r=⟨⟨p.fresh,p.free,p.many,p.records,r⟩,wS a2 out⟩:=λr=>by unfold Nk;rw[c4,m0]
   have m1:(⟨p.fresh,p.free,p.many,p.records,t.n⟩:sQ)=p:=by rw[<-s6]
   rw[s8]at a6;have m2:N - p.fresh+p.many+wo (uj l t key) (key,(v.1,v.2,0)) []=uD N H:=by
     rw[<-d2,b3,<-c4];exact q6
   have Q:Two (GZ q N (nQ ⟨p,wS a2 (out.take 0)⟩) V k) Y lo O d7:=by
     rw[dz];show Two (GZ q N (nQ ⟨p,a2⟩) V k) Y lo O d7;rw[<-s5];exact s1
   have D:=nC.refl lo O d7;have y5:out.length<=100000:=by
     have I:=f1.1;have:=f2.max;rw[m8]at this;have:=zq3 (ps.map Prod.fst) (key,(v.1,v.2,0)) h3;rw[h7,aP]at this;omega
   refine qY (α:=Nat) 0 (λi=>[(57,VB (i:Nat)),(56,VB (out.length:Nat)),(55, .slice s4 out.length c2),(7,VB (t'.n:Nat)),(3, .slice c6 (l+1) b2),(1,VA gt)]) (λi w'=>i<=out.length/\Two (GZ q N (nQ ⟨p,wS a2 (out.take i)⟩) V k) Y lo O w'/\nC lo O d7 w'/\nC lo J wc w') (λi=>out.length - i)
     VF ⟨aC _,Q,D,f⟩ ?_
   clear Q D f;rintro i y6 s9 ⟨y7,Q,D,f⟩;refine ny<|mZ (pI rfl rfl)<|nk<|nI<|oZ rfl (λt0=>?_)<|λt0=>?_
   ·
    refine lN ?_;have a1:∃ x,out[i]?=some x:=⟨_,aG dB⟩;obtain⟨x,h8⟩:=a1;have a1:=f2.some dB;obtain⟨t1,t2,rfl,_⟩:=a1;have h9:=h5.at_ i x h8;obtain⟨xs,m3⟩:=aa ((r7.drop (i*3)).take 3);rw[m3]at h9;have t3:=h9.QW;obtain⟨y8,y9⟩:=t3;have t4:∀ w',nC lo O d7 w'->Ld Tryz.prog w' 87 ⟨t1,t2+i*3,none⟩ (.agg xs.toArray):=λw' f0=>by
      have K:=Ld.zu (P:=Tryz.prog) (t:=87) (j:=i*3) (k:=3) (f2.rQ f0 λg o e=>.inr (r9 g (by cases e;exact aK ..))) dA dA (by rw[h5.len];omega);rw[m3]at K;exact K
    have c5:=e8 x (aO h8);refine nO<|mZ (qZ (e:=87) (sz:=3) dA rfl rfl (i) dB dB)<|mZ (oK rfl (t4 _ D))<|nK<|oD ([VB 0,VB 0,VC]) dA<|λz0 z1 t5 f3 i0=>?_
    have t6:=D.size;have t6:=f.size;replace Q:=Q.nL i0 t5 f3.lt;replace D:=D.new i0;replace f:=f.new i0;refine nT<|oC 3 (xs) f3<|λz2 f3 i1=>?_
    replace Q:=Q.only i1 eG;replace D:=D.only i1 jo;replace f:=f.only i1 jo;refine nk<|nO<|mZ (oK rfl (Ld.ru (e2.kl f (.inr (a0 _ hgt))) dA rfl))<|mZ (pz 3 f3)<|qA rfl (oz dA rfl) (Yc tb hb Q (e1.ll f).r (h9.ll D (λb hb => .inr (r8 b hb).1)) c5.1.1 (λc h1 => ag (c5.1.2.1 c h1) dB) c5.1.2.2 (ae c5.2.2 s7)) ?_
    rintro _ t7 ⟨rfl,m4,m5⟩;replace f:=f.ll m5 (λb hb=>aj _ (h6 b hb));replace D:=D.ll m5 jU;refine oI<|pO<|nJ<|nO<|mZ (oJ rfl rfl (Coup.nV dB))<|ng<|oI ?_;have t8:Two (GZ q N (nQ ⟨p,wS a2 (out.take (i+1))⟩) V k) Y lo O t7:=by
      rw[TF (H:=⟨p,wS a2 (out.take i)⟩) c5.2.1 c5.2.2]at m4;rw[bf,h8,Sy];exact m4.weak λb hb=>aj _ hb
    refine oM ⟨i+1,dB,VF,dB,t8,D,f⟩
   ·
    obtain rfl:i=out.length:=by omega
    rw[dF]at Q;have a1:=d0.some dB;obtain⟨z3,t9,rfl,_⟩:=a1;have u0:vs[0]?=some (VB (t.n:Int)):=by
      have m6:ps[0]?=some ps[0]:=aG dB;have a1:=e3.at_ 0 _ m6;obtain⟨z4,u1,u2⟩:=a1;obtain⟨z5,z6,_,rfl,_⟩:=u2;have a9:((vs.drop (0*4)).take 4)[0]?=some (VB (ps[0].1.n:Int)):=by rw[u1];rfl
      rw[bD,if_pos dB,bC,g6 _ m6]at a9;exact a9
    have i2:=(e1.ll f).mono h6;have u3:=e2.kl f (.inr (a0 _ hgt));have i3:∀ b∈L,b∈O:=λb hb=>h6 b (a0 b hb)
    have m7:=k7.ll f a0;have u4:rC N ⟨p,wS a2 out⟩ fl':=by
      have I:=a6.ok.root (n:=t.n) (by have:=hR.ti.page.1;exact this);unfold zQ at I;dsimp only at I;rw[m1]at I;exact I
    have z7:=a6.ti.page.1;have u5:=(UF hb (t'.n:Int) Q u4 i2.rh i2.hb).to λv w' h=>(show v=VB 0/\Two (GZ q N (nQ (⟨⟨p.fresh,p.free,p.many,p.records,t'.n⟩,wS a2 out⟩:HS)) V k) Y lo O w'/\nC lo O s9 w' from by
      obtain⟨a9,b4,K⟩:=h;have u6:zf N (t'.n:Int)=0:=if_neg dB;rw[u6]at a9 b4;rcases b4 with⟨_,a8⟩|⟨a8,_⟩
      .exact⟨a9,a8,K⟩
      .exact absurd rfl a8)
    refine qL<|qK<|rq<|qO<|nJ<|ny<|ng<|ng<|mZ (qZ (e:=97) (sz:=4) dA rfl rfl (0) dB dB)<|mZ (nG 0)<|mZ (nG 0)<|mZ (oK rfl (Ld.sl1 (off:=t9) (j:=0) (d0.rQ f (λg o e=>e5 g (e4 g o e))) dA u0))<|mZ (pJ rfl rfl)<|nk<|oZ rfl (λu7=>?_)<|λu7=>?_
    ·
     refine nO<|mZ (nH u3)<|mZ (oo rfl)<|mZ (nG 1)<|mZ (oK rfl (Ld.ru i2.r dA rfl))<|ng<|nP u5 ?_
     rintro _ u9 ⟨rfl,v0,v1⟩;refine nP (KA u9) ?_;rintro _ _ ⟨rfl,rfl⟩;refine oI<|FQ [] trivial ?_;exact⟨_,fl',l',t',a6,⟨l5,m2⟩,v0.weak i3,m7.ll v1 i3⟩
    ·
     refine nU<|FQ [] trivial ?_
     have v2:t'.n=t.n:=by omega
     rw[v2,m1]at a6;exact⟨_,fl',l',t',a6,⟨l5,m2⟩,Q.weak i3,m7⟩
end
section
variable {Y:VE}[hYT:nz Y]{q tb hb N lo:Nat}{L:List Nat}{G V:Nat->Pg}{k:Nat}{H:HS}{fl rl:List Nat}{R:Nat->Nat->Prop}{P:Nat->Nat->List Nat}{B:Nat->Nat->List UInt8}{A:List (Nat × Nat)}{l:Nat}{t:Tr l}{w:World}
omit hYT in
theorem FN(ga:Nat)(gt gk:Value)(a1 a2:Int)(h:Two (GZ q N G V k) Y lo L w)(hra:row w ga [VB a1,VB a2] 30)(hx:a1<0):
  Calls Tryz.prog 56 [VA ga,gt,gk].toArray w (ul (λ_ w'=>False) (λc w'=>c=pe (yA 2)/\Two (GZ q N G V k) Y lo L w'/\nC lo L w w')):=by
 have e:=nC.refl lo L w;refine xg (rs:=[]) (n:=79) Tryz.func56 rfl rfl Tryz.ntmps56 dA rfl<|nI<|ny<|mZ (nG 0)<|mZ (nH hra)<|mZ (pI rfl rfl)<|ng<|zT 13 rfl (hx)<|nN<|nN<|nN<|mZ (pK rfl)<|ng<|nN<|nN<|nN<|mZ (pK rfl)<|ng<|nN<|nN<|nN<|mZ (pK rfl)<|nk<|vD rfl (rfl)<|nO<|wN rfl (oz dA rfl) (MQ 2 iT w) ((λc w' ⟨f,a⟩=>wY ⟨f,by rw[<-a];exact h,by rw[<-a];exact e⟩)) ?_
 rintro _ _ g;exact g.elim
omit hYT in
theorem Ic(ga:Nat)(gt gk:Value)(a1 a2:Int)(h:Two (GZ q N G V k) Y lo L w)(hra:row w ga [VB a1,VB a2] 30)(h1:¬a1<0)(hx:2147483648<=a1):
  Calls Tryz.prog 56 [VA ga,gt,gk].toArray w (ul (λ_ w'=>False) (λc w'=>c=pe (yA 2)/\Two (GZ q N G V k) Y lo L w'/\nC lo L w w')):=by
 have e:=nC.refl lo L w;refine xg (rs:=[]) (n:=79) Tryz.func56 rfl rfl Tryz.ntmps56 dA rfl<|nI<|ny<|mZ (nG 0)<|mZ (nH hra)<|mZ (pI rfl rfl)<|ng<|uy 13 rfl (h1)<|nE<|mZ (nG 0)<|nE<|mZ (nH hra)<|nE<|mZ (tV rfl rfl)<|mZ (oP rfl)<|ng<|zT 18 rfl (hx)<|nN<|nN<|nN<|mZ (pK rfl)<|ng<|nN<|nN<|nN<|mZ (pK rfl)<|nk<|vD rfl (rfl)<|nO<|wN rfl (oz dA rfl) (MQ 2 iT w) ((λc w' ⟨f,a⟩=>wY ⟨f,by rw[<-a];exact h,by rw[<-a];exact e⟩)) ?_
 rintro _ _ g;exact g.elim
omit hYT in
theorem GI(ga:Nat)(gt gk:Value)(a1 a2:Int)(h:Two (GZ q N G V k) Y lo L w)(hra:row w ga [VB a1,VB a2] 30)(h1:¬a1<0)(h2:¬2147483648<=a1)(hx:a2<0):
  Calls Tryz.prog 56 [VA ga,gt,gk].toArray w (ul (λ_ w'=>False) (λc w'=>c=pe (yA 2)/\Two (GZ q N G V k) Y lo L w'/\nC lo L w w')):=by
 have e:=nC.refl lo L w;refine xg (rs:=[]) (n:=79) Tryz.func56 rfl rfl Tryz.ntmps56 dA rfl<|nI<|ny<|mZ (nG 0)<|mZ (nH hra)<|mZ (pI rfl rfl)<|ng<|uy 13 rfl (h1)<|nE<|mZ (nG 0)<|nE<|mZ (nH hra)<|nE<|mZ (tV rfl rfl)<|mZ (oP rfl)<|ng<|uy 18 rfl (h2)<|nE<|mZ (nG 1)<|nE<|mZ (nH hra)<|nE<|mZ (pI rfl rfl)<|mZ (oP rfl)<|ng<|zT 23 rfl (hx)<|nN<|nN<|nN<|mZ (pK rfl)<|nk<|vD rfl (rfl)<|nO<|wN rfl (oz dA rfl) (MQ 2 iT w) ((λc w' ⟨f,a⟩=>wY ⟨f,by rw[<-a];exact h,by rw[<-a];exact e⟩)) ?_
 rintro _ _ g;exact g.elim
omit hYT in
theorem HY(ga:Nat)(gt gk:Value)(a1 a2:Int)(h:Two (GZ q N G V k) Y lo L w)(hra:row w ga [VB a1,VB a2] 30)(h1:¬a1<0)(h2:¬2147483648<=a1)(h3:¬a2<0)(hx:65536<=a2):
  Calls Tryz.prog 56 [VA ga,gt,gk].toArray w (ul (λ_ w'=>False) (λc w'=>c=pe (yA 2)/\Two (GZ q N G V k) Y lo L w'/\nC lo L w w')):=by
 have e:=nC.refl lo L w;refine xg (rs:=[]) (n:=79) Tryz.func56 rfl rfl Tryz.ntmps56 dA rfl<|nI<|ny<|mZ (nG 0)<|mZ (nH hra)<|mZ (pI rfl rfl)<|ng<|uy 13 rfl (h1)<|nE<|mZ (nG 0)<|nE<|mZ (nH hra)<|nE<|mZ (tV rfl rfl)<|mZ (oP rfl)<|ng<|uy 18 rfl (h2)<|nE<|mZ (nG 1)<|nE<|mZ (nH hra)<|nE<|mZ (pI rfl rfl)<|mZ (oP rfl)<|ng<|uy 23 rfl (h3)<|nE<|mZ (nG 1)<|nE<|mZ (nH hra)<|nE<|mZ (tV rfl rfl)<|mZ (oP rfl)<|nk<|uT rfl (hx) ?_
 refine nO<|wN rfl (oz dA rfl) (MQ 2 iT w) ((λc w' ⟨f,a⟩=>wY ⟨f,by rw[<-a];exact h,by rw[<-a];exact e⟩)) ?_
 rintro _ _ g;exact g.elim
omit hYT in
theorem Lr(ga:Nat)(gt gk:Value)(a1 a2:Int)(h:Two (GZ q N G V k) Y lo L w)(hra:row w ga [VB a1,VB a2] 30)(hbad:Io a1 a2):
  Calls Tryz.prog 56 [VA ga,gt,gk].toArray w (ul (λ_ w'=>False) (λc w'=>c=pe (yA 2)/\Two (GZ q N G V k) Y lo L w'/\nC lo L w w')):=by
 by_cases a:a1<0
 .exact FN ga gt gk a1 a2 h hra a
 .by_cases c:2147483648<=a1
  .exact Ic ga gt gk a1 a2 h hra a c
  .by_cases e:a2<0
   .exact GI ga gt gk a1 a2 h hra a c e
   .refine HY ga gt gk a1 a2 h hra a c e ?_
    unfold Io at hbad;omega
theorem zvu(tb hb:Nat)(h:Two (GZ q N G V k) Y lo L w)(hr:row w tb [VA q,VA hb] 50){kp:Option Addr}{kn kc:Nat}(hk:kn<1)(f:Value):
  CQ 35 [VA tb, .slice kp kn kc, .bool false,f] w (λv w'=>v=VB 2/\Two (GZ q N G V k) Y lo L w'/\nC lo L w w'):=by
 have j:=λw' L' (l:Two (GZ q N G V k) Y lo L' w')=>QD l
 have c:=nC.refl lo L w;have a:=h;have p:=h.lo;refine nZ (rs:=[.cell 8 46]) (n:=40) Tryz.func35 rfl rfl Tryz.ntmps35 dA rfl<|ny<|nK<|oD ([VB 0]) dA<|λr m o f g=>?_
 replace a:=a.nL g o f.lt;replace c:=c.new g;replace hr:=hr.new g;refine mW ?_;rintro _ _ ⟨rfl,rfl⟩;refine nA<|nk<|ui rfl (rfl)<|ny<|ng<|mZ (sj rfl)<|ng<|NC 28 (.bool true) (rfl)<|nE<|ng<|nE<|mZ (oV (e:=5) (sz:=1) dA rfl rfl)<|nE<|mZ (pI rfl rfl)<|nE<|ng<|zT 32 rfl (dB)<|nN<|nN<|nN<|nE<|mZ (pK rfl)<|mZ (pK rfl)<|nA<|nk<|vD rfl (rfl)<|nI ?_
 have s:=f.lt;refine nO<|nT<|pQ f<|λt f i=>?_
 replace a:=a.only i eG;replace c:=c.oq i;refine nk<|nY<|sS<|qy<|ou [_] ⟨⟨_,rfl,Ld.ru f dA rfl⟩,trivial⟩ ?_
 exact⟨rfl,a.weak λb hb=>aj _ hb,c⟩
theorem zvv(tb hb:Nat)(h:Two (GZ q N G V k) Y lo L w)(hr:row w tb [VA q,VA hb] 50){kp:Option Addr}{kn kc:Nat}(hk:100<kn)(f:Value):
  CQ 35 [VA tb, .slice kp kn kc, .bool false,f] w (λv w'=>v=VB 2/\Two (GZ q N G V k) Y lo L w'/\nC lo L w w'):=by
 have j:=λw' L' (l:Two (GZ q N G V k) Y lo L' w')=>QD l
 have c:=nC.refl lo L w;have a:=h;have p:=h.lo;refine nZ (rs:=[.cell 8 46]) (n:=40) Tryz.func35 rfl rfl Tryz.ntmps35 dA rfl<|ny<|nK<|oD ([VB 0]) dA<|λr m o f g=>?_
 replace a:=a.nL g o f.lt;replace c:=c.new g;replace hr:=hr.new g;refine mW ?_;rintro _ _ ⟨rfl,rfl⟩;refine nA<|nk<|ui rfl (rfl)<|ny<|ng<|mZ (sj rfl)<|ng<|NC 28 (.bool true) (rfl)<|nE<|ng<|nE<|mZ (oV (e:=5) (sz:=1) dA rfl rfl)<|nE<|mZ (pI rfl rfl)<|nE<|ng<|uy 32 rfl (dB)<|nE<|ng<|nE<|mZ (oV (e:=5) (sz:=1) dA rfl rfl)<|nE<|mZ (rz rfl rfl)<|nE<|mZ (oP rfl)<|mZ (pK rfl)<|nA<|nk<|uT rfl (dB)<|nI ?_
 have s:=f.lt;refine nO<|nT<|pQ f<|λt f i=>?_
 replace a:=a.only i eG;replace c:=c.oq i;refine nk<|nY<|sS<|qy<|ou [_] ⟨⟨_,rfl,Ld.ru f dA rfl⟩,trivial⟩ ?_
 exact⟨rfl,a.weak λb hb=>aj _ hb,c⟩
theorem v_(tb hb:Nat)(h:Two (GZ q N G V k) Y lo L w)(hr:row w tb [VA q,VA hb] 50){kp:Option Addr}{kn kc:Nat}(hk:¬(1<=kn/\kn<=100))(f:Value):
  CQ 35 [VA tb, .slice kp kn kc, .bool false,f] w (λv w'=>v=VB 2/\Two (GZ q N G V k) Y lo L w'/\nC lo L w w'):=
 if a:kn<1 then zvu tb hb h hr a f else zvv tb hb h hr dB f
theorem OV(h:Two (GZ q N (nQ H) V k) Y lo L w)(hR:TR q tb hb N lo L H fl l t w)(hS:TS N H fl rl R P B A l t)(a1 a2:Int){pk:Option Addr}{ck:Nat}{key:Key}(hkey:nM w pk key.length 1 (bv key))(hkL:1<=key.length->∀ g o,pk=some ⟨g,o,none⟩->g<lo\/g∈L):
  CQ 16 [VA tb, .slice pk key.length ck, .agg #[VB a1,VB a2]] w (λv w'=>((∃ (u:Nat × Nat) (H':HS) (fl':List Nat) (l':Nat) (t':Tr l'),v=VB 0/\qR key/\a1=u.1/\a2=u.2/\u.1<2147483648/\u.2<65536/\TS N H' fl' rl R P B A l' t'/\Ri N H l t key u H' l' t'/\Two (GZ q N (nQ H') V k) Y lo L w')\/
   (∃ e:Int,v=VB e/\(e=2/\(¬qR key\/Io a1 a2)\/e=8/\qR key/\¬Io a1 a2/\uD N H<l+2)/\Two (GZ q N (nQ H) V k) Y lo L w'))/\nC lo L w w'):=by
 have y:=nC.refl lo L w;have D:=h;have c7:=h.lt;have c8:=h.lo;have b0:∀ (W:World) (L2:List Nat) (p r m:Nat),Two (GZ q N (nQ H) V k) Y lo L2 W->(∀ b∈L,b∈L2)->p∈L2->r∈L2->m∈L2->nC lo L w W->row W p [VA tb] 37->row W r [.slice pk key.length ck] 23->row W m [VB a1,VB a2] 30->
   Calls Tryz.prog 35 [VA tb, .slice pk key.length ck, .bool false, .func (.func 56) #[] [VA m,VA p,VA r].toArray].toArray W
   (qb λv w'=>((∃ (u:Nat × Nat) (H':HS) (fl':List Nat) (l':Nat) (t':Tr l'),v=VB 0/\qR key/\a1=u.1/\a2=u.2/\u.1<2147483648/\u.2<65536/\TS N H' fl' rl R P B A l' t'/\Ri N H l t key u H' l' t'/\Two (GZ q N (nQ H') V k) Y lo L2 w')\/
    (∃ e:Int,v=VB e/\(e=2/\(¬qR key\/Io a1 a2)\/e=8/\qR key/\¬Io a1 a2/\uD N H<l+2)/\Two (GZ q N (nQ H) V k) Y lo L2 w'))/\nC lo L2 W w'):=λW L2 p r m f Z O Q J a5 z E K=>by
  have S:=(hR.ll a5).mono Z
  by_cases C:1<=key.length/\key.length<=100
  .replace hkL:=hkL C.1
   have a0:qR key:=⟨λe=>by rw[e]at C;exact absurd C.1 iT,C.2⟩
   by_cases T:Io a1 a2
   .refine(TJ tb hb f S.r (kp:=pk) (kc:=ck) C 56 [VA m,VA p,VA r] dA
     (λG' Y'=>False) (λe G' Y'=>e=2/\G'=nQ H/\Y'=Y) (λG' Y' h=>h.elim) (λe G' Y' ⟨_,_,M⟩=>by subst M;exact hYT) λL' w' I F a3=>?_).to λv w' h=>?_
    .exact(Lr m _ _ a1 a2 a3 (K.kl F (.inr J)) T).BJ (λv w2 h=>h.elim) λc w2 ⟨i,f,j⟩=>⟨2,_,_,VF,i,f,j⟩
    .rcases h with⟨G',Y',h,_⟩|⟨e,G',Y',⟨rfl,rfl,rfl⟩,j,s,G⟩
     .exact h.elim
     .exact⟨.inr ⟨2,j, .inl ⟨rfl, .inr T⟩,s⟩,G⟩
   .obtain⟨u,b1,b2,a6,a7⟩:∃ u:Nat × Nat,a1=u.1/\a2=u.2/\u.1<2147483648/\u.2<65536:=by
     unfold Io at T;exact⟨(a1.toNat,a2.toNat),by dsimp only;omega,by dsimp only;omega,by dsimp only;omega,by dsimp only;omega⟩
    subst b1;subst b2;refine(TJ tb hb f S.r (kp:=pk) (kc:=ck) C 56 [VA m,VA p,VA r] dA
     (λG' Y'=>∃ (H':HS) (fl':List Nat) (l':Nat) (t':Tr l'),G'=nQ H'/\Y'=Y/\TS N H' fl' rl R P B A l' t'/\Ri N H l t key u H' l' t') (λe G' Y'=>e=8/\G'=nQ H/\Y'=Y/\uD N H<l+2) (λG' Y' ⟨_,_,_,_,_,M,_⟩=>by subst M;exact hYT) (λe G' Y' ⟨_,_,M,_⟩=>by subst M;exact hYT) λL' w' I F a3=>?_).to λv w' h=>?_
    .have b3:=(S.ll F).mono I
     have b4:=(hkey.rQ a5 hkL).rQ F λg o e=>(hkL g o e).imp id (Z g)
     exact(QL m p r u a3 b3 hS (K.kl F (.inr J)) (I _ J) (z.kl F (.inr O)) (I _ O) (ck:=ck) (E.kl F (.inr Q)) (I _ Q) b4 (λg o e=>(hkL g o e).imp id λb5=>I g (Z g b5)) a0 a6 a7).BJ (λv w2 ⟨H',fl',l',t',i,f,j,s⟩=>⟨_,_,⟨H',fl',l',t',rfl,rfl,i,f⟩,j,s⟩) λc w2 ⟨i,f,j,s⟩=>⟨8,_,_,⟨rfl,rfl,rfl,i⟩,f,j,s⟩
    .rcases h with⟨G',Y',⟨H',fl',l',t',rfl,rfl,i,f⟩,j,s,G⟩|⟨e,G',Y',⟨rfl,rfl,rfl,i⟩,j,s,G⟩
     .exact⟨.inl ⟨u,H',fl',l',t',j,a0,rfl,rfl,a6,a7,i,f,s⟩,G⟩
     .exact⟨.inr ⟨8,j, .inr ⟨rfl,a0,T,i⟩,s⟩,G⟩
  .have b6:¬qR key:=λa8=>C ⟨by
    cases key with
    |nil=>exact absurd rfl a8.1
    |cons a b=>simp,a8.2⟩
   exact(v_ tb hb f S.r (kp:=pk) (kc:=ck) C _).to λv w' ⟨i,f,j⟩=>⟨.inr ⟨2,i, .inl ⟨rfl, .inl b6⟩,f⟩,j⟩
 refine nZ (rs:=[.tmp 6]) (n:=11) Tryz.func16 rfl rfl Tryz.ntmps16 dA rfl<|ny<|nK<|qi ([_]) rfl<|λp c9 O z a9=>?_
 replace D:=D.nL a9 O z.lt;replace y:=y.new a9;refine nK<|qi ([_]) rfl<|λr d0 Q E a4=>?_
 replace D:=D.nL a4 Q E.lt;replace y:=y.new a4;replace z:=z.new a4;refine nK<|qi ([VB a1,VB a2]) rfl<|λm b7 J K U=>?_
 replace D:=D.nL U J K.lt;replace y:=y.new U;replace z:=z.new U;replace E:=E.new U;refine oG<|mZ (nH z)<|mZ (nH E)<|mZ (uV) ?_
 have X:∀ b∈L,b∈m::r::p::L:=λb hb=>by simp[hb]
 refine qA rfl (oz dA rfl) (b0 b7 (m::r::p::L) p r m D X ig ig ig y z E K) ?_;rintro _ d1 ⟨b8,b9⟩;replace y:=y.ll b9 X;refine nA<|nk<|nY<|ou [_] ⟨rfl,trivial⟩<|⟨?_,y⟩
 rcases b8 with⟨u,H',fl',l',t',rfl,i,f,j,s,G,c4,c5,c6⟩|⟨e,rfl,i,f⟩
 .exact .inl ⟨u,H',fl',l',t',rfl,i,f,j,s,G,c4,c5,c6.weak X⟩
 .exact .inr ⟨e,rfl,i,f.weak X⟩
end
theorem Vf{α:Type}:∀ {l:List α} {i:Nat},i<l.length->l.eraseIdx i=l.take i++l.drop (i+1)
 |[],i,h=>by simp at h
 |a::l,0,_=>rfl
 |a::l,i+1,h=>by rw[List.eraseIdx_cons_succ,Vf (l:=l) lD];rfl
theorem rD.erase{w:World}{bl:List Nat}{vs:List Value}{cs:List (Key × V3)}(h:rD w bl vs cs){i:Nat}(hi:i<cs.length):rD w bl (vs.take (i*4)++vs.drop ((i+1)*4)) (cs.eraseIdx i):=by
 rw[Vf hi];exact(h.take i).app (h.drop (i+1))
theorem zk3(lv:Nat)(cs:List (Key × V3)):(rZ lv cs).length=cs.length/\((rZ lv cs).map λc=>(qh lv c).length).sum<=(cs.map λc=>(qh lv c).length).sum:=by
 unfold rZ
 split
 .exact⟨rfl,ax _⟩
 .cases cs with
  |nil=>exact⟨rfl,ax _⟩
  |cons a r=>
   refine⟨rfl,?_⟩;have c:=Ac lv (([]:Key),a.2);have e:=Ac lv a;simp only[bi,dh,c,e,aY];omega
theorem ztv{x:MN}(h:xE x){i:Nat}(hi:i<x.cs.length):MF ⟨x.n,x.lv,rZ x.lv (x.cs.eraseIdx i)⟩:=by
 obtain⟨e,j⟩:=zk3 x.lv (x.cs.eraseIdx i);refine⟨h.lv,λc f=>?_,?_⟩
 .rcases znm f with a|a
  .rw[a];exact aC _
  .exact(h.wf c (List.mem_of_mem_eraseIdx a)).1
 .have g:=h.size
  rw[Md]at g;unfold uM;refine decide_eq_true ?_;dsimp only;rw[e];have k:(x.cs.map λc=>(qh x.lv c).length).sum=((x.cs.eraseIdx i).map λc=>(qh x.lv c).length).sum+(qh x.lv x.cs[i]).length:=by
   conv=>lhs;rw[show x.cs=x.cs.take i++x.cs[i]::x.cs.drop (i+1) by rw[<-dm hi,bM]]
   rw[Vf hi];simp only[bJ,bi,fT,dh];omega
  have l:(x.cs.eraseIdx i).length<=x.cs.length:=List.length_eraseIdx_le ..;omega
theorem znq:∀ {l:Nat} {t:Tr l} {k lo hi:Key},qJ l t lo hi->qR k->pW lo k->rR k hi->(wX l t k).length=l+1
 |0,_,_,_,_,_,_,_,_=>rfl
 |l+1,t,k,lo,hi,h,hk,hlo,hhi=>by
  obtain⟨A,x,B,e,g,a,c,f,_⟩:=zR h hk hlo hhi;rw[wX,a,aD,znq (h.2.2.2.2 A x B e) hk c f]
theorem ZN:∀ {l:Nat} {t:Tr l} {k lo hi:Key},qJ l t lo hi->qR k->pW lo k->rR k hi->(wX l t k)[l]?=some (nX 0 (zn l t k),pY (zn l t k).ks k)/\(∀ j,j<l->(wX l t k)[j]?=(ze l t k)[j]?)/\∀ j z,j<l->(wX l t k)[j]?=some z->z.2<z.1.cs.length
 |0,t,k,_,_,_,_,_,_=>⟨rfl,(λj a=>absurd a (gJ j)),λj z a=>absurd a (gJ j)⟩
 |l+1,t,k,lo,hi,a,hk,hlo,hhi=>by
  obtain⟨A,x,B,e,r,c,g,h,_⟩:=zR a hk hlo hhi;obtain⟨i,m,o⟩:=ZN (a.2.2.2.2 A x B e) hk g h;have p:zn (l+1) t k=zn l x.2 k:=by rw[zn,c]
  rw[wX,Pt c,c,p];dsimp only;refine⟨i,λj q=>?_,λj z q f=>?_⟩
  .cases j with
   |zero=>rfl
   |succ j=>exact m j dB
  .cases j with
   |zero=>
    cases f;have:=(aL.1 c).1;show qP t.ks k<(toM (l+1) t.ks).length;unfold toM;rw[aP];exact this
   |succ j=>exact o j z dB f
structure MI(N:Nat)(H:HS)(rl:List Nat)(R:Nat->Nat->Prop)(P:Nat->Nat->List Nat)(B:Nat->Nat->List UInt8)(A:List (Nat × Nat))(pg bs:List Nat)(H':HS):Prop where
 ex:∃ fl Gv,HM N H' fl rl R P B A Gv/\∀ n,n∈Gv↔n∈pg/\n∉bs
 old:∀ n,n∉bs->H'.S n=H.S n
 fr:H'.F.fresh=H.F.fresh
 rt:H'.F.root=H.F.root
namespace MI
variable {N:Nat}{H H':HS}{rl:List Nat}{R:Nat->Nat->Prop}{P:Nat->Nat->List Nat}{B:Nat->Nat->List UInt8}{A:List (Nat × Nat)}{pg bs:List Nat}
theorem back(h:MI N H rl R P B A pg bs H')(hN:N<=2048){n:Nat}(hn:n∈pg)(hb:n∉bs):MI N H rl R P B A pg (bs++[n]) (wZ H' n)/\yP H' (n:Int)=0/\∃ fl,rC N H' fl:=by
 obtain⟨fl,Gv,e,i⟩:=h.ex;have f:=(i n).2 ⟨hn,hb⟩;obtain⟨k,j⟩:=eZ.1 f;have l:=e.back hN j;have p:=e.gf n f;have o:=(e.g3 n).1 f;refine⟨⟨⟨_,_,l,λm=>?_⟩,λm g=>?_,h.fr,h.rt⟩,?_,fl,e.hi.ok⟩
 .rw[Tp e.gn j,i]
  simp only[ay,aJ,not_or]
  constructor
  .rintro⟨⟨a,b⟩,c⟩;exact⟨a,b,c⟩
  .rintro⟨a,b,c⟩;exact⟨⟨a,b⟩,c⟩
 .simp only[ay,aJ,not_or]at g
  show qG H'.S n _ m=_;rw[tF g.2];exact h.old m g.1
 .unfold yP
  rw[if_neg dB,aW,if_neg (by rw[o];exact λh=>h rfl)]
end MI
theorem ztx{g o n c base i:Nat}{vs:List Value}(w:World)(h:qU w base 90 4 g o n c vs)(h1:∀ u∈vs,u.oneCell'=true)(hi:i<n)(hn:n<=1000):
  CQ 46 [.slice (some ⟨g,o,none⟩) n c,VB (i:Int),VB ((i+1:Nat):Int)] w (λv w'=>v= .slice (some ⟨g,o,none⟩) (n - 1) c/\qU w' base 90 4 g o (n - 1) c (vs.take (i*4)++vs.drop ((i+1)*4))/\w.grownBy w' (Value.slice (some ⟨g,o,none⟩) n c).ownBlock):=
 (zvg w h h1 hi hn).to λv w' ⟨h1,a,e⟩=>⟨h1,a,Zy (v:=.slice (some ⟨g,o,none⟩) n c) e.k⟩
theorem zty:∀ {l:Nat} {t:Tr l} {k lo hi:Key},qJ l t lo hi->qR k->pW lo k->rR k hi->(om l t).Nodup->((wX l t k).map λz=>z.1.n).Nodup/\∀ z∈wX l t k,z.1.n∈om l t
 |0,t,k,_,_,_,_,_,_,_=>⟨cB.2 ⟨ig,fI⟩,λz a=>by rw[wX]at a;rw[aJ.1 a];exact vH⟩
 |l+1,t,k,lo,hi,h,hk,hlo,hhi,hnd=>by
  obtain⟨A,x,B,e,D,j,m,o,_⟩:=zR h hk hlo hhi;have hp:om (l+1) t=t.n::t.ks.flatMap λx=>om l x.2:=rfl
  rw[hp]at hnd;obtain⟨p,f⟩:=cB.1 hnd;have g:∀ n∈om l x.2,n∈t.ks.flatMap λx=>om l x.2:=λn q=>bG.2 ⟨x,by rw[e];simp,q⟩
  have r:(om l x.2).Nodup:=by
   rw[e,bR,bP]at f;exact(bU.1 (bU.1 f).2.1).1
  obtain⟨s,i⟩:=zty (h.2.2.2.2 A x B e) hk m o r;rw[wX,j];refine⟨cB.2 ⟨λu=>?_,s⟩,λz a=>?_⟩
  .obtain⟨z,a,y⟩:=bg.1 u
   have C:z.1.n=t.n:=y;exact p<|C▸g _ (i z a)
  .rcases ak.1 a with c|c
   .rw[c];exact aK ..
   .exact aj _<|g _<|i z c
def yt(ps:List (MN × Nat))(k:Nat):Nat:=((ps[k]?).map Prod.snd).getD 0
structure D_ where
 k:Nat
 bs:List Nat
 H:HS
 vs:List Value
 bl:List Nat
 Lc:List Nat
structure DrI(N:Nat)(H:HS)(rl:List Nat)(R:Nat->Nat->Prop)(P:Nat->Nat->List Nat)(B:Nat->Nat->List UInt8)(A:List (Nat × Nat))(l:Nat)(t:Tr l)(ps:List (MN × Nat))(L:List Nat)(b0 gw ow cw:Nat)(s:D_)(w:World):Prop where
 eq:yI ps.reverse=(s.bs++(yI (ps.take (s.k+1)).reverse).1,(yI (ps.take (s.k+1)).reverse).2)
 kl:s.k<=l
 bk:MI N H rl R P B A (om l t) s.bs s.H
 bsq:s.bs=((ps.drop (s.k+1)).map λz=>z.1.n).reverse
 own:qU w b0 97 4 gw ow (l+1) cw s.vs
 wy:∀ j,j<=s.k->∀ z,ps[j]?=some z->∃ xs i',(s.vs.drop (j*4)).take 4=xs++[VB (i':Nat)]/\qC w s.bl xs z.1/\(j<l->i'=z.2)
 bl:∀ b∈s.bl,b∈s.Lc/\b≠gw
 gL:gw∈s.Lc
 LL:∀ b∈L,b∈s.Lc
structure DrE(N:Nat)(rl:List Nat)(R:Nat->Nat->Prop)(P:Nat->Nat->List Nat)(B:Nat->Nat->List UInt8)(A:List (Nat × Nat))(l:Nat)(t1:Tr l)(L:List Nat)(b0 gw ow cw:Nat)(H1:HS)(p:Option Addr)(cp:Nat)(vs:List Value)(bl Lc:List Nat)(w:World):Prop where
 hm:∃ fl Gv,HM N H1 fl rl R P B A Gv/\Gv.Perm (om l t1)
 hold:vg H1.S l t1
 rt:H1.F.root=t1.n
 own:qU w b0 97 4 gw ow (l+1) cw vs
 hd:vs.take 3=oQ (nX l t1) p cp
 nd:qC w bl (oQ (nX l t1) p cp) (nX l t1)
 bl:∀ b∈bl,b∈Lc/\b≠gw
 gL:gw∈Lc
 LL:∀ b∈L,b∈Lc
theorem Q_{N:Nat}{H Hc:HS}{rl:List Nat}{R:Nat->Nat->Prop}{P:Nat->Nat->List Nat}{B:Nat->Nat->List UInt8}{A:List (Nat × Nat)}{l:Nat}{t t1:Tr l}{bs:List Nat}{wn:MN}(hbk:MI N H rl R P B A (om l t) bs Hc)(hdw:Ca l t bs wn t1)(hnd:(om l t).Nodup)(hh:vg H.S l t)(hw:MF wn):
  (∃ fl Gv,HM N ⟨Hc.F,qG Hc.S wn.n (rW wn)⟩ fl rl R P B A Gv/\Gv.Perm (om l t1))/\vg (qG Hc.S wn.n (rW wn)) l t1:=by
 obtain⟨fl,Gv,f,i⟩:=hbk.ex;have j:=hdw.pg.symm.nodup hnd;obtain⟨s,k,g⟩:=bU.1 j;have h:∀ n,n∈Gv↔n∈om l t1:=λn=>by
  rw[i,<-hdw.pg.mem_iff,ay]
  constructor
  .rintro⟨a|a,b⟩
   .exact absurd a b
   .exact a
  .exact λa=>⟨.inr a,λb=>g n b n a rfl⟩
 have m:∀ c∈wn.cs,c.1.length<=300:=λc o=>ag (hw.2.1 c o) dB
 have p:rG (pv wn.lv wn.cs)<=512:=by
  have:=hw.2.2;rw[Oh]at this;exact of_decide_eq_true this
 refine⟨⟨fl,Gv,f.KP ((h _).2 hdw.win) (GK m p) rfl,(jg f.gn k).2 h⟩,(hdw.hold H.S hh).frame λn q=>?_⟩;have r:n∉bs:=λhb=>g n hb n q rfl
 by_cases e:n=wn.n
 .rw[e,uU,uU]
 .rw[tF e,tF e];exact hbk.old n r
theorem ZC{vs ns:List Value}{a j:Nat}(h:j*4+4<=a)(ha:a<=vs.length):((splice vs a ns).drop (j*4)).take 4=(vs.drop (j*4)).take 4:=by
 unfold splice;rw[dS kJ,eX (by rw[aM,aI];omega),fw,dQ,bS dB]
theorem H_:∀ {l:Nat} {t:Tr l} {k:Key} {z:MN × Nat},(wX l t k)[0]?=some z->z.1=nX l t
 |0,_,_,_,h=>by rw[wX]at h;cases h;rfl
 |_+1,_,_,_,h=>by rw[wX]at h;cases h;rfl
structure TL(l:Nat)(t:Tr l)(key:Key)(l':Nat)(t':Tr l'):Prop where
 row:oO l' t'=rY (oO l t) key
 le:l'<=l
structure Dn(N:Nat)(rl:List Nat)(R:Nat->Nat->Prop)(P:Nat->Nat->List Nat)(B:Nat->Nat->List UInt8)(A:List (Nat × Nat))(rows:List (Key × (Nat × Nat)))(l:Nat)(t:Tr l)(H:HS):Prop where
 hm:∃ fl Gv,HM N H fl rl R P B A Gv/\Gv.Perm (om l t)
 hold:vg H.S l t
 rt:H.F.root=t.n
 sd:qJ l t [] []
 fu:l=0\/wD l t
 nd:(om l t).Nodup
 rw_:oO l t=rows
 nb:N<=250
namespace Dn
variable {N:Nat}{H:HS}{rl:List Nat}{R:Nat->Nat->Prop}{P:Nat->Nat->List Nat}{B:Nat->Nat->List UInt8}{A:List (Nat × Nat)}{rows:List (Key × (Nat × Nat))}{l:Nat}
theorem rg{t:Tr l}(h:Dn N rl R P B A rows l t H):∀ n∈om l t,1<=n/\n<H.F.fresh:=λn a=>by
 obtain⟨fl,Gv,c,e⟩:=h.hm;exact c.gf n<|e.mem_iff.2 a
theorem ok{t:Tr l}(h:Dn N rl R P B A rows l t H):∃ fl,rC N H fl:=by
 obtain⟨fl,Gv,a,_⟩:=h.hm;exact⟨fl,a.hi.ok⟩
theorem lv{t:Tr l}(h:Dn N rl R P B A rows l t H):l+1<=N:=by
 have e:=RQ h.sd;obtain⟨fl,a⟩:=h.ok;have f:=EG N 0 (om l t) h.nd λn c=>by
  have:=h.rg n c;have:=a.fN;omega
 omega
theorem ti{t:Tr l}(h:Dn N rl R P B A rows l t H):yh N H l t:=by
 obtain⟨fl,a⟩:=h.ok;exact⟨h.rg,h.hold,by have:=h.lv;have:=h.nb;omega,a.fN,by have:=h.nb;omega⟩
theorem step{t:Tr (l+1)}(h:Dn N rl R P B A rows (l+1) t H){x:Key × Val (l+1)}(hx:t.ks=[x]):yP H (t.n:Int)=0/\zf N (x.2.n:Int)=0/\(∃ fl,rC N (wZ H t.n) fl)/\Dn N rl R P B A rows l x.2 (zQ (wZ H t.n) x.2.n):=by
 obtain⟨fl,Gv,c,hp⟩:=h.hm;have q:=h.fu.resolve_left dB;have g:om (l+1) t=t.n::om l x.2:=by
  show t.n::(t.ks.flatMap λx=>om l x.2)=_;rw[hx,bP,jN,aR]
 have i:=h.nd;rw[g]at i;obtain⟨j,m⟩:=cB.1 i;have r:=h.ti;have s:=r.kid (x:=x) (by rw[hx];simp);have u:=s.page.1;have f:t.n∈Gv:=hp.mem_iff.2 vH;obtain⟨k,o⟩:=eZ.1 f;have hb:=c.back (by have:=h.nb;omega) o;have A:=c.gf _ f;have y:=(c.g3 _).1 f;have p:=hb.root u;refine⟨?_,if_neg dB,⟨_,hb.hi.ok⟩,⟨⟨_,_,p,?_⟩,?_,rfl,h.sd.2.2.2.2 [] x [] hx, .inr (q x (by rw[hx];simp)),m,?_,h.nb⟩⟩
 .unfold yP
  rw[if_neg dB,aW,if_neg (by rw[y];exact λh=>h rfl)]
 .refine(jg p.gn m).2 λn=>?_
  rw[Tp c.gn o,hp.mem_iff,g,ak]
  constructor
  .rintro⟨a|a,b⟩
   .exact absurd a b
   .exact a
  .exact λa=>⟨.inr a,λe=>j (e▸a)⟩
 .refine(h.hold.2 x (by rw[hx];simp)).frame λn z=>?_
  show qG H.S t.n _ n=_;exact tF λe=>j (e▸z)
 .rw[<-h.rw_]
  show oO l x.2=t.ks.flatMap λx=>oO l x.2
  rw[hx,bP,jN,aR]
theorem fin{t:Tr l}(h:Dn N rl R P B A rows l t H)(hl:l=0\/t.ks.length≠1):∃ fl,TS N H fl rl R P B A l t:=by
 obtain⟨fl,Gv,c,hp⟩:=h.hm;refine⟨fl,⟨⟨Gv,c,hp⟩,⟨h.sd,?_,h.nd,h.hold⟩,h.rt,h.nb⟩⟩;cases l with
 |zero=>trivial
 |succ l=>
  obtain⟨x,r,e,_⟩:=h.sd.1;have a:=hl.resolve_left dB;rw[e]at a;refine⟨?_,h.fu.resolve_left dB⟩;rw[e];cases r with
  |nil=>exact absurd rfl a
  |cons y r=>show 2<=r.length+1+1;omega
end Dn
structure OE where
 l:Nat
 t:Tr l
 H:HS
 xs:List Value
 bl:List Nat
 Lc:List Nat
 g:Nat
structure XT(L:List Nat)(z:Nat)(s:OE)(w:World):Prop where
 ge:z<=s.g
 r:row w s.g s.xs 87
 nd:qC w s.bl s.xs (nX s.l s.t)
 bl:∀ b∈s.bl,b∈s.Lc/\b≠s.g
 gL:s.g∈s.Lc
 LL:∀ b∈L,b∈s.Lc
section
variable {Y:VE}[hYT:nz Y]{q tb hb N lo:Nat}{L:List Nat}{V:Nat->Pg}{k:Nat}{H:HS}{fl rl:List Nat}{R:Nat->Nat->Prop}{P:Nat->Nat->List Nat}{B:Nat->Nat->List UInt8}{A:List (Nat × Nat)}{l:Nat}{t:Tr l}{w:World}
theorem Nt (gt gk:Nat) (h:Two (GZ q N (nQ H) V k) Y lo L w) (hR:TR q tb hb N lo L H fl l t w) (hS:TS N H fl rl R P B A l t) (hrt:row w gt [VA tb] 37) (hgt:gt∈L)
   {pk:Option Addr} {ck:Nat} {key:Key} (hrk:row w gk [.slice pk key.length ck] 23) (hgk:gk∈L) (hkey:nM w pk key.length 1 (bv key)) (hkL:∀ g o,pk=some ⟨g,o,none⟩->g<lo\/g∈L) (hkk:qR key):
   Calls Tryz.prog 42 [VA gt,VA gk].toArray w
     (ul (λ_ w'=>(∃ v,(key,v)∈oO l t)/\(∃ (H':HS) (fl':List Nat) (l':Nat) (t':Tr l'),TS N H' fl' rl R P B A l' t'/\TL l t key l' t'/\Two (GZ q N (nQ H') V k) Y lo L w')/\nC lo L w w') (λc w'=>(∀ v,(key,v)∉oO l t)/\c=pe (yA 6)/\Two (GZ q N (nQ H) V k) Y lo L w'/\nC lo L w w')):=by
 have p:=nC.refl lo L w;have G9:maxLen=9223372036854775807:=by decide
 have H3:=h.lo;have u0:=BQ tb hb (ck:=ck) h hR.ok hR.r hR.tb hR.rh hR.hb hR.ti hR.sd hR.rt hkey hkL hkk;have H4:=hS.lv;have u1:=hS.nb;obtain⟨⟨H5,H6,l2⟩,l3⟩:=Ws hR.sd hkk (vF key) (.inl rfl);have p5:=Wy hR.ti hR.sd hkk (vF key) (.inl rfl);have i8:=Xr hR.sd hkk (vF key) (.inl rfl);have p6:=SE hR.sd hkk (vF key) (.inl rfl);obtain⟨h1,l4,p7⟩:=ZN hR.sd hkk (vF key) (.inl rfl);have u2:=znq hR.sd hkk (vF key) (.inl rfl);obtain⟨i9,j0⟩:=zty hR.sd hkk (vF key) (.inl rfl) hS.tr.nd;obtain⟨b6,u3⟩:=aa (zn l t key);rw[u3]at l2 l3 p5 i8 h1;obtain⟨H7,p8⟩:=aa (ze l t key);obtain⟨ps,h2⟩:=aa (wX l t key);rw[p8]at i8 p6 l4;rw[h2]at h1 l4 p7 u2 i9 j0;have p9:=p5.zZ l2;have H8:=p9.few;have u4:=p9.keys.1;refine xg (rs:=[]) (n:=126) Tryz.func42 rfl rfl Tryz.ntmps42 dA rfl<|ny<|mZ (nH hrt)<|mZ (nH hrk)<|nP (u0) ?_
 rintro _ g3 ⟨vs,bl,h3,l5,h4,q0,u5,l6,Q,u6⟩;replace p:=p.ll u6 (λb hb=>hb);have u7:=l5;obtain⟨g4,g5,rfl⟩:=u7.form;have j1:=l5.sl;have m:=j1.some dB;obtain⟨b4,d2,rfl,H9⟩:=m;rw[p8]at h4;have m:=h4.at_ l _ i8;obtain⟨xs,l7,e1⟩:=m;replace e1:qC g3 bl xs (nX 0 b6):=e1;obtain⟨c5,c6,h5,rfl,j2,g6,l8,l9⟩:=e1;have u9:=h4.len;have v0:(vs.drop (l*4)).take 3=oQ (nX 0 b6) c5 c6:=by
   have u:=congrArg (List.take 3) l7;rw[dQ]at u;exact u.trans<|bN rfl
 have m0:∀ w',Below (g3).heap.size g3 w'->Ld Tryz.prog w' 87 ⟨b4,d2+l*4,none⟩ (.agg (oQ (nX 0 b6) c5 c6).toArray):=λw' hb=>by
   have D:=Ld.zu (P:=Tryz.prog) (t:=87) (j:=l*4) (k:=3) (j1.new hb) dA dA (by rw[u9,p6];omega);rw[v0]at D;exact D
 have v1:qC g3 bl (oQ (nX 0 b6) c5 c6) (nX 0 b6):=⟨c5,c6,h5,rfl,j2,g6,l8,l9⟩;have v2:=hkey.rQ p hkL;have h6:=hrk.kl p (.inr hgk);have d3:=Below.refl (g3).heap.size g3;refine oG<|ng<|mZ (oV (e:=97) (sz:=4) dA rfl rfl)<|mZ (vZ rfl rfl (show IntKind.i64.wrap (((l+1:Nat):Int) - 1)=(l:Int) by rw[nV dB];omega))<|nA<|nk<|nI<|qH [] dA ?_
 intro v4 j3 v5;replace Q:=Q.new j3;replace p:=p.new j3;replace h6:=h6.new j3;replace d3:=d3.acc j3;have I0:=Q;have I1:=p;have v6:=h6;have v7:=d3;refine nu 0 (nS)<|nu 1 (nS)<|nu 2 (qZ (e:=97) (sz:=4) dA rfl rfl (l) dB dB)<|nu 3 (nG 0)<|nR 4 (λw' Z=>oK rfl (m0 _ (v7.nD Z kw)))<|nR 5 (λw' Z=>nH (v6.kq Z))<|oh 6 dA<|qw rfl rfl (oz dA rfl) (Tt (x:=nX 0 b6) v4 (v1.new d3) dB u4 (v2.new d3)) ?_
 rintro _ v8 ⟨rfl,h7⟩;have v9:=v5.add0 h7;refine⟨v9,?_⟩;replace Q:=Q.new h7;replace p:=p.new h7;replace h6:=h6.new h7;replace d3:=d3.acc h7;refine nu 7 (nS)<|nu 8 (nW rfl rfl)<|nu 9 (nW rfl rfl)<|nu 10 (rO)<|nu 11 (rO)<|pq dA<|nJ<|nI<|ny<|ng<|mZ (sj rfl)<|nk<|Ki rfl (λg7=>?_)<|λg7=>?_
 ·
  refine nO ?_;have J:=Q.weak (L2:=L) l6;have w0:∀ v,(key,v)∉oO l t:=λv I=>by
    have y:=(Yw l2.AO (k:=key)).2 ⟨(key,v),(l3 v).1 I,rfl⟩;have a6:isK (nX 0 b6).cs key=isK b6.ks key:=QV _ _;rw[a6,y]at g7;cases g7
  refine wN rfl (oz dA rfl) (MQ 6 iT v8) ((λc w' ⟨h8,q1⟩=>wY ⟨w0,h8,by rw[<-q1];exact J,by rw[<-q1];exact p⟩)) ?_;rintro _ _ w3;exact w3.elim
 ·
  have w4:isK (nX 0 b6).cs key=isK b6.ks key:=QV _ _;have q2:pY (nX 0 b6).cs key=pY b6.ks key:=VL _ _;have w5:=g7;rw[w4]at g7;obtain⟨m1,m2⟩:∃ v:Nat × Nat,(key,v)∈oO l t:=by
    have m:=Cg g7;obtain⟨⟨I2,q3⟩,d4,q4⟩:=m;dsimp only at q4;subst q4;exact⟨q3,(l3 q3).2 (aO d4)⟩
  obtain⟨a7,w6⟩:=aa (MH l t key);have m:=zqZ hS.tr hkk ⟨(key,m1),m2,rfl⟩;obtain⟨I3,I4,m3,q5,q6,q7,m4,g8⟩:=m;rw[h2]at m3;rw[w6]at q5 q6 q7 m4 g8;have w7:∀ z∈ps,xE z.1:=λz F=>TZ hR.ti hR.sd hkk (vF key) (.inl rfl) z.1 (by
    have y:=zs4 hR.sd hkk (vF key) (.inl rfl);rw[h2]at y;rw[<-y];exact bg.2 ⟨z,F,rfl⟩)
  have w8:∀ (j:Nat) (z:MN × Nat),ps[j]?=some z->z.2<z.1.cs.length:=λj z F=>by
    by_cases j4:j<l
    · exact p7 j z j4 F
    · have w9:=(aL.1 F).1
      have m5:j=l:=by omega
      rw[m5,h1]at F;cases F;rw[<-q2];exact Cw w5
  obtain⟨Gv,I,x0⟩:=hS.hm;have x1:MI N H rl R P B A (om l t) [] H:=⟨⟨fl,Gv,I,λn=>by simp[x0.mem_iff]⟩,λ_ _=>rfl,rfl,rfl⟩;have I5:w.heap.size<=w.heap.size:=ax _;have I6:gk∈h3:=l6 _ hgk;refine nU<|nJ<|wO (λa:HS × Option Addr × Nat × List Value × List Nat × List Nat=>[(2, .slice (some ⟨b4,d2,none⟩) (l+1) g5),(0,VA gt),(1,VA gk)]) (λa w'=>DrE N rl R P B A l a7 L w.heap.size b4 d2 g5 a.1 a.2.1 a.2.2.1 a.2.2.2.1 a.2.2.2.2.1 a.2.2.2.2.2 w'/\Two (GZ q N (nQ a.1) V k) Y lo a.2.2.2.2.2 w'/\nC lo L w w') ?_ ?_
  ·
   refine pE ?_;refine qY (α:=D_) ⟨l,[],H,vs,bl,h3⟩ (λs=>[(3,VB (s.k:Nat)),(4,VB (yt ps s.k:Nat)),(2, .slice (some ⟨b4,d2,none⟩) (l+1) g5),(0,VA gt),(1,VA gk)])
     (λs w'=>DrI N H rl R P B A l t ps L w.heap.size b4 d2 g5 s w'/\Two (GZ q N (nQ s.H) V k) Y lo s.Lc w'/\nC lo L w w') (λs=>s.k)
     ⟨rfl,congrArg (Value.int .i64) (by show((pY (nX 0 b6).cs key:Nat):Int)=((yt ps l:Nat):Int);unfold yt;rw[h1,q2];rfl),rfl,rfl,rfl,rfl⟩ ⟨⟨?_,ax _,x1,?_,Coup.og.new l5 d3,λj f0 z F=>?_,λb hb=>⟨(q0 b hb).1,λe=>(q0 b hb).2 (by rw[e];exact aK ..)⟩,u5 b4 (aK ..),l6⟩,Q,p⟩ ?_
   · dsimp only
     rw[aU,aQ dB]
   · dsimp only
     rw[cK dB];rfl
   · dsimp only at f0 |-
     by_cases j4:j<l
     · rw[l4 j j4]at F
       have m:=h4.at_ j z F;obtain⟨xs,E,u⟩:=m;exact⟨xs,z.2,E,u.new d3,λ_=>rfl⟩
     · have w9:=(aL.1 F).1
       have m5:j=l:=by omega
       subst m5;rw[h1]at F;cases F;have m:=h4.at_ _ _ i8;obtain⟨xs,E,u⟩:=m;exact⟨xs,0,E,u.new d3,λh=>absurd h j4⟩
   clear Q p;rintro⟨f,bs,Hc,vs,bl,h3⟩ I7 a5 ⟨x3,Q,p⟩;obtain⟨b7,x4,e2,m6,f1,m7,j5,f2,a0⟩:=x3;dsimp only at b7 x4 e2 m6 f1 m7 j5 f2 a0 Q;have m:∃ z,ps[f]?=some z:=⟨_,aG dB⟩;obtain⟨⟨x,i⟩,F⟩:=m;have x5:yt ps f=i:=by unfold yt;rw[F];rfl
   have m8:=w7 (x,i) (aO F);have g9:=w8 f (x,i) F;dsimp only at m8 g9;have m:=m7 f (ax _) _ F;obtain⟨xs,d5,l7,e1,_⟩:=m;replace e1:qC a5 bl xs x:=e1;obtain⟨c5,c6,h5,rfl,j2,g6,l8,l9⟩:=e1;have e1:qC a5 bl (oQ x c5 c6) x:=⟨c5,c6,h5,rfl,j2,g6,l8,l9⟩;have I8:=vQ x c5 c6;have I9:=wV x c5 c6;have j1:=f1.sl;have J0:=f1.len;have m0:∀ w',VD a5 w'->Ld Tryz.prog w' 87 ⟨b4,d2+f*4,none⟩ (.agg (oQ x c5 c6).toArray):=λw' hb=>by
     have E:(vs.drop (f*4)).take 3=oQ x c5 c6:=by
       have u:=congrArg (List.take 3) l7;rw[dQ]at u;exact u.trans<|bN rfl
     have D:=Ld.zu (P:=Tryz.prog) (t:=87) (j:=f*4) (k:=3) (j1.new hb) dA dA (by rw[f1.len];omega);rw[E]at D;exact D
   have J1:=m8.few;have q8:=VX g6;have J2:=g6.len;have O:=Below.refl a5.heap.size a5;have x6:=Q.lt;rw[zpY F,yI]at b7;subst x5;have h9:(rZ x.lv (x.cs.eraseIdx (yt ps f))).length=x.cs.length - 1:=by
     rw[(zk3 _ _).1,jT g9]
   have m9:=λw' (hb:VD a5 w')=>(g6.new hb).erase g9
   refine nI<|pE<|ny<|ng<|ng<|mZ (qZ (e:=97) (sz:=4) dA rfl rfl f (by rfl) dB)<|mZ (nG 0)<|mZ (oK rfl (m0 _ O))<|nK<|oD ([VB 0,VB 0,VC]) dA<|λc8 J3 x7 C x8=>?_
   have q9:=ag O.size x7;replace O:=O.acc x8;refine nT<|oC 3 (oQ x c5 c6) C<|λx9 C y0=>?_
   replace O:=y0.below O q9;refine qx<|mZ (nG 2)<|mZ (nH C) ?_
   have J4:=C.lt;have J5:=O.size;refine qA rfl (oz dA rfl) (OZ x9 (j2.new O) q8 dB) ?_;rintro _ y1 ⟨J6,a8,rfl,j6,r0⟩;replace C:=C.new r0;replace O:=O.acc r0;have m:=j6.form' dB;obtain⟨K,a9,J7,y2,r1,_⟩:=m;cases y2;refine ng<|ng<|mZ (oJ rfl rfl (show IntKind.i64.wrap ((yt ps f:Int)+1)=((yt ps f+1:Nat):Int) by rw[nV dB];omega))<|qA rfl (oz dA rfl) (ztx y1 j6 q8 g9 dB) ?_
   rintro _ J8 ⟨rfl,b8,r2⟩;replace C:=C.own j6 r2 dB;replace O:=O.own j6 r2 dB;refine mZ (nG 2) ?_;have J9:=b8.lt;refine nT<|pQ C<|λy3 C r3=>?_
   replace b8:=b8.only r3 dB;replace O:=r3.below O q9;replace C:row y3 c8 [VB (x.n:Int),VB (x.lv:Int), .slice (some ⟨K,a9,none⟩) (x.cs.length - 1) a8] 87:=C;refine nk<|wO (λa:List Value=>[(6,VA c8),(3,VB (f:Nat)),(2, .slice (some ⟨b4,d2,none⟩) (l+1) g5),(0,VA gt),(1,VA gk)]) (λa w'=>row w' c8 [VB (x.n:Int),VB (x.lv:Int), .slice (some ⟨K,a9,none⟩) (x.cs.length - 1) a8] 87/\qU w' a5.heap.size 90 4 K a9 (x.cs.length - 1) a8 a/\rD w' bl a (rZ x.lv (x.cs.eraseIdx (yt ps f)))/\VD a5 w') ?_ ?_
   ·
    refine ny<|mZ (nG 1)<|mZ (nH C)<|mZ (rz rfl rfl)<|ng<|sZ 52 rfl (λy4=>?_)<|λy4=>?_
    ·
     refine nE<|mZ (nG 2)<|nE<|mZ (nH C)<|nE<|mZ (oV (e:=90) (sz:=4) dA rfl rfl)<|nE<|mZ (rz rfl rfl)<|mZ (pK rfl)<|nk<|oZ rfl (λy5=>?_)<|λy5=>?_
     ·
      refine nO<|mZ (nG 2)<|mZ (nH C)<|mZ (qZ (e:=90) (sz:=4) dA rfl rfl (0) dB dB)<|mZ (nG 0)<|nT<|Jj ([VC]) (0) b8 rfl rfl dA kI kD<|λK0 b8 r4=>?_
      replace C:=C.only r4 dB;replace O:=r4.below O dB;refine oI<|oM ⟨splice (h5.take (yt ps f*4)++h5.drop ((yt ps f+1)*4)) 0 [VC],VF,C,og.mono b8 dB,?_,O⟩
      have e3:=m9 _ O;cases f3:x.cs.eraseIdx (yt ps f)with
      |nil=>
        rw[f3]at h9;have y:(rZ x.lv ([]:List (Key × V3))).length=0:=by unfold rZ;split<;>rfl
        omega
      |cons a r=>
        rw[f3]at e3;have y:rZ x.lv (a::r)=([],a.2)::r:=by unfold rZ;rw[if_neg dB]
        rw[y];exact e3.head
     ·
      refine nU<|oM ⟨_,VF,C,og.mono b8 dB,?_,O⟩
      have e3:=m9 _ O;have f3:x.cs.eraseIdx (yt ps f)=[]:=bH (by rw[jT g9];omega);rw[f3]at e3 |-;have y:rZ x.lv ([]:List (Key × V3))=[]:=by unfold rZ;split<;>rfl
      rw[y];exact e3
    ·
     refine nN<|nN<|nN<|nN<|mZ (oP rfl)<|nk<|ui rfl (rfl)<|nU<|oM ⟨_,VF,C,og.mono b8 dB,?_,O⟩
     have y:rZ x.lv (x.cs.eraseIdx (yt ps f))=x.cs.eraseIdx (yt ps f):=by unfold rZ;rw[if_pos dB]
     rw[y];exact m9 _ O
   ·
    rintro y6 y7 wc ⟨C,b8,r5,O⟩;obtain⟨a1,e3⟩:=aa (rZ x.lv (x.cs.eraseIdx (yt ps f)));rw[e3]at r5 h9 b7;have r1:=b8.NU;have y8:=b8.lt;have d8:=ztv m8 g9;rw[e3]at d8;have y9:qC wc (K::bl) (oQ ⟨x.n,x.lv,a1⟩ (some ⟨K,a9,none⟩) a8) ⟨x.n,x.lv,a1⟩:=
      ⟨_,_,y6,rfl,by dsimp only;rw[h9];exact b8.sl,r5.mono λb hb=>aj _ hb,(λg o e=>by cases e;exact aK ..),by dsimp only;rw[h9];exact LK b8⟩
    have z0:=vQ ⟨x.n,x.lv,a1⟩ (some ⟨K,a9,none⟩) a8;have K1:=wV ⟨x.n,x.lv,a1⟩ (some ⟨K,a9,none⟩) a8;replace C:row wc c8 (oQ ⟨x.n,x.lv,a1⟩ (some ⟨K,a9,none⟩) a8) 87:=by unfold oQ;rw[h9];exact C
    have h0:=Q.Dc O (M:=List.range' a5.heap.size (wc.heap.size - a5.heap.size)) λb hb=>by
      have:=dw.1 hb;omega
    obtain⟨b1,n0⟩:=aa (List.range' a5.heap.size (wc.heap.size - a5.heap.size)++h3);have r6:∀ b,a5.heap.size<=b->b<wc.heap.size->b∈b1:=λb y a6=>by rw[<-n0];exact aF _ (Rf y a6)
    have b2:∀ b∈h3,b∈b1:=λb y=>by rw[<-n0];exact aB _ y
    rw[n0]at h0;have K2:=f1.lt;have z1:=C.lt;have b9:=f1.new O;have T:=p.new O;have K3:∀ b∈bl,b<a5.heap.size:=λb hb=>x6 b (j5 b hb).1
    have K4:=f1.NU;have K5:=Below.refl wc.heap.size wc;have z2:=λj f0 z F=>let ⟨xs,d5,E,u,D⟩:=m7 j f0 z F;(⟨xs,d5,E,(qC.mono (u.new O) (bl':=K::bl) λb hb=>aj _ hb),D⟩:∃ xs d5,(vs.drop (j*4)).take 4=xs++[VB (d5:Nat)]/\qC wc (K::bl) xs z.1/\(j<l->d5=z.2))
    refine ny<|ng<|ng<|mZ (pz 3 C)<|mZ (qZ (e:=97) (sz:=4) dA rfl rfl f dB dB)<|mZ (nG 0)<|nT<|Jj (oQ ⟨x.n,x.lv,a1⟩ (some ⟨K,a9,none⟩) a8) ((f*4)) b9 rfl rfl dA kS z0<|λr7 b9 j7=>?_
    replace C:=C.only j7 dB;replace h0:=h0.only j7 eG;replace T:=T.only j7 jo;have j8:=Kp.rJ j7;have i0:∀ b∈K::bl,b∉[b4]:=λb hb I=>by
      have u:b=b4:=by simpa using I
      rcases ak.1 hb with D|D
      · omega
      · exact(j5 b D).2 u
    have i1:∀ b∈K::bl,b∈b1:=λb hb=>by
      rcases ak.1 hb with D|D
      · rw[D];exact r6 K r1 y8
      · exact b2 b (j5 b D).1
    have j9:∀ b∈K::bl,b<lo\/b∈b1:=λb hb=>.inr (i1 b hb)
    have k0:=y9.nD j8 i0;have k7:∀ j,j<=f->∀ z,ps[j]?=some z->∃ xs d5,(vs.drop (j*4)).take 4=xs++[VB (d5:Nat)]/\qC r7 (K::bl) xs z.1/\(j<l->d5=z.2):=λj f0 z F=>by
      obtain⟨xs,d5,E,u,D⟩:=z2 j f0 z F;exact⟨xs,d5,E,u.nD j8 i0,D⟩
    refine nk<|nI<|ny<|mZ (nG 2)<|mZ (nH C)<|mZ (oV (e:=90) (sz:=4) dA rfl rfl)<|mZ (rz rfl rfl)<|ng<|sZ 71 rfl (λn1=>?_)<|λn1=>?_
    ·
     refine nN<|nN<|mZ (pK rfl)<|nk<|vD rfl (rfl)<|nI ?_
     have n2:¬(a1=[]/\(ps.take f).reverse≠[]):=λy=>by
       have n3:(0:Int)<(a1.length:Int):=n1;rw[y.1]at n3;exact absurd n3 iT
     refine nO<|mZ (oK rfl (Ld.ru (hrt.kl T (.inr hgt)) dA rfl))<|mZ (pz 3 C) ?_
     rw[if_neg n2]at b7;dsimp only at b7;rw[m3]at b7;have m:=iC b7;obtain⟨d6,f4⟩:=m;rw[aR]at d6;replace f4:=bQ f4;have b0:=hR.ll T;subst d6;subst f4;have m:=Q_ e2 g8 hS.tr.nd hS.tr.hold d8;obtain⟨i2,i3⟩:=m;dsimp only at i2 i3;have f5:=hS.rg x.n (j0 _ (aO F));refine qA rfl (oz dA rfl) (Yc tb hb h0 b0.r k0 d8.1 (λc h8 => ag (d8.2.1 c h8) dB) d8.2.2 (ae f5.2 hS.ok.fN)) ?_;rintro _ n4 ⟨rfl,i4,d9⟩;have n5:=b9.nD d9.kp (pG (.inr (b2 _ f2)));have n6:=k0.ll d9 j9;replace T:=T.ll d9 (λb hb=>b2 b (a0 b hb));refine nk<|qL<|qK<|MR rfl<|qK<|rq<|qO ?_
     rw[TF (H:=Hc) f5.1 (by rw[e2.fr];exact f5.2)]at i4;obtain⟨U,c0,n7,n8⟩:∃ U c0,(splice vs (f*4) (oQ ⟨x.n,x.lv,a1⟩ (some ⟨K,a9,none⟩) a8)).take 3=oQ (nX l a7) U c0/\qC n4 (K::bl) (oQ (nX l a7) U c0) (nX l a7):=by
       have e0:ps[0]?=some ps[0]:=aG dB;have f6:=H_ (l:=l) (t:=t) (k:=key) (by rw[h2];exact e0);have c9:=g8.top
       by_cases f7:f=0
       · subst f7
         have d4:x=nX l t:=by
           rw[e0]at F;have y:=congrArg Prod.fst (bQ F);rw[f6]at y;exact y.symm
         rw[if_pos (by show x.n=t.n;rw[d4];rfl)]at c9;refine⟨_,_,?_,by rw[<-c9];exact n6⟩;rw[<-c9];unfold splice;rw[cO,dz,aU];exact bN rfl
       · have n9:x.n≠t.n:=λe=>by
           have y:(ps.map λz=>z.1.n)[0]?=some t.n:=by rw[aV,e0];show some ps[0].1.n=_;rw[f6];rfl
           have a6:(ps.map λz=>z.1.n)[f]?=some t.n:=by rw[aV,F];show some x.n=_;rw[e]
           exact f7 (Sq i9 y a6).symm
         rw[if_neg n9]at c9;have m:=k7 0 (aC _) _ e0;obtain⟨z3,o0,E,u,_⟩:=m;rw[f6,c9]at u;replace u:=u.ll d9 j9;obtain⟨U,c0,o1,rfl,b3⟩:=u;refine⟨U,c0,?_,⟨U,c0,o1,rfl,b3⟩⟩;have i5:(vs.drop (0*4)).take 4=oQ (nX l a7) U c0++[VB (o0:Nat)]:=E;rw[cO,bV]at i5;have i6:=congrArg (List.take 3) i5;rw[dQ]at i6;unfold splice;rw[eX kJ,dQ,bS dB];exact i6.trans<|bN rfl
     refine oM ⟨(⟨Hc.F,qG Hc.S x.n (rW ⟨x.n,x.lv,a1⟩)⟩,U,c0,splice vs (f*4) (oQ ⟨x.n,x.lv,a1⟩ (some ⟨K,a9,none⟩) a8),K::bl,b1),VF,⟨i2,i3,e2.rt.trans (hS.rt.trans m4.symm),n5,n7,n8,λb hb=>⟨i1 b hb,λe=>i0 b hb kH⟩,b2 _ f2,λb hb=>b2 b (a0 b hb)⟩,i4,T⟩
    ·
     refine nE<|ng<|nE<|mZ (qB rfl rfl)<|mZ (oP rfl)<|nk<|oZ rfl (λf7=>?_)<|λf7=>?_
     ·
      refine nI ?_;have n2:¬(a1=[]/\(ps.take f).reverse≠[]):=λy=>y.2 (by rw[show f=0 by omega];rfl)
      refine nO<|mZ (oK rfl (Ld.ru (hrt.kl T (.inr hgt)) dA rfl))<|mZ (pz 3 C) ?_
      rw[if_neg n2]at b7;dsimp only at b7;rw[m3]at b7;have m:=iC b7;obtain⟨d6,f4⟩:=m;rw[aR]at d6;replace f4:=bQ f4;have b0:=hR.ll T;subst d6;subst f4;have m:=Q_ e2 g8 hS.tr.nd hS.tr.hold d8;obtain⟨i2,i3⟩:=m;dsimp only at i2 i3;have f5:=hS.rg x.n (j0 _ (aO F));refine qA rfl (oz dA rfl) (Yc tb hb h0 b0.r k0 d8.1 (λc h8 => ag (d8.2.1 c h8) dB) d8.2.2 (ae f5.2 hS.ok.fN)) ?_;rintro _ n4 ⟨rfl,i4,d9⟩;have n5:=b9.nD d9.kp (pG (.inr (b2 _ f2)));have n6:=k0.ll d9 j9;replace T:=T.ll d9 (λb hb=>b2 b (a0 b hb));refine nk<|qL<|qK<|MR rfl<|qK<|rq<|qO ?_
      rw[TF (H:=Hc) f5.1 (by rw[e2.fr];exact f5.2)]at i4;obtain⟨U,c0,n7,n8⟩:∃ U c0,(splice vs (f*4) (oQ ⟨x.n,x.lv,a1⟩ (some ⟨K,a9,none⟩) a8)).take 3=oQ (nX l a7) U c0/\qC n4 (K::bl) (oQ (nX l a7) U c0) (nX l a7):=by
        have e0:ps[0]?=some ps[0]:=aG dB;have f6:=H_ (l:=l) (t:=t) (k:=key) (by rw[h2];exact e0);have c9:=g8.top
        by_cases f7:f=0
        · subst f7
          have d4:x=nX l t:=by
            rw[e0]at F;have y:=congrArg Prod.fst (bQ F);rw[f6]at y;exact y.symm
          rw[if_pos (by show x.n=t.n;rw[d4];rfl)]at c9;refine⟨_,_,?_,by rw[<-c9];exact n6⟩;rw[<-c9];unfold splice;rw[cO,dz,aU];exact bN rfl
        · have n9:x.n≠t.n:=λe=>by
            have y:(ps.map λz=>z.1.n)[0]?=some t.n:=by rw[aV,e0];show some ps[0].1.n=_;rw[f6];rfl
            have a6:(ps.map λz=>z.1.n)[f]?=some t.n:=by rw[aV,F];show some x.n=_;rw[e]
            exact f7 (Sq i9 y a6).symm
          rw[if_neg n9]at c9;have m:=k7 0 (aC _) _ e0;obtain⟨z3,o0,E,u,_⟩:=m;rw[f6,c9]at u;replace u:=u.ll d9 j9;obtain⟨U,c0,o1,rfl,b3⟩:=u;refine⟨U,c0,?_,⟨U,c0,o1,rfl,b3⟩⟩;have i5:(vs.drop (0*4)).take 4=oQ (nX l a7) U c0++[VB (o0:Nat)]:=E;rw[cO,bV]at i5;have i6:=congrArg (List.take 3) i5;rw[dQ]at i6;unfold splice;rw[eX kJ,dQ,bS dB];exact i6.trans<|bN rfl
      refine oM ⟨(⟨Hc.F,qG Hc.S x.n (rW ⟨x.n,x.lv,a1⟩)⟩,U,c0,splice vs (f*4) (oQ ⟨x.n,x.lv,a1⟩ (some ⟨K,a9,none⟩) a8),K::bl,b1),VF,⟨i2,i3,e2.rt.trans (hS.rt.trans m4.symm),n5,n7,n8,λb hb=>⟨i1 b hb,λe=>i0 b hb kH⟩,b2 _ f2,λb hb=>b2 b (a0 b hb)⟩,i4,T⟩
     ·
      have z4:a1=[]:=by
        have n3:¬(0:Int)<(a1.length:Int):=n1;exact bH dB
      have z5:(ps.take f).reverse≠[]:=λy=>by
        have a6:=congrArg List.length y;rw[jM,aI,aY]at a6;omega
      rw[if_pos ⟨z4,z5⟩]at b7;have z6:x.n∉bs:=λI=>by
        rw[m6,List.mem_reverse]at I;have m:=eZ.1 I;obtain⟨K6,r8⟩:=m;rw[fB,bC]at r8;have a6:(ps.map λz=>z.1.n)[f]?=some x.n:=by rw[aV,F];rfl
        have:=Sq i9 a6 r8;omega
      have m:=e2.back dB (j0 _ (aO F)) z6;obtain⟨r9,d6,z7,z8⟩:=m;dsimp only at r9 d6;have o2:=λw' L' (E:Two (GZ q N (nQ Hc) V k) Y lo L' w') (u:row w' hb [VA q] 201) (D:hb<lo\/hb∈L')=>(Jn hb (x.n:Int) E z8 u D).to λv w2 h=>(show v=VB 0/\Two (GZ q N (nQ (wZ Hc x.n)) V k) Y lo L' w2/\nC lo L' w' w2 from by
        obtain⟨E,u,D⟩:=h;rw[d6]at E u;rcases u with⟨_,b3⟩|⟨b3,_⟩
        · exact⟨E,b3,D⟩
        · exact absurd rfl b3)
      have b0:=(hR.ll T).mono (L':=b1) λb hb=>b2 b (a0 b hb)
      have a2:=hrt.kl T (.inr hgt);have a3:=b0.r;have X:=b0.rh;have z9:c8∈b1:=r6 c8 dB z1;have o3:gt∈b1:=b2 _ (a0 _ hgt);have J:=wB (wB (wB (wB h0 (.inr z9) C.lt) (g:=gt) (.inr (aj _ o3)) a2.lt) (g:=hb) (b0.hb.imp id λI=>aj _ (aj _ I)) X.lt) (g:=tb) (b0.tb.imp id λI=>aj _ (aj _ (aj _ I))) a3.lt;have b5:∀ b∈b1,b∈tb::hb::gt::c8::b1:=λb hb=>by simp[hb]
      have m:∃ z,ps[f - 1]?=some z:=⟨_,aG dB⟩;obtain⟨⟨K7,K8⟩,s0⟩:=m;have m:=k7 (f - 1) dB _ s0;obtain⟨K9,o4,A0,A1,A2⟩:=m;have s1:=A2 dB;dsimp only at s1;subst s1;have A3:yt ps (f - 1)=o4:=by unfold yt;rw[s0];rfl
      have A4:=ZC (vs:=vs) (ns:=oQ ⟨x.n,x.lv,a1⟩ (some ⟨K,a9,none⟩) a8) (a:=f*4) (j:=f - 1) dB dB;have S:=nC.refl lo (tb::hb::gt::c8::b1) r7;refine nU<|nJ<|vX (lo) ((tb::hb::gt::c8::b1)) dA ?_
      intro A5 e4 A6 A7;replace C:=C.new e4;replace b9:=b9.new e4;replace T:=T.new e4;replace J:=J.new e4;replace a2:=a2.new e4;replace a3:=a3.new e4;replace X:=X.new e4;replace S:=S.new e4;have A8:=C;have L0:=b9;have L1:=T;have L3:=J;have A9:=a2;have B0:=a3;have L4:=X;have L5:=S;refine nR 0 (λw' Z=>nH (A9.kL Z))<|nu 1 (oo rfl)<|nu 2 (nG 1)<|nR 3 (λw' Z=>nH (B0.kL Z))<|nu 4 (nG 0)<|nR 5 (λw' Z=>nH (A8.kL Z))<|oh 6 dA<|qw rfl rfl (oz dA rfl) (o2 A5 _ J X (.inr ig)) ?_
      rintro _ L6 ⟨rfl,J,e5⟩;replace T:=T.ll e5 (λb hb=>b5 b (b2 b (a0 b hb)));replace S:=S.ll e5 (λb hb=>hb);replace b9:=b9.nD e5.kp (pG (.inr (b5 _ (b2 _ f2))));have B1:=A7.vv A6 e5.wk;refine⟨B1,?_⟩;replace C:=C.kl e5;replace a2:=a2.nD e5.kp eu;replace a3:=a3.kl e5;replace X:=X.nD e5.kp eu;refine zh 7 dA rfl (λ_=>oz dA rfl) (λw' Z=>KA w')<|pq dA<|pO<|nJ ?_;have B2:(splice vs (f*4) (oQ ⟨x.n,x.lv,a1⟩ (some ⟨K,a9,none⟩) a8))[(f - 1)*4+3]?=some (VB (o4:Int)):=by
        obtain⟨L7,L8,_,rfl,_⟩:=A1;have y:=congrArg (λl:List Value=>l[3]?) (A4.trans A0);rw[jO dB,bC]at y;exact y
      have B3:∀ w',qU w' w.heap.size 97 4 b4 d2 (l+1) g5 (splice vs (f*4) (oQ ⟨x.n,x.lv,a1⟩ (some ⟨K,a9,none⟩) a8))->Ld Tryz.prog w' 3 ⟨b4,d2+(f - 1)*4+3,none⟩ (VB (o4:Int)):=λw' a6=>Ld.sl1 (j:=(f - 1)*4+3) a6.sl dA B2
      refine qH [] dA ?_;intro L9 e6 M0;replace C:=C.new e6;replace J:=J.new e6;replace a2:=a2.new e6;replace a3:=a3.new e6;replace X:=X.new e6;replace T:=T.new e6;replace S:=S.new e6;replace b9:=b9.new e6;have M1:=C;have M2:=J;have M3:=a2;have M4:=a3;have M5:=X;have M6:=T;have M7:=S;have B4:=b9;refine nu 0 (nS)<|nu 1 (vZ rfl rfl (show IntKind.i64.wrap ((f:Int) - 1)=((f - 1:Nat):Int) by rw[nV dB];omega))<|nu 2 (nS)<|nu 3 (nS)<|nu 4 (vZ rfl rfl (show IntKind.i64.wrap ((f:Int) - 1)=((f - 1:Nat):Int) by rw[nV dB];omega))<|nu 5 (qZ (e:=97) (sz:=4) dA rfl rfl (f - 1) (by rfl) dB)<|nu 6 (nG 3)<|nR 7 (λw' Z=>oK rfl (B3 _ (B4.nD Z kw)))<|nu 8 (rO)<|nu 9 (rO)<|pq dA ?_
      have B5:b4∈tb::hb::gt::c8::b1:=b5 _ (b2 _ f2);refine oM ⟨⟨f - 1,bs++[x.n],wZ Hc x.n,splice vs (f*4) (oQ ⟨x.n,x.lv,a1⟩ (some ⟨K,a9,none⟩) a8),K::bl,tb::hb::gt::c8::b1⟩,by dsimp only;omega,⟨rfl,congrArg (λn:Nat=>VB (n:Int)) A3.symm,rfl,rfl,rfl,rfl⟩,⟨?_,by dsimp only;omega,r9,?_,b9,λj f0 z B6=>?_,λb hb=>⟨b5 b (i1 b hb),λe=>i0 b hb kH⟩,B5,λb hb=>b5 b (b2 b (a0 b hb))⟩,J,T⟩
      · dsimp only
        rw[b7,show f - 1+1=f by omega,aH];rfl
      · dsimp only
        rw[show f - 1+1=f by omega];have y:=dm (l:=ps) (i:=f) (aL.1 F).1;rw[y,(aL.1 F).2,bi,iU,m6]
      · dsimp only at f0 |-
        have m:=k7 j dB z B6;obtain⟨s2,B7,E,u,D⟩:=m;exact⟨s2,B7,(ZC dB dB).trans E,u.ll S (λb hb=>.inr (b5 b (i1 b hb))),D⟩
  ·
   rintro⟨H1,U,c0,M8,s3,B8⟩ y7 w1 ⟨f3,Q,p⟩;dsimp only at f3 Q;obtain⟨B9,C0,C1,s4,C2,C3,s5,M9,C4⟩:=f3;have C5:Dn N rl R P B A (rY (oO l t) key) l a7 H1:=⟨B9,C0,C1,q5,q6,g8.pg.symm.nodup hS.tr.nd |> λh=>(bU.1 h).2.1,q7,u1⟩;have e7:=Below.refl w1.heap.size w1;have N0:=s4.len;have C6:∀ w',VD w1 w'->Ld Tryz.prog w' 87 ⟨b4,d2,none⟩ (.agg (oQ (nX l a7) U c0).toArray):=λw' hb=>by
     have D:=Ld.zu (P:=Tryz.prog) (t:=87) (j:=0) (k:=3) (s4.sl.new hb) dA dA dB;rw[bV,C2]at D;exact D
   have C7:=Q.lt;have C8:=p.size;have N1:=vQ (nX l a7) U c0;have N2:=wV (nX l a7) U c0;refine ny<|ng<|mZ (qZ (e:=97) (sz:=4) dA rfl rfl (0) dB dB)<|mZ (nG 0)<|mZ (oK rfl (C6 _ e7))<|nK<|oD ([VB 0,VB 0,VC]) dA<|λc4 C9 f8 G f9=>?_
   have D0:=ag e7.size f8;have s6:=p.size;replace Q:=Q.nL f9 f8 G.lt;replace p:=p.new f9;replace e7:=e7.acc f9;refine nT<|oC 3 (oQ (nX l a7) U c0) G<|λN3 G o5=>?_
   replace Q:=Q.only o5 eG;replace p:=p.oq o5;replace e7:=o5.below e7 D0;refine nk<|pE ?_
   have s7:=G.lt;have N4:=e7.size;have D1:∀ b∈s3,b≠c4:=λb hb e=>by
     have y:=C7 b (s5 b hb).1;have a6:=f8;omega
   have o6:w.heap.size<=c4:=by
     have y:=C8;have a6:=f8;omega
   refine qY (α:=OE) ⟨l,a7,H1,oQ (nX l a7) U c0,s3,c4::B8,c4⟩ (λs=>[(7,VA s.g),(0,VA gt),(1,VA gk)])
     (λs w'=>s.l<=l/\Dn N rl R P B A (rY (oO l t) key) s.l s.t s.H/\XT L w.heap.size s w'/\Two (GZ q N (nQ s.H) V k) Y lo s.Lc w'/\nC lo L w w') (λs=>s.l)
     VF ⟨ax _,C5,⟨o6,G,C3.new e7,λb hb=>⟨aj _ (s5 b hb).1,D1 b hb⟩,aK ..,λb hb=>aj _ (C4 b hb)⟩,Q,p⟩ ?_
   clear Q p;rintro⟨d0,a4,H2,N5,s8,e8,c4⟩ N6 w2 ⟨o7,d7,⟨o6,G,k8,D2,o8,a0⟩,Q,p⟩;dsimp only at o7 d7 o6 G k8 D2 o8 a0 Q;obtain⟨k9,c2,s9,rfl,l0,t0,D3,D4⟩:=k8;have k8:qC w2 s8 (oQ (nX d0 a4) k9 c2) (nX d0 a4):=⟨k9,c2,s9,rfl,l0,t0,D3,D4⟩;have N7:=vQ (nX d0 a4) k9 c2;have N8:=wV (nX d0 a4) k9 c2;have N9:=d7.lv;have D5:(nX d0 a4).cs.length=a4.ks.length:=aP _;have D6:(nX d0 a4).lv=d0:=rfl;have s7:=G.lt;refine nI<|ny<|mZ (nG 1)<|mZ (nH G)<|mZ (rz rfl rfl)<|ng<|sZ 93 rfl (λD7=>?_)<|λD7=>?_
   ·
    refine nE<|mZ (nG 2)<|nE<|mZ (nH G)<|nE<|mZ (oV (e:=90) (sz:=4) dA rfl rfl)<|nE<|mZ (qB rfl rfl)<|mZ (pK rfl)<|nk<|oZ rfl (λD8=>?_)<|λD8=>?_
    ·
     refine lN ?_;have m:∃ c7,d0=c7+1:=⟨d0 - 1,by have:=D6;omega⟩;obtain⟨c7,rfl⟩:=m;have m:∃ x,a4.ks=[x]:=ib.1 dB;obtain⟨x,d4⟩:=m;have m:=d7.step d4;obtain⟨D9,E0,⟨O0,E1⟩,t1⟩:=m;obtain⟨z7,t2⟩:=d7.ok;have o9:=d7.ti.kid (x:=x) (by rw[d4];simp);have E2:a4.ks[0]?=some x:=by rw[d4];rfl
     have t3:=QJ E2;have m:=t0.at_ 0 _ t3;obtain⟨O1,O2,E3,_,_,_⟩:=m;have E4:s9[3]?=some (VB (x.2.n:Int)):=YI E3;have E5:a4.ks.length=1:=by rw[d4];rfl
     rw[D5,E5]at l0;have m:=l0.some dB;obtain⟨E6,op,rfl,O3⟩:=m;have d6:=λw' L' (E:Two (GZ q N (nQ H2) V k) Y lo L' w') (u:row w' tb [VA q,VA hb] 50) (D:qC w' s8 (oQ (nX (c7+1) a4) (some ⟨E6,op,none⟩) c2) (nX (c7+1) a4))=>Uy tb hb E u D t3 (x2:=nX c7 x.2) o9.page.1 rfl o9.page.2 (o9.zZ t1.sd) rfl
     have E7:=λw' L' (E:Two (GZ q N (nQ H2) V k) Y lo L' w') (u:row w' hb [VA q] 201) (D:hb<lo\/hb∈L')=>(Na hb E t2 u D).to λv e9 h=>(show v=VB (a4.n:Int)/\Two (GZ q N (nQ H2) V k) Y lo L' e9/\nC lo L' w' e9 from by rw[d7.rt]at h;exact h)
     have o2:=λw' L' (E:Two (GZ q N (nQ H2) V k) Y lo L' w') (u:row w' hb [VA q] 201) (D:hb<lo\/hb∈L')=>(Jn hb (a4.n:Int) E t2 u D).to λv e9 h=>(show v=VB 0/\Two (GZ q N (nQ (wZ H2 a4.n)) V k) Y lo L' e9/\nC lo L' w' e9 from by
       obtain⟨E,u,D⟩:=h;rw[D9]at E u;rcases u with⟨_,b3⟩|⟨b3,_⟩
       · exact⟨E,b3,D⟩
       · exact absurd rfl b3)
     have E8:=λw' L' (E:Two (GZ q N (nQ (wZ H2 a4.n)) V k) Y lo L' w') (u:row w' hb [VA q] 201) (D:hb<lo\/hb∈L')=>(UF hb (x.2.n:Int) E E1 u D).to λv e9 h=>(show v=VB 0/\Two (GZ q N (nQ (zQ (wZ H2 a4.n) x.2.n)) V k) Y lo L' e9/\nC lo L' w' e9 from by
       obtain⟨E,u,D⟩:=h;rw[E0]at E u;rcases u with⟨_,b3⟩|⟨b3,_⟩
       · exact⟨E,b3,D⟩
       · exact absurd rfl b3)
     have E9:=hR.ll p;have F2:=hrt.kl p (.inr hgt);refine nO<|mZ (nG 2)<|mZ (nH G)<|mZ (qZ (e:=90) (sz:=4) dA rfl rfl (0) dB dB)<|mZ (nG 3)<|mZ (oK rfl (Ld.sl1 (off:=op) (j:=3) l0 dA E4))<|oG<|mZ (nH F2)<|mZ (pz 3 G) ?_
     obtain⟨W8,F3⟩:=aa (w2);refine nP (d6 w2 _ Q E9.r k8) ?_;rintro _ O4 ⟨s2,d1,rfl,l1,t4,F4,t5⟩;replace p:=p.ll t5 a0;replace G:=G.kl t5 (.inr o8);rw[F3]at t4 s7;have F5:=l1;obtain⟨g4,i7,_,F6,_,_,_,_⟩:=F5;subst F6;have O5:=vQ (nX c7 x.2) g4 i7;have F7:=wV (nX c7 x.2) g4 i7;have F8:c4∈d1++e8:=aB _ o8;have b0:=(hR.ll p).mono (L':=d1++e8) λb hb=>aB _ (a0 b hb)
     have a2:=hrt.kl p (.inr hgt);have a3:=b0.r;have X:=b0.rh;have o3:gt∈d1++e8:=aB _ (a0 _ hgt);have J:=wB (wB (wB (wB F4 (.inr F8) G.lt) (g:=gt) (.inr (aj _ o3)) a2.lt) (g:=hb) (b0.hb.imp id λI=>aj _ (aj _ I)) X.lt) (g:=tb) (b0.tb.imp id λI=>aj _ (aj _ (aj _ I))) a3.lt;have b5:∀ b∈d1++e8,b∈tb::hb::gt::c4::(d1++e8):=λb hb=>aj _ (aj _ (aj _ (aj _ hb)))
     refine nT<|oC 3 (oQ (nX c7 x.2) g4 i7) G<|λF9 G p0=>?_
     replace p:=p.oq p0;replace J:=J.only p0 eG;have j8:=Kp.rJ p0;have G0:∀ b∈d1,b≠c4:=λb hb e=>by
       have E:=t4 b hb;omega
     have l1:=l1.nD j8 λb hb I=>G0 b hb (by simpa using I)
     replace b0:=(hR.ll p).mono (L':=d1++e8) λb hb=>aB _ (a0 b hb)
     replace a2:=hrt.kl p (.inr hgt);replace a3:=b0.r;replace X:=b0.rh;have S:=nC.refl lo (tb::hb::gt::c4::(d1++e8)) F9;refine nk<|nI<|vX (lo) ((tb::hb::gt::c4::(d1++e8))) dA ?_
     intro G1 g0 t6 G2;replace p:=p.new g0;replace G:=G.new g0;replace J:=J.new g0;replace a2:=a2.new g0;replace a3:=a3.new g0;replace X:=X.new g0;replace S:=S.new g0;have O6:=p;have O7:=G;have O8:=J;have t7:=a2;have t8:=a3;have O9:=X;have P0:=S;refine nR 0 (λw' Z=>nH (t7.kL Z))<|nu 1 (oo rfl)<|nu 2 (nG 1)<|nR 3 (λw' Z=>nH (t8.kL Z))<|nR 4 (λw' Z=>nH (t7.kL Z))<|nu 5 (oo rfl)<|nu 6 (nG 1)<|nR 7 (λw' Z=>nH (t8.kL Z))<|oh 8 dA<|qw rfl rfl (oz dA rfl) (E7 G1 _ J X (.inr ig)) ?_
     rintro _ G3 ⟨rfl,J,g1⟩;replace p:=p.ll g1 (λb hb=>b5 b (aB _ (a0 b hb)));replace S:=S.ll g1 (λb hb=>hb);have t9:=G2.vv t6 g1.wk;refine⟨t9,?_⟩;replace G:=G.kl g1;replace a2:=a2.nD g1.kp eu;replace a3:=a3.kl g1;replace X:=X.nD g1.kp eu;refine oh 9 dA<|qw rfl rfl (oz dA rfl) (o2 G3 _ J X (.inr ig)) ?_;rintro _ G4 ⟨rfl,J,g2⟩;replace p:=p.ll g2 (λb hb=>b5 b (aB _ (a0 b hb)));replace S:=S.ll g2 (λb hb=>hb);have G5:=t9.vv t6 g2.wk;refine⟨G5,?_⟩;replace G:=G.kl g2;replace a2:=a2.nD g2.kp eu;replace a3:=a3.kl g2;replace X:=X.nD g2.kp eu;refine zh 10 dA rfl (λ_=>oz dA rfl) (λw' Z=>KA w')<|pq dA<|nJ<|nO<|mZ (nH a2)<|mZ (oo rfl)<|mZ (nG 1)<|mZ (nH a3)<|ng<|qA rfl (oz dA rfl) (E8 G4 _ J X (.inr ig)) ?_;rintro _ G6 ⟨rfl,J,p1⟩;replace p:=p.ll p1 (λb hb=>b5 b (aB _ (a0 b hb)));replace S:=S.ll p1 (λb hb=>hb);replace G:=G.kl p1;refine nP (KA G6) ?_;rintro _ _ ⟨rfl,rfl⟩;refine oI<|pO<|nJ<|ny<|mZ (oK rfl (Ld.qI G dA dA F7))<|nk<|nO ?_;have G7:=J.lt;have P1:=p.size;have P2:=S.size;refine nK<|oD ([VB 0,VB 0,VC]) dA<|λc4 C9 f8 G f9=>?_
     have s6:=p.size;have s6:=S.size;replace J:=J.nL f9 f8 G.lt;replace p:=p.new f9;replace S:=S.new f9;refine nT<|oC 3 (oQ (nX c7 x.2) g4 i7) G<|λP3 G p2=>?_
     replace J:=J.only p2 eG;replace p:=p.oq p2;replace S:=S.only p2 jo;refine oI ?_;have G8:∀ b∈d1,b≠c4:=λb hb e=>by
       have y:=G7 b (b5 b (aF _ hb));have a6:=f8;omega
     refine oM ⟨⟨c7,x.2,zQ (wZ H2 a4.n) x.2.n,oQ (nX c7 x.2) g4 i7,d1,_,c4⟩,il c7,VF,by dsimp only;omega,t1,⟨by dsimp only;omega,G,l1.ll S (λb hb=>.inr (b5 b (aF _ hb))),λb hb=>⟨aj _ (b5 b (aF _ hb)),G8 b hb⟩,aK ..,λb hb=>aj _ (b5 b (aB _ (a0 b hb)))⟩,J,p⟩
    ·
     refine qL<|qK<|rq<|qO<|FQ [] trivial ?_
     have m:=d7.fin (.inr dB);obtain⟨p3,p4⟩:=m;exact⟨⟨m1,m2⟩,⟨H2,p3,d0,a4,p4,⟨d7.rw_,o7⟩,Q.weak a0⟩,p⟩
   ·
    refine nN<|nN<|nN<|nN<|mZ (oP rfl)<|nk<|ui rfl (rfl)<|qL<|qK<|rq<|qO<|FQ [] trivial ?_
    have m:=d7.fin (.inl dB);obtain⟨p3,p4⟩:=m;exact⟨⟨m1,m2⟩,⟨H2,p3,d0,a4,p4,⟨d7.rw_,o7⟩,Q.weak a0⟩,p⟩
end
section
variable {Y:VE}[hYT:nz Y]{q tb hb N lo:Nat}{L:List Nat}{V:Nat->Pg}{k:Nat}{H:HS}{fl rl:List Nat}{R:Nat->Nat->Prop}{P:Nat->Nat->List Nat}{B:Nat->Nat->List UInt8}{A:List (Nat × Nat)}{l:Nat}{t:Tr l}{w:World}
theorem Js(h:Two (GZ q N (nQ H) V k) Y lo L w)(hR:TR q tb hb N lo L H fl l t w)(hS:TS N H fl rl R P B A l t){pk:Option Addr}{ck:Nat}{key:Key}(hkey:nM w pk key.length 1 (bv key))(hkL:1<=key.length->∀ g o,pk=some ⟨g,o,none⟩->g<lo\/g∈L):
  CQ 13 [VA tb, .slice pk key.length ck] w (λv w'=>((∃ (u:Nat × Nat) (H':HS) (fl':List Nat) (l':Nat) (t':Tr l'),v=VB 0/\qR key/\(key,u)∈oO l t/\TS N H' fl' rl R P B A l' t'/\TL l t key l' t'/\Two (GZ q N (nQ H') V k) Y lo L w')\/
   (∃ e:Int,v=VB e/\(e=2/\¬qR key\/e=6/\qR key/\∀ u,(key,u)∉oO l t)/\Two (GZ q N (nQ H) V k) Y lo L w'))/\nC lo L w w'):=by
 have r:=nC.refl lo L w;have z:=h;have b3:=h.lt;have b4:=h.lo;have a2:∀ (W:World) (L2:List Nat) (m y:Nat),Two (GZ q N (nQ H) V k) Y lo L2 W->(∀ b∈L,b∈L2)->m∈L2->y∈L2->nC lo L w W->row W m [VA tb] 37->row W y [.slice pk key.length ck] 23->
   Calls Tryz.prog 35 [VA tb, .slice pk key.length ck, .bool false, .func (.func 42) #[] [VA m,VA y].toArray].toArray W
   (qb λv w'=>((∃ (u:Nat × Nat) (H':HS) (fl':List Nat) (l':Nat) (t':Tr l'),v=VB 0/\qR key/\(key,u)∈oO l t/\TS N H' fl' rl R P B A l' t'/\TL l t key l' t'/\Two (GZ q N (nQ H') V k) Y lo L2 w')\/
    (∃ e:Int,v=VB e/\(e=2/\¬qR key\/e=6/\qR key/\∀ u,(key,u)∉oO l t)/\Two (GZ q N (nQ H) V k) Y lo L2 w'))/\nC lo L2 W w'):=λW L2 m y f K F X Z C a3=>by
  have M:=(hR.ll Z).mono K
  by_cases s:1<=key.length/\key.length<=100
  .replace hkL:=hkL s.1
   have O:qR key:=⟨λe=>by rw[e]at s;exact absurd s.1 iT,s.2⟩;refine(TJ tb hb f M.r (kp:=pk) (kc:=ck) s 42 [VA m,VA y] dA
    (λG' Y'=>∃ (u:Nat × Nat) (H':HS) (fl':List Nat) (l':Nat) (t':Tr l'),G'=nQ H'/\Y'=Y/\(key,u)∈oO l t/\TS N H' fl' rl R P B A l' t'/\TL l t key l' t') (λe G' Y'=>e=6/\G'=nQ H/\Y'=Y/\∀ u,(key,u)∉oO l t) (λG' Y' ⟨_,_,_,_,_,_,Q,_⟩=>by subst Q;exact hYT) (λe G' Y' ⟨_,_,Q,_⟩=>by subst Q;exact hYT) λL' w' G I a4=>?_).to λv w' h=>?_
   .have a5:=(M.ll I).mono G
    have a6:=(hkey.rQ Z hkL).rQ I λg o e=>(hkL g o e).imp id (K g)
    exact(Nt m y a4 a5 hS (C.kl I (.inr F)) (G _ F) (ck:=ck) (a3.kl I (.inr X)) (G _ X) a6 (λg o e=>(hkL g o e).imp id λa7=>G g (K g a7)) O).BJ (λv w2 ⟨⟨u,S⟩,⟨H',fl',l',t',i,f,j⟩,p⟩=>⟨_,_,⟨u,H',fl',l',t',rfl,rfl,S,i,f⟩,j,p⟩) λc w2 ⟨i,f,j,p⟩=>⟨6,_,_,⟨rfl,rfl,rfl,i⟩,f,j,p⟩
   .rcases h with⟨G',Y',⟨u,H',fl',l',t',rfl,rfl,S,i,f⟩,j,p,D⟩|⟨e,G',Y',⟨rfl,rfl,rfl,i⟩,j,p,D⟩
    .exact⟨.inl ⟨u,H',fl',l',t',j,O,S,i,f,p⟩,D⟩
    .exact⟨.inr ⟨6,j, .inr ⟨rfl,O,i⟩,p⟩,D⟩
  .have a8:¬qR key:=λa0=>s ⟨by
    cases key with
    |nil=>exact absurd rfl a0.1
    |cons a b=>simp,a0.2⟩
   exact(v_ tb hb f M.r (kp:=pk) (kc:=ck) s _).to λv w' ⟨i,f,j⟩=>⟨.inr ⟨2,i, .inl ⟨rfl,a8⟩,f⟩,j⟩
 refine nZ (rs:=[.tmp 4]) (n:=9) Tryz.func13 rfl rfl Tryz.ntmps13 dA rfl<|ny<|nK<|qi ([_]) rfl<|λT w2 a9 E a1=>?_
 replace z:=z.nL a1 a9 E.lt;replace r:=r.new a1;refine nK<|qi ([_]) rfl<|λm b0 F C U=>?_
 replace z:=z.nL U F C.lt;replace r:=r.new U;replace E:=E.new U;refine oG<|mZ (nH E)<|mZ (nH C)<|mZ (uV) ?_
 have J:∀ b∈L,b∈m::T::L:=λb hb=>by simp[hb]
 refine qA rfl (oz dA rfl) (a2 b0 (m::T::L) T m z J ig ig r E C) ?_;rintro _ b5 ⟨b1,b2⟩;replace r:=r.ll b2 J;refine nA<|nk<|nY<|ou [_] ⟨rfl,trivial⟩<|⟨?_,r⟩
 rcases b1 with⟨u,H',fl',l',t',rfl,i,f,j,p,D⟩|⟨e,rfl,i,f⟩
 .exact .inl ⟨u,H',fl',l',t',rfl,i,f,j,p,D.weak J⟩
 .exact .inr ⟨e,rfl,i,f.weak J⟩
end
theorem YZ{α:Type}:∀ {ks:List (Key × α)} {lo hi:Key},(vo ks lo hi).length=ks.length
 |[],_,_=>rfl
 |[x],_,_=>rfl
 |x::y::r,lo,hi=>by rw[vo,aD,YZ (ks:=y::r)];rfl
def Bj{α:Type}(ks:List (Key × α))(i:Nat)(hi:Key):Key:=match ks[i+1]? with|some y=>y.1|none=>hi
theorem YR{α:Type}:∀ {ks:List (Key × α)} {lo hi:Key} {i:Nat} {x:Key × α},ks[i]?=some x->(vo ks lo hi)[i]?=some (x.2,(if i=0 then lo else x.1),Bj ks i hi)
 |[],_,_,_,_,h=>by cases h
 |[y],lo,hi,0,x,h=>by cases h;rfl
 |[y],lo,hi,i+1,x,h=>by cases h
 |y::z::r,lo,hi,0,x,h=>by cases h;rfl
 |y::z::r,lo,hi,i+1,x,h=>by
  have a:(z::r)[i]?=some x:=h;rw[vo,gI,YR a,if_neg (jK i)];have e:Bj (y::z::r) (i+1) hi=Bj (z::r) i hi:=rfl;rw[e]
  by_cases c:i=0
  .subst c
   cases a;rw[if_pos rfl]
  .rw[if_neg c]
theorem IK{vs:List Value}{i:Nat}{q:Option Addr}{qc:Nat}{c:Key × V3}(h:(vs.drop (i*4)).take 4=pV q qc c):vs[i*4]?=some (.slice q c.1.length qc):=by
 have a:=congrArg (λl:List Value=>l[0]?) h;rw[jO dB,bC]at a;exact a
theorem RP(dec:tZ->Bool):∀ (l:Nat) (t:Tr l) (a b:Key),(tq dec l t a b).length<=(om l t).length
 |0,_,_,_=>ax _
 |l+1,t,a,b=>by
  have c:((vo t.ks a b).flatMap λx=>tq dec l x.1 x.2.1 x.2.2).length<=((vo t.ks a b).flatMap λx=>om l x.1).length:=by
   generalize vo t.ks a b=e
   induction e with
   |nil=>exact ax _
   |cons x r ih=>
    rw[bP,bP,aA,aA];have:=RP dec l x.1 x.2.1 x.2.2;omega
  have f:((vo t.ks a b).flatMap λx=>om l x.1)=t.ks.flatMap λx=>om l x.2:=SX (α:=Val (l+1)) (λv=>om l v) t.ks a b
  rw[f]at c;rw[tq,zq,aD,aD]
  split
  .exact Nat.succ_le_succ c
  .simp
def zi(S:List Nat):Nat->Option Value:=λn=>if n∈S then some (.agg #[.bool true])else none
theorem Gu{S:List Nat}{n:Nat}(h:n∉S):zi S n=none:=if_neg h
theorem zvw{S:List Nat}{n:Nat}:vY (zi S) n (some (.agg #[.bool true]))=zi (n::S):=by
 funext i
 unfold vY zi
 by_cases a:i=n
 .rw[if_pos a,if_pos (by rw[a];exact aK ..)]
 .rw[if_neg a]
  simp[a]
section
variable (Yv:List tZ->VE)(q N lo:Nat)(H:HS)(V:Nat->Pg)(k:Nat)(dec:tZ->Bool)(Q:tZ->Prop)(kf:Nat)(caps:List Value)(L0:List Nat)(w0:World)
def yL:Prop:=∀ (vs:List tZ) (v:tZ) (bl M L':List Nat) (xs:List Value) (a:Option Addr) (c1:Nat) (c:Option Addr) (c2:Nat) (W:World),vs.length<=2048->(∀ b∈L0,b∈L')->nC lo L0 w0 W->Q v->qC W bl xs v.1->(∀ b∈bl,b∈M++L')->(v.1.lv=0->∀ b∈bl,b∈M)->(∀ b∈M,lo<=b/\b∉L')->
 nM W a v.2.1.length 1 (bv v.2.1)->(∀ g o,a=some ⟨g,o,none⟩->g<lo\/g∈L')->nM W c v.2.2.length 1 (bv v.2.2)->(∀ g o,c=some ⟨g,o,none⟩->g<lo\/g∈L')->Two (GZ q N (nQ H) V k) (Yv vs) lo (M++L') W->
 Calls Tryz.prog kf ([Value.agg xs.toArray, .slice a v.2.1.length c1, .slice c v.2.2.length c2]++caps).toArray W (qb λr w2=>r= .bool (dec v)/\Two (GZ q N (nQ H) V k) (Yv (vs++[v])) lo L' w2/\nC lo L' W w2)
def VI(gs gm gd gn gt l:Nat):Prop:=∀ (t:Tr l) (a b:Key) (vs:List tZ) (S L bl:List Nat) (xs:List Value) (c:Option Addr) (c1:Nat) (e:Option Addr) (c2:Nat) (w:World),vs.length+(tq dec l t a b).length<=2048->(∀ b∈L0,b∈L)->nC lo L0 w0 w->yh N H l t->qJ l t a b->(∀ n∈om l t,n∉S)->(om l t).Nodup->(∀ v∈tq dec l t a b,Q v)->qC w bl xs (nX l t)->
 nM w c a.length 1 (bv a)->(∀ g o,c=some ⟨g,o,none⟩->g<lo\/g∈L)->nM w e b.length 1 (bv b)->(∀ g o,e=some ⟨g,o,none⟩->g<lo\/g∈L)->Two (GZ q N (nQ H) V k) (Yv vs) lo (bl++gm::L) w->MapAt Tryz.prog 3 w gm N (zi S)->gm∉bl++L->(∀ b∈bl,lo<=b/\b∉L)->
 Calls Tryz.prog 103 [.agg xs.toArray, .slice c a.length c1, .slice e b.length c2,VA gs,VA gd,VA gn,VA gt].toArray w
  (qb λr w'=>r= .tuple #[]/\∃ S',Two (GZ q N (nQ H) V k) (Yv (vs++tq dec l t a b)) lo (gm::L) w'/\MapAt Tryz.prog 3 w' gm N (zi S')/\(∀ n∈S',n∈S\/n∈om l t)/\nC lo L w w')
end
section
variable {Yv:List tZ->VE}[hYT:∀ vs,nz (Yv vs)]{q tb hb N lo:Nat}{H:HS}{V:Nat->Pg}{k:Nat}{dec:tZ->Bool}{Q:tZ->Prop}{kf:Nat}{caps:List Value}{L0:List Nat}{w0:World}
theorem W_ {gs gm gd gn gt l:Nat} (ih:∀ l3,l=l3+1->VI Yv q N lo H V k dec Q L0 w0 gs gm gd gn gt l3) (hdo:yL Yv q N lo H V k dec Q kf caps L0 w0) (hcan:vC Tryz.prog kf=true) (hgm:lo<=gm)
   (hrs0:row w0 gs [.map (some gm)] 169) (hgs:gs∈L0) (hrd0:row w0 gd [.func (.func kf) #[] caps.toArray] 91) (hgd:gd∈L0)
   (hrn0:row w0 gn [.func (.func 103) #[] [VA gs,VA gd,VA gn,VA gt].toArray] 170) (hgn:gn∈L0)
   (hrt0:row w0 gt [VA tb] 37) (hgt:gt∈L0) (hrb0:row w0 tb [VA q,VA hb] 50) (htb:tb<lo\/tb∈L0):VI Yv q N lo H V k dec Q L0 w0 gs gm gd gn gt l:=by
 intro t a b vs S L bl xs X c1 T c2 w j8 P a2 b6 g2 g3 j9 g4 b7 g5 b8 g6 b9 c f g7 k0;have z:=nC.refl lo (bl++L) w;have t0:=c.lo;have g8:∀ b∈L0,b∈bl++L:=λb hb=>aB _ (P b hb)
 have r:Two (GZ q N (nQ H) V k) (Yv vs) lo (gm::(bl++L)) w:=c.weak λb hb=>by
   simp only[ak,ay]at hb |-;rcases hb with c|c|c<;>simp[c]
 have k7:=r.lt;have k8:=f.lt;obtain⟨p,R,k9,rfl,g9,h0,h1,l0⟩:=b7;have b7:qC w bl (oQ (nX l t) p R) (nX l t):=⟨p,R,k9,rfl,g9,h0,h1,l0⟩;have t1:=vQ (nX l t) p R;have t2:=wV (nX l t) p R;have t3:=b6.page.1;have t4:=b6.n2;have t5:=(b6.zZ g2).few;have l1:vC Tryz.prog 103=true:=by kernel_rfl
 have l2:=Gu (g3 t.n vH);have c4:=hrs0.kl a2 (.inr hgs);have l4:Q (nX l t,a,b):=g4 _ (by cases l<;>exact aK ..);obtain⟨M,Z,l5,l6,l7,h2,c5,l8⟩:∃ M Z:List Nat,(∀ b∈bl,b∈M++Z)/\((nX l t).lv=0->∀ b∈bl,b∈M)/\(l≠0->∀ b∈bl,b∈Z)/\(∀ b∈Z,b∈bl)/\(∀ b∈M,b∈bl)/\∀ b∈M,b∉Z:=by
   by_cases h3:l=0
   · exact⟨bl,[],λb hb=>by simp[hb],λ_ b hb=>hb,λc=>absurd h3 c,(λb hb=>by cases hb),λb hb=>hb,λb hb m=>by cases m⟩
   · exact⟨[],bl,λb hb=>by simp[hb],λc=>absurd c h3,λ_ b hb=>hb,(λb hb=>hb),(λb hb=>by cases hb),λb hb=>by cases hb⟩
 refine nZ (rs:=[]) (n:=71) Tryz.func103 rfl rfl Tryz.ntmps103 dA rfl<|ny<|nK<|qi (oQ (nX l t) p R) rfl<|λh t6 c6 G c7=>?_
 have l9:gm<h:=ae f.lt c6;replace r:=r.nL c7 c6 G.lt;replace z:=z.new c7;replace f:=f.new c7;replace c4:=c4.new c7;refine nk<|nI<|ny<|mZ (nH c4)<|mZ (nG 0)<|mZ (nH G)<|mZ (NJ (k:=3) (e:=171) (.agg #[.bool false]) dA dA kG f rfl rfl (t.n) ky dB dB (show(zi S t.n).getD (.agg #[.bool false])= .agg #[.bool false] by rw[l2];rfl))<|mZ (Zx (off:=0) dA rfl rfl)<|nk<|ui rfl (rfl)<|nU<|nJ<|ny<|mZ (nH c4)<|mZ (nG 0)<|mZ (nH G)<|mZ (Ay (.bool true) [.bool true] rfl dA)<|nT<|Kt (k:=3) (e:=171) (.agg #[.bool true]) dA dA f rfl rfl rfl (t.n) ky dB dB<|λc8 f e2=>?_
 replace r:=r.only e2 eG;replace z:=z.oq e2;replace G:=G.only e2 (bu l9);rw[zvw]at f;have m0:=(hrd0.kl a2 (.inr hgd)).kl z (.inr (g8 _ hgd));refine nk<|nI<|ny<|mZ (nH m0)<|mZ (pz 3 G)<|ng<|ng ?_
 have m1:∀ b∈L0,b∈gm::h::(Z++L):=λb hb=>by simp[P b hb]
 have m2:=a2.ll z g8;have m3:=b7.ll z λb hb=>.inr (aF _ hb)
 have m4:nM c8 X a.length 1 (bv a):=g5.rQ z (λg o e=>(b8 g o e).imp id λc=>aB _ c);have m5:nM c8 T b.length 1 (bv b):=g6.rQ z (λg o e=>(b9 g o e).imp id λc=>aB _ c);have e3:Two (GZ q N (nQ H) V k) (Yv vs) lo (M++gm::h::(Z++L)) c8:=r.weak λb hb=>by
   simp only[ay,ak]at hb |-;rcases hb with c|c|c|c|c
   · simp[c5 b c]
   · simp[c]
   · simp[c]
   · simp[h2 b c]
   · simp[c]
 have m6:∀ b∈M,lo<=b/\b∉gm::h::(Z++L):=λb hb=>by
   have a7:=k0 b (c5 b hb);have e4:=k7 b (by simp[c5 b hb]);have h4:=c6;refine⟨a7.1,λm=>?_⟩;simp only[ak,ay]at m;rcases m with c|c|c|c
   · exact g7<|c▸aF _ (c5 b hb)
   · omega
   · exact l8 b hb c
   · exact a7.2 c
 have m7:=hdo vs (nX l t,a,b) bl M (gm::h::(Z++L)) _ X c1 T c2 c8 dB m1 m2 l4 m3 (λb hb=>by have:=l5 b hb;simp only[ay,ak]at this |-;rcases this with c|c<;>simp[c]) l6 m6 m4 (λg o e=>(b8 g o e).imp id λc=>by simp[c]) m5 (λg o e=>(b9 g o e).imp id λc=>by simp[c]) e3;have h5:∀ b∈Z++L,b∈bl++L:=λb hb=>(ay.1 hb).elim (λc=>aF _ (h2 b c)) λc=>aB _ c
 have m8:∀ b∈Z++L,b∈gm::h::(Z++L):=λb hb=>aj _ (aj _ hb)
 refine qA rfl (uH hcan rfl rfl) m7 ?_;rintro _ m9 ⟨rfl,r,e5⟩;replace z:=(z.weak (ax _) h5).ll e5 m8;replace f:=f.nD e5.kp (pG (.inr ig));replace G:=G.kl e5 (.inr ig);refine mZ (sj rfl)<|ng<|Ye 30 rfl (λe6=>?_)<|λe6=>?_
 ·
  refine nN<|nN<|nN<|mZ (pK rfl)<|nk<|vD rfl (rfl)<|nY<|qy<|ou [] trivial ?_
  have e7:dec (nX l t,a,b)=false:=by simpa using e6
  have Y:tq dec l t a b=[(nX l t,a,b)]:=by
    cases l with
    |zero=>rfl
    |succ l=>rw[tq,if_neg (by rw[e7];exact dX)]
  exact⟨rfl,t.n::S,by rw[Y];exact r.weak λb hb=>by simp only[ak,ay]at hb |-;rcases hb with c|c<;>simp[c],f,λn u=>(ak.1 u).elim (λe=>.inr (e▸vH)) .inl,z.weak (ax _) λb hb=>aB _ hb⟩
 ·
  have e7:dec (nX l t,a,b)=true:=by simpa using e6
  refine nE<|mZ (nG 1)<|nE<|mZ (nH G)<|nE<|mZ (qB rfl rfl)<|mZ (oP rfl)<|nk<|oZ rfl (λn0=>?_)<|λn0=>?_
  ·
   refine nY<|qy<|ou [] trivial ?_
   have Y:tq dec l t a b=[(nX l t,a,b)]:=by
     obtain rfl:l=0:=by have:(nX l t).lv=l:=rfl;omega
     rfl
   exact⟨rfl,t.n::S,by rw[Y];exact r.weak λb hb=>by simp only[ak,ay]at hb |-;rcases hb with c|c<;>simp[c],f,λn u=>(ak.1 u).elim (λe=>.inr (e▸vH)) .inl,z.weak (ax _) λb hb=>aB _ hb⟩
  ·
   have y:∃ l3,l=l3+1:=⟨l - 1,by have:(nX l t).lv=l:=rfl;omega⟩;obtain⟨l3,rfl⟩:=y;have n1:∀ b∈bl,b∈Z:=l7 dB;have y:∃ I:Val (l3+1) × Key × Key->List tZ,(λx=>tq dec l3 x.1 x.2.1 x.2.2)=I:=⟨_,rfl⟩;obtain⟨I,c9⟩:=y;have Y:tq dec (l3+1) t a b=(nX (l3+1) t,a,b)::(vo t.ks a b).flatMap I:=by rw[tq,if_pos e7,<-c9]
   have n2:=ih l3 rfl;have t7:(nX (l3+1) t).cs.length=t.ks.length:=aP _;have n3:(t.n::t.ks.flatMap λx=>om l3 x.2).Nodup:=j9;have y:=cB.1 n3;obtain⟨n4,h6⟩:=y;have n5:∀ n∈t.ks.flatMap (λx=>om l3 x.2),n∉S:=λn u=>g3 n (aj _ u)
   obtain⟨n6,h7⟩:=aa (m9);rw[h7]at r f z G;rw[h7];refine nU<|nJ<|ny<|mZ (nG 2)<|mZ (nH G)<|mZ (oV (e:=90) (sz:=4) dA rfl rfl)<|ng<|nk<|pE ?_;refine qY (α:=Nat × List Nat) (0,t.n::S) (λs=>[(38,VB (s.1:Nat)),(36, .slice p (nX (l3+1) t).cs.length R),(37,VB ((nX (l3+1) t).cs.length:Nat)),(7,VA h),(1, .slice X a.length c1),(2, .slice T b.length c2),(3,VA gs),(4,VA gd),(5,VA gn),(6,VA gt)])
     (λs w'=>s.1<=t.ks.length/\Two (GZ q N (nQ H) V k) (Yv (vs++[(nX (l3+1) t,a,b)]++((vo t.ks a b).take s.1).flatMap I)) lo (gm::h::(Z++L)) w'/\MapAt Tryz.prog 3 w' gm N (zi s.2)/\(∀ n∈s.2,n∈S\/n=t.n\/n∈(t.ks.take s.1).flatMap λx=>om l3 x.2)/\nC lo (h::(Z++L)) n6 w') (λs=>t.ks.length - s.1)
     VF ⟨aC _,by dsimp only;rw[dz,jN,aR];exact r,f,λn u=>(ak.1 u).elim (λe=>.inr (.inl e)) .inl,nC.refl _ _ _⟩ ?_
   clear r f;rintro⟨i,S1⟩ t8 w1 ⟨n7,r,f,d0,C⟩;dsimp only at n7 r f d0;have a8:nC lo (Z++L) w w1:=z.ll C λb hb=>aj _ hb
   have d1:nC lo L w w1:=a8.weak (ax _) λb hb=>aB _ hb
   have t9:=a2.ll d1 P;have K:=G.kl C (.inr (aK ..));have a3:∀ b∈bl,b<lo\/b∈Z++L:=λb hb=>.inr (aF _ (n1 b hb))
   have d2:gm∉h::(Z++L):=λm=>by
     rcases ak.1 m with c|c
     · have:=c6
       omega
     · exact g7<|h5 _ c
   have a0:=Below.refl w1.heap.size w1;have u0:=C.size;have h8:=g9.rQ a8 λg o e=>a3 g (h1 g o e)
   have h9:=h0.nD a8.kp λb hb=>pG (a3 b hb)
   have n8:=b7.ll a8 a3;have n9:=g5.rQ d1 b8;have o0:=g6.rQ d1 b9;have J:=nC.refl lo (h::(Z++L)) w1;refine ny<|mZ (pI rfl rfl)<|nk<|nI<|oZ rfl (λo1=>?_)<|λo1=>?_
   ·
    refine lN ?_;have y:∃ x,t.ks[i]?=some x:=⟨_,aG dB⟩;obtain⟨x,a1⟩:=y;have i0:=QJ a1;have y:=h9.ld h8 rfl i0;obtain⟨e8,op,a9,b0,o2,o3,o4⟩:=y;subst o2;have o5:=o3;obtain⟨_,_,o6,o7,o8,_⟩:=o5;have u1:=zt a9 b0 (x.1,v3 (l3+1) x.2);have u2:(pV a9 b0 (x.1,v3 (l3+1) x.2)).length=4:=rfl;have b1:=YR (lo:=a) (hi:=b) a1;have y:∃ d,(if i=0 then a else x.1)=d:=⟨_,rfl⟩;obtain⟨d,e9⟩:=y;obtain⟨D,f0⟩:=aa (Bj t.ks i b);rw[e9,f0]at b1;refine nO<|ng<|mZ (qZ (e:=90) (sz:=4) dA rfl rfl i (by rfl) dB)<|mZ (oK rfl (o4 _ a0))<|nK<|oD ([VC,VB 0,VB 0,VB 0]) dA<|λE u3 b2 d3 a4=>?_
    have o9:=ag a0.size b2;have p0:gm<E:=ae f.lt b2;have p1:h<E:=ae K.lt b2;replace r:=r.nL a4 b2 d3.lt;replace f:=f.new a4;replace K:=K.new a4;replace C:=C.new a4;replace J:=J.new a4;replace a0:=a0.acc a4;refine nA<|nT<|oC 4 (pV a9 b0 (x.1,v3 (l3+1) x.2)) d3<|λd4 d3 a5=>?_
    replace r:=r.only a5 eG;replace f:=f.only a5 (ai p0);replace K:=K.only a5 (ai p1);replace C:=C.only a5 jo;replace J:=J.only a5 jo;replace a0:=a5.below a0 o9;refine qx<|mZ (nG 0)<|mZ (nH d3)<|ng<|nA<|nA<|nk<|wO (λF:Option Addr × Nat=>[(12, .slice F.1 d.length F.2),(13, .slice T b.length c2),(10,VB (i:Nat)),(38,VB (i:Nat)),(36, .slice (some ⟨e8,op,none⟩) (nX (l3+1) t).cs.length R),(37,VB ((nX (l3+1) t).cs.length:Nat)),(7,VA h),(1, .slice X a.length c1),(2, .slice T b.length c2),(3,VA gs),(4,VA gd),(5,VA gn),(6,VA gt)]) (λF w'=>d4=w'/\nM w1 F.1 d.length 1 (bv d)/\∀ g o,F.1=some ⟨g,o,none⟩->g<lo\/g∈Z++L) ?_ ?_
    ·
     refine ny<|ng<|mZ (qB rfl rfl)<|nk<|oZ rfl (λp2=>?_)<|λp2=>?_
     ·
      refine nO<|ng<|nA<|oI ?_
      have b3:d=a:=by rw[<-e9,if_pos dB]
      refine oM ⟨(X,c1),⟨congrArg (λk:Key=>Value.slice X k.length c1) b3.symm,rfl,rfl,rfl,rfl,rfl,rfl,rfl,rfl,rfl,rfl,rfl,rfl,rfl⟩,rfl,by dsimp only;rw[b3];exact n9,λg o e=>(b8 g o e).imp id (aB _)⟩
     ·
      refine nU ?_;have b3:d=x.1:=by rw[<-e9,if_neg dB]
      cases o6;refine oM ⟨(a9,b0),⟨congrArg (λk:Key=>Value.slice a9 k.length b0) b3.symm,rfl,rfl,rfl,rfl,rfl,rfl,rfl,rfl,rfl,rfl,rfl,rfl,rfl⟩,rfl,by dsimp only;rw[b3];exact o7,λg o e=>a3 g (o8 g o e)⟩
    ·
     rintro⟨pd,i1⟩ u4 p3 ⟨rfl,i2,f1⟩;dsimp only at i2 f1;refine wO (λF:Option Addr × Nat=>[(13, .slice F.1 D.length F.2),(12, .slice pd d.length i1),(10,VB (i:Nat)),(38,VB (i:Nat)),(36, .slice (some ⟨e8,op,none⟩) (nX (l3+1) t).cs.length R),(37,VB ((nX (l3+1) t).cs.length:Nat)),(7,VA h),(1, .slice X a.length c1),(2, .slice T b.length c2),(3,VA gs),(4,VA gd),(5,VA gn),(6,VA gt)]) (λF w'=>d4=w'/\nM w1 F.1 D.length 1 (bv D)/\∀ g o,F.1=some ⟨g,o,none⟩->g<lo\/g∈Z++L) ?_ ?_
     ·
      refine ny<|ng<|mZ (oJ rfl rfl (Coup.nV dB))<|mZ (nG 2)<|mZ (nH K)<|mZ (oV (e:=90) (sz:=4) dA rfl rfl)<|mZ (pI rfl rfl)<|nk<|oZ rfl (λp4=>?_)<|λp4=>?_
      ·
       have y:∃ f2,t.ks[i+1]?=some f2:=⟨_,aG dB⟩;obtain⟨f2,i3⟩:=y;have y:=h9.at_ _ _ (QJ i3);obtain⟨i4,i5,p5,p6,p7,_⟩:=y;have p8:=IK p5;have b4:D=f2.1:=by
         rw[<-f0];unfold Bj;rw[i3]
       refine nO<|mZ (nG 2)<|mZ (nH K)<|ng<|mZ (oJ rfl rfl (Coup.nV dB))<|mZ (qZ (e:=90) (sz:=4) dA rfl rfl (i+1) (by rfl) dB)<|mZ (nG 0)<|mZ (oK rfl (Ld.sl1 (off:=op) (j:=(i+1)*4) (h8.new a0) dA p8))<|nA<|oI<|oM ⟨(i4,i5),⟨congrArg (λk:Key=>Value.slice i4 k.length i5) b4.symm,rfl,rfl,rfl,rfl,rfl,rfl,rfl,rfl,rfl,rfl,rfl,rfl,rfl⟩,rfl,by dsimp only;rw[b4];exact p6,λg o e=>a3 g (p7 g o e)⟩
      ·
       refine nU ?_;have b4:D=b:=by
         rw[<-f0];unfold Bj;rw[bK dB]
       refine oM ⟨(T,c2),⟨congrArg (λk:Key=>Value.slice T k.length c2) b4.symm,rfl,rfl,rfl,rfl,rfl,rfl,rfl,rfl,rfl,rfl,rfl,rfl,rfl⟩,rfl,by dsimp only;rw[b4];exact o0,λg o e=>(b9 g o e).imp id (aB _)⟩
     ·
      rintro⟨p9,q0⟩ u5 p3 ⟨rfl,i6,f3⟩;dsimp only at i6 f3;have d5:=b6.kid (aO a1);have y:∃ A B,t.ks=A++x::B:=dG (aO a1);obtain⟨u6,B9,u7⟩:=y;have q1:=Oi (aO b1);have i7:qJ l3 x.2 d D:=by
        obtain⟨A,F,B,f4,f5,f6,f7⟩:=q1;have O:=g2.2.2.2.2 A F B f4;rw[f5,<-f6,<-f7]at O;exact O
      have i8:∀ n∈om l3 x.2,n∈t.ks.flatMap λx=>om l3 x.2:=λn u=>bG.2 ⟨x,aO a1,u⟩
      have q2:t.ks=t.ks.take i++x::t.ks.drop (i+1):=by
        have O:=dm (l:=t.ks) (i:=i) dB;rw[show t.ks[i]=x from(aL.1 a1).2]at O;rw[<-O,bM]
      have i9:(om l3 x.2).Nodup/\∀ n∈om l3 x.2,n∉(t.ks.take i).flatMap λx=>om l3 x.2:=by
        rw[q2,bR,bP]at h6;have y:=bU.1 h6;obtain⟨_,q3,q4⟩:=y;exact⟨(bU.1 q3).1,λn u m=>q4 n m n (aF _ u) rfl⟩
      have q5:∀ n∈om l3 x.2,n∉S1:=λn u m=>by
        rcases d0 n m with c|c|c
        · exact n5 n (i8 n u) c
        · exact n4<|c▸i8 n u
        · exact i9.2 n u c
      have q6:∀ v∈tq dec l3 x.2 d D,Q v:=λv m=>g4 v (by
        rw[Y];refine aj _<|bG.2 ⟨_,aO b1,?_⟩
        rw[<-c9];exact m)
      have q7:(vs++[(nX (l3+1) t,a,b)]++((vo t.ks a b).take i).flatMap I).length+(tq dec l3 x.2 d D).length<=2048:=by
        have O:(((vo t.ks a b).take (i+1)).flatMap I).length<=((vo t.ks a b).flatMap I).length:=by
          conv=>rhs;rw[<-bM (i+1) (vo t.ks a b),bR,aA]
          omega
        rw[bf,b1,bR,aA]at O;have q8:(some (x.2,d,D)).toList.flatMap I=tq dec l3 x.2 d D:=by rw[<-c9];exact aR _
        rw[q8]at O;rw[Y,aD]at j8;simp only[aA,aD,aY];omega
      have j0:nC lo L w d4:=(z.ll C λb hb=>aj _ hb).weak (ax _) λb hb=>aB _ hb
      have f8:=a2.ll j0 P;have d6:=hrn0.kl f8 (.inr hgn);have d7:=hrt0.kl f8 (.inr hgt);have d8:=hrb0.kl f8 htb;have d9:∀ b∈L0,b∈h::(Z++L):=λb hb=>by simp[P b hb]
      have q9:=wB (wB (wB r (g:=tb) (htb.imp id λc=>by simp[P _ c]) d8.lt) (g:=gt) (.inr (by simp[P _ hgt])) d7.lt) (g:=gn) (.inr (by simp[P _ hgn])) d6.lt;have e0:Two (GZ q N (nQ H) V k) (Yv (vs++[(nX (l3+1) t,a,b)]++((vo t.ks a b).take i).flatMap I)) lo (gm::gn::gt::tb::E::h::(Z++L)) d4:=q9.weak λb hb=>by
        simp only[ak]at hb |-;rcases hb with c|c|c|c|c|c|c<;>simp[c]
      have e1:gm≠gn/\gm≠gt/\gm≠tb/\gm≠E:=⟨λe=>d2 (e▸d9 _ hgn),λe=>d2 (e▸d9 _ hgt),λe=>htb.elim (λc=>dB) λc=>d2 (e▸d9 _ c),λe=>by have:=k8;have:=j0.size;have:=b2;have:=a8.size;omega⟩;have r0:gm∉gn::gt::tb::E::h::(Z++L):=λm=>by
        rcases ak.1 m with c|m
        · exact e1.1 c
        rcases ak.1 m with c|m
        · exact e1.2.1 c
        rcases ak.1 m with c|m
        · exact e1.2.2.1 c
        rcases ak.1 m with c|m
        · exact e1.2.2.2 c
        exact d2 m
      have a6:∀ b∈h::(Z++L),b∈gn::gt::tb::E::h::(Z++L):=λb hb=>aj _ (aj _ (aj _ (aj _ hb)))
      have r1:=fun(w':World) (a7:Two (GZ q N (nQ H) V k) (Yv (vs++[(nX (l3+1) t,a,b)]++((vo t.ks a b).take i).flatMap I)) lo (gm::gn::gt::tb::E::h::(Z++L)) w') (e4:row w' tb [VA q,VA hb] 50) (h4:qC w' bl (oQ (nX (l3+1) t) (some ⟨e8,op,none⟩) R) (nX (l3+1) t)) (r2:MapAt Tryz.prog 3 w' gm N (zi S1))=>(Uy tb hb a7 e4 h4 i0 (x2:=nX l3 x.2) d5.page.1 rfl d5.page.2 (d5.zZ i7) rfl).to λv w2 ⟨xs,bl,f4,f5,f6,f7,j1⟩=>(show ∃ (xs:List Value) (bl:List Nat),v=Value.agg xs.toArray/\qC w2 bl xs (nX l3 x.2)/\(∀ b∈bl,w'.heap.size<=b)/\Two (GZ q N (nQ H) V k) (Yv (vs++[(nX (l3+1) t,a,b)]++((vo t.ks a b).take i).flatMap I)) lo (bl++gm::gn::gt::tb::E::h::(Z++L)) w2/\MapAt Tryz.prog 3 w2 gm N (zi S1)/\nC lo (gn::gt::tb::E::h::(Z++L)) w' w2 from⟨xs,bl,f4,f5,f6,f7,r2.nD j1.kp (pG (.inr (aK ..))),j1.weak (ax _) λb hb=>aj _ hb⟩)
      have r3:∀ b∈bl,b<lo\/b∈h::(Z++L):=λb hb=>(a3 b hb).imp id (aj _)
      refine vX lo ((gn::gt::tb::E::h::(Z++L))) dA ?_;intro j2 U j3 r4;replace f:=f.new U;replace K:=K.new U;replace C:=C.new U;replace J:=J.new U;replace e0:=e0.new U;replace d6:=d6.new U;replace d7:=d7.new U;replace d8:=d8.new U;have r5:=K;have r6:=d6;have r7:=d7;refine nR 0 (λw' b5=>nH (r6.kL b5))<|nR 1 (λw' b5=>nH (r7.kL b5))<|nR 2 (λw' b5=>pz 3 (r5.kL b5))<|nu 3 (nS)<|nu 5 (nS)<|nu 6 (nS)<|oh 4 dA ?_
      obtain⟨W8,r8⟩:=aa (j2);have r9:=f.lt;have j4:=e0.lt;refine qw rfl rfl (oz dA rfl) (r1 j2 e0 d8 (n8.ll J r3) f) ?_;rintro _ j5 ⟨s0,f9,rfl,s1,g0,s2,f,g1⟩;replace C:=C.ll g1 a6;replace J:=J.ll g1 a6;have j6:=r4.vv j3 g1.wk;refine⟨j6,?_⟩;refine oh 7 dA ?_;rw[r8]at g0 r9 j4;have s3:∀ b∈f9,lo<=b/\b∉gn::gt::tb::E::h::(Z++L):=λb hb=>by
        have a7:=g0 b hb;refine⟨dB,λm=>?_⟩;have e4:=j4 b (aj _ m);omega
      have s4:gm∉f9++gn::gt::tb::E::h::(Z++L):=λm=>by
        rcases ay.1 m with c|c
        · have:=g0 gm c
          omega
        · exact r0 c
      have s5:nC lo L w j5:=(z.ll C λb hb=>aj _ hb).weak (ax _) λb hb=>aB _ hb
      have s6:=n2 x.2 d D _ S1 (gn::gt::tb::E::h::(Z++L)) f9 s0 pd i1 p9 q0 j5 q7 (λb hb=>a6 b (d9 b hb)) (a2.ll s5 P) d5 i7 q5 i9.1 q6 s1 (i2.rQ J λg o e=>(f1 g o e).imp id (aj _)) (λg o e=>(f1 g o e).imp id λc=>a6 _ (aj _ c)) (i6.rQ J λg o e=>(f3 g o e).imp id (aj _)) (λg o e=>(f3 g o e).imp id λc=>a6 _ (aj _ c)) s2 f s4 s3;refine qw rfl rfl (uH l1 rfl rfl) (s6) ?_;rintro _ u9 ⟨rfl,S2,e3,f,s7,j7⟩;replace C:=C.ll j7 a6;have s8:=j6.vv j3 j7.wk;refine⟨s8,?_⟩;refine pq dA<|pO<|nJ<|nO<|mZ (oJ rfl rfl (Coup.nV dB))<|ng<|oI<|oM ⟨(i+1,S2),by dsimp only;omega,VF,by dsimp only;omega,?_,f,λn u=>?_,C⟩
      · dsimp only
        rw[bf,b1,bR,<-aH];have O:(some (x.2,d,D)).toList.flatMap I=tq dec l3 x.2 d D:=by rw[<-c9];exact aR _
        rw[O];exact e3.weak λb hb=>by
          simp only[ak]at hb |-;rcases hb with c|c|c<;>simp[c]
      · dsimp only
        rw[bf,a1,bR];rcases s7 n u with c|c
        · rcases d0 n c with c|c|c
          .exact .inl c
          .exact .inr<|.inl c
          .exact .inr<|.inr<|aF _ c
        · exact .inr<|.inr<|aB _ (by show n∈om l3 x.2++[];rw[aR];exact c)
   ·
    refine qL<|qK<|rq<|qO<|zS [] trivial ?_
    have s9:i=t.ks.length:=by omega
    refine⟨rfl,S1,?_,f,λn u=>?_,d1⟩
    · rw[aQ (by rw[YZ];omega),aH]at r
      rw[Y];exact r.weak λb hb=>by simp only[ak,ay]at hb |-;rcases hb with c|c<;>simp[c]
    · rcases d0 n u with c|c|c
      · exact .inl c
      · exact .inr<|c▸vH
      · rw[s9,dF]at c
        exact .inr<|aj _ c
end
end Go.Proofs.YtpaniebomegnbaaGreat
