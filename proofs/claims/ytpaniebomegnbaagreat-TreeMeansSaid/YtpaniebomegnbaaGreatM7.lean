import Derived.Test.YtpaniebomegnbaaGreatM6
import Derived.Lib.Bytealg
import Derived.Lib.Overlaps
import Derived.Lib.UnsafeStr
set_option maxHeartbeats 8000000
set_option maxRecDepth 20000
namespace Go.Proofs.YtpaniebomegnbaaGreat
open Go Go.RowKit Coup
theorem GZ.congr{q N:Nat}{G G' V:Nat->Pg}{k:Nat}{w:World}{B:List Nat}(h:GZ q N G V k w B)(he:∀ n,n<N->G n=G' n):GZ q N G' V k w B:=by
 obtain⟨P,a,e⟩:=h;exact⟨P,⟨a.i,a.n,λn c=>(a.g n c).trans (he n c),a.s,λn b c hb=>(he n c)▸a.c n b c hb⟩,e⟩
theorem UI{X X' Y:VE}{lo:Nat}{L:List Nat}{w:World}(h:Two X Y lo L w)(he:∀ B,X w B->X' w B):Two X' Y lo L w:=by
 obtain⟨⟨B,C,a,c,e,f⟩,g,i⟩:=h;exact⟨⟨B,C,he B a,c,e,f⟩,g,i⟩
section
variable {Y:VE}[hYT:nz Y]{q jb mw N lo:Nat}{L:List Nat}{G0 G V:Nat->Pg}{k:Nat}{F:sQ}{w:World}
theorem Pe(a b c:Value)(w:World):CallsDIn Fence.wide 8 Tryz.prog 191 [a,b,c].toArray .returning w (λen u' w'=>u'= .returning/\qb (λ_ w'=>VD w w') en w'):=by
 have a:=Below.refl w.heap.size w;refine G_ (rs:=[]) (n:=36) (x:=.nilIface) (u:=.returning) (u2:=.returning) Tryz.func191 rfl rfl Tryz.ntmps191 dA rfl rfl rfl (λe cs f=>.inr ⟨Cn e cs f,rfl,rfl⟩)<|ny<|ng<|mZ (zqV (z:=.agg #[VB 0]) dA rfl kG)<|ng<|mZ (nW rfl rfl)<|mZ (nW rfl rfl)<|nK<|oD ([VB 0]) dA<|λk l g c h=>?_
 have i:=ag a.size g;replace a:=a.acc h;refine nT<|oC 1 ([VB 0]) c<|λm c j=>?_
 replace a:=j.below a i;refine nA<|nk<|pE<|ny<|ng<|nA<|nk<|ui rfl (rfl)<|ny<|ng<|mZ (zuV dA rfl)<|nA<|nk<|ui rfl (rfl)<|nU<|pO<|Te [] trivial ?_
 exact a
theorem PS (e:Int) (ga gb ge:Nat) (v0:Value) (h:Two (JZ q jb mw N G0 G V k F) Y lo L w) (hx1:row w ga [VA jb] 126) (hx2:row w gb [VA q] 35) (hx3:row w ge [v0] 46)
   (ha:ga∈L) (hb:gb∈L) (he:ge∈L) (hab:ge≠ga/\ge≠gb) (hlo:lo<=ge) {L2:List Nat} (hL2:∀ b∈L2,b∈L) (h2:ge∉L2):
   CallsDIn Fence.wide 8 Tryz.prog 191 [VA ga,VA gb,VA ge].toArray (.panicking (pe (xN e))) w (λen u' w'=>u'= .panicking [{v:=xN e,recovered:=true}]/\qb (λ_ w'=>Two (GZ q N G0 V k) Y lo L w'/\row w' ge [VB e] 46/\nC lo L2 w w') en w'):=by
 have d5:=(DR h).1;obtain⟨c,h⟩:=uq h;have a:=nC.refl lo L2 w;have y:=h.vR;have z:=h.map;have R:=h.was;have d6:=h.ne;have X:=h.jl;have a4:=h.ml;have hp:=h.p;have d7:=(ER hp).2.2;have d8:jb∉L2:=λM=>X.2 (hL2 _ M)
 have d9:=hx1.lt;have e0:=hx2.lt;have e1:=hx3.lt;have e2:jb≠ge:=λe=>X.2 (e▸he)
 have e3:mw≠ge:=λe=>a4.2 (e▸he)
 have e4:=hp.lo;have e5:∀ b∈L,b<w.heap.size:=λb hb=>hp.lt b jX
 refine G_ (rs:=[]) (n:=36) (x:=xN e) (u:=.panicking (pe (xN e))) (u2:=.panicking [{v:=xN e,recovered:=true}]) Tryz.func191 rfl rfl Tryz.ntmps191 dA rfl rfl rfl (λa5 cs h=>.inl (Ep _ a5 cs h))<|ny<|ng<|mZ (zkT dA rfl)<|ng<|mZ (nW rfl rfl)<|mZ (nW rfl rfl)<|nK<|oD ([VB 0]) dA<|λg e6 A f o=>?_
 have a6:ga<g:=ae hx1.lt A;have a7:gb<g:=ae hx2.lt A;have a8:ge<g:=ae hx3.lt A;have a9:jb<g:=ae y.lt A;have b0:mw<g:=ae z.lt A;replace hp:=hp.nL o A f.lt;replace a:=a.new o;replace hx1:=hx1.new o;replace hx2:=hx2.new o;replace hx3:=hx3.new o;replace y:=y.new o;replace z:=z.new o;refine nT<|oC 1 ([VB e]) f<|λe7 f p=>?_
 replace hp:=hp.only p eG;replace a:=a.oq p;replace hx1:=hx1.only p (ai a6);replace hx2:=hx2.only p (ai a7);replace hx3:=hx3.only p (ai a8);replace y:=y.only p (ai a9);replace z:=z.only p (ai b0);refine nA<|nk<|pE<|ny<|ng<|nA<|nk<|vD rfl (rfl)<|nI<|ny<|mZ (nH hx1)<|mZ (oo rfl)<|mZ (nG 6)<|mZ (nH y) ?_
 have e8:=hx2.lt;have e9:=hx3.lt;have f0:=f.lt;have f1:=a.size;refine nK<|zsL (k:=3) (e:=121) dA dA z rfl<|λr b1 cnt b2 t F=>?_
 replace hp:=hp.nL F b2 t.lt;replace a:=a.new F;replace hx2:=hx2.new F;replace hx3:=hx3.new F;replace f:=f.new F;refine nk<|pE ?_
 have f2:=t.ne;have f3:=f.lt;obtain⟨L3,Z⟩:=aa (r::g::jb::mw::L);have b3:Two (GZ q N G V k) Y lo L3 b1:=by rw[<-Z];exact hp
 have b4:r∈L3/\g∈L3/\mw∈L3/\∀ b∈L,b∈L3:=by rw[<-Z];exact⟨ig,ig,ig,λb hb=>by simp[hb]⟩
 obtain⟨a0,f4,b5,H⟩:=b4;have b6:∀ b∈L2,b∈L3:=λb hb=>H b (hL2 b hb)
 have f5:=H _ ha;have f6:=H _ hb;have f7:=H _ he;refine qY (α:=Nat × (Nat->Pg) × (Nat->Bool)) (cnt,G,λi=>(rM c i).isSome) (λ_=>[(1,VA gb),(2,VA ge),(4,VA g),(20,VA r)])
   (λs w'=>zG Tryz.prog 3 w' mw r N (rM c) s.2.2 s.1/\(∀ n,n<N->s.2.2 n=false->s.2.1 n=G0 n)/\Two (GZ q N s.2.1 V k) Y lo L3 w'/\row w' gb [VA q] 35/\row w' ge [v0] 46/\row w' g [VB e] 207/\nC lo L2 w w') (λs=>s.1)
   VF ⟨t,λn C m=>?_,b3,hx2,hx3,f,a⟩ ?_
 · refine(R.no n C ?_)
   dsimp only at m;cases hc:c n with
   |none=>rfl
   |some x=>unfold rM at m;rw[hc]at m;cases m
 clear hx2 hx3 f a t;rintro⟨f8,a1,left⟩ f9 g0 ⟨t,S,hp,hx2,hx3,f,a⟩;dsimp only at t S hp |-;refine ny<|nK<|zuX dA t rfl (λb7=>?_)<|λi v g1 b8 b9 g2 I l c4 J c5=>?_
 ·
  refine mZ (nW rfl rfl)<|nk<|nI<|ui rfl (rfl)<|qL<|qK<|rq<|qO<|nJ ?_
  have T:=(UI hp λB c6=>GZ.congr c6 (G':=G0) λn C=>S n C (b7 n C));refine nO<|mZ (nG 0)<|mZ (nH f)<|nT<|pQ hx3<|λg3 hx3 a2=>?_
  replace a:=a.oq a2;replace T:=T.only a2 eG;refine oI<|pO<|Te [] trivial ?_
  exact⟨T.weak H,hx3,a⟩
 ·
  obtain⟨x,M,c7⟩:∃ x,c i=some x/\v= .agg (bv x).toArray:=by
    unfold rM at I;cases hc:c i with
    |none=>rw[hc]at I;cases I
    |some x=>rw[hc]at I;exact⟨x,rfl,(bQ I).symm⟩
  subst c7;have a3:=R.len i x M;have g4:(bv x).length=512:=by rw[oL];exact a3
  have c8:=(R.yes i x M).2;have c9:=λL' w' (d0:Two (GZ q N a1 V k) Y lo L' w')=>Dy d0 i b9 a3
  replace hp:=hp.only J (.inr a0);replace hx2:=hx2.only J (λe=>by have:=l.lt;omega);replace hx3:=hx3.only J dB;replace f:=f.only J dB;replace a:=a.only J kM;have g5:=l.lt;have g6:=l.map.lt;refine mZ (nW rfl rfl)<|nk<|nI<|vD rfl (rfl)<|nU<|nJ<|pE<|ny<|mZ (zuY rfl c5)<|mZ (nW rfl rfl)<|mZ (nW rfl rfl)<|nK<|oD (List.replicate 512 (Value.int .u8 0)) dA<|λU g7 O P D=>?_
  have d1:gb<U:=ae hx2.lt O;have d2:ge<U:=ae hx3.lt O;have d3:g<U:=ae f.lt O;replace hp:=hp.nL D O P.lt;replace a:=a.new D;replace hx2:=hx2.new D;replace hx3:=hx3.new D;replace f:=f.new D;replace l:=l.new D;refine nA<|nT<|oC 512 (bv x) P<|λd4 P E=>?_
  replace hp:=hp.only E eG;replace a:=a.oq E;replace hx2:=hx2.only E (ai d1);replace hx3:=hx3.only E (ai d2);replace f:=f.only E (ai d3);replace l:=l.only E dB;refine nk<|nO<|mZ (nH hx2)<|ng<|mZ (pz 512 P)<|nP (c9 _ d4 hp) ?_
  rintro _ g8 ⟨rfl,hp,K⟩;replace l:=l.nD K.kp ⟨pG (.inr (by simp[b5])),pG (.inr (by simp[a0]))⟩;replace a:=a.ll K (λb hb=>aj _ (b6 b hb));replace hx2:=hx2.kl K;replace hx3:=hx3.kl K;replace f:=f.kl K;refine oI<|pO<|oM ⟨(b8,um a1 i x,λj=>left j && !decide (j=i)),c4,VF,l,λn C m=>?_,hp.weak (λb hb=>by simp[hb]),hx2,hx3,f,a⟩;dsimp only at m |-;unfold um
  by_cases Q:n=i
  · rw[if_pos Q,Q,c8]
  · rw[if_neg Q]
    refine S n C ?_;rw[decide_eq_false Q]at m;simpa using m
end
theorem Xh{P:Program}{f:FuncId}{args:Array Value}{w:World}{A:Value->World->Prop}(h:Calls P f args w (ul A λ_ _=>False)):Calls P f args w (qb A):=
 h.mono λe w' h=>by
  cases e with
  |returned v=>exact⟨v,rfl,h⟩
  |panicked c=>exact h.elim
  |outgrown=>exact h.elim
structure HR(N:Nat)(G:Nat->Pg)(H:HS)(fl:List Nat):Prop where
 ok:rC N H fl
 g0:G 0=oW (yu H.F)
 s:∀ n,1<=n->n<H.F.fresh->G n=oW (H.S n)
 z:∀ n,H.F.fresh<=n->n<N->G n=uQ
theorem Gn(F:sQ):∀ v∈xc F,Value.oneCell' v=true:=λv a=>by
 simp only[xc,ak,bq,or_false]at a;rcases a with rfl|rfl|rfl|rfl|rfl<;>rfl
theorem IA.nil{N:Nat}{G:Nat->Pg}:IA N G G xJ:=⟨(λn x a=>nomatch a),λn _ _=>rfl,(λn x a=>nomatch a)⟩
def fi(F:sQ):List Int:=[(F.fresh:Int),(F.free:Int),(F.many:Int),(F.records:Int),(F.root:Int)]
theorem Le{F F':sQ}(h:fi F=fi F'):F=F':=by
 simp only[fi,je,and_true]at h;obtain⟨a,c,e,f,g⟩:=h;cases F;cases F';simp only[sQ.mk.injEq]at*;omega
section
variable {ρ:Env}{w:World}{rs:List ResultVar}{A:Value->World->Prop}{B:List PanicEntry->World->Prop}
theorem g_{a b c:Value}(hms:ρ.ms=[.fn 191 [a,b,c] []])(h:∀ w',VD w w'->∃ vs,xA Tryz.prog w' ρ rs vs/\A (pack vs) w'):MV Tryz.prog rs A B .ret ρ w:=by
 show Bc Tryz.prog rs A B ρ ρ.ms .returning w;rw[hms];refine⟨ig,dA,(Pe a b c w).mono ?_⟩;rintro e f w' ⟨rfl,v,rfl,hb⟩;exact h w' hb
theorem zuZ {Y:VE} [nz Y] {q jb mw N lo:Nat} {L:List Nat} {G0 G V:Nat->Pg} {k:Nat} {F:sQ} (e:Int) (ga gb ge:Nat) (v0:Value) (hms:ρ.ms=[.fn 191 [VA ga,VA gb,VA ge] []])
  (h:Two (JZ q jb mw N G0 G V k F) Y lo L w) (ra:row w ga [VA jb] 126) (rb:row w gb [VA q] 35) (re:row w ge [v0] 46)
  (ha:ga∈L) (hb:gb∈L) (he:ge∈L) (hab:ge≠ga/\ge≠gb) (hlo:lo<=ge) {L2:List Nat} (hL2:∀ b∈L2,b∈L) (h2:ge∉L2)
  (hA:∀ w',Two (GZ q N G0 V k) Y lo L w'->row w' ge [VB e] 46->nC lo L2 w w'->∃ vs,xA Tryz.prog w' ρ rs vs/\A (pack vs) w'):MV Tryz.prog rs A B (.panic (pe (xN e))) ρ w:=by
 show Bc Tryz.prog rs A B ρ ρ.ms (.panicking (pe (xN e))) w;rw[hms];refine⟨ig,dA,(PS e ga gb ge v0 h ra rb re ha hb he hab hlo hL2 h2).mono ?_⟩;rintro g i w' ⟨rfl,v,rfl,a,c,f⟩;exact hA w' a c f
end
section
variable {Y:VE}[hYT:nz Y]{q N lo:Nat}{L:List Nat}{G V:Nat->Pg}{k:Nat}{H:HS}{fl:List Nat}{w:World}
theorem Jb (h:Two (GZ q N G V k) Y lo L w) (hR:HR N G H fl) (kf:Nat) (caps:List Value) (hcan:vC Tryz.prog kf=true)
   (A:HS->List Nat->(VE)->Prop) (E:Int->(VE)->Prop) (hAT:∀ H' fl' Y',A H' fl' Y'->nz Y') (hET:∀ e Y',E e Y'->nz Y') (hAF:∀ H' fl' Y',A H' fl' Y'->H.F.fresh<=H'.F.fresh)
   (hdo:∀ jb mw L' w',(∀ b∈L,b∈L')->nC lo L w w'->JH q jb mw N G V k H fl Y lo L' w'->Calls Tryz.prog kf (VA jb::caps).toArray w'
     (ul (λ_ w2=>∃ H' fl' Y',A H' fl' Y'/\JH q jb mw N G V k H' fl' Y' lo L' w2/\nC lo L' w' w2) (λc w2=>∃ e Y',E e Y'/\c=pe (xN e)/\JF q jb mw N G V k Y' lo L' w2/\nC lo L' w' w2))):
   CQ 130 [VA q, .func (.func kf) #[] caps.toArray] w (λv w'=>(∃ H' fl' Y' G',A H' fl' Y'/\v=VB 0/\HR N G' H' fl'/\Two (GZ q N G' V k) Y' lo L w'/\nC lo L w w')\/
     (∃ e Y',E e Y'/\v=VB e/\Two (GZ q N G V k) Y' lo L w'/\nC lo L w w')):=by
 have h1:=ER h;have h2:=h1.1;have h3:=hR.ok.fst h2;have d3:=λL' w' (a9:Two (GZ q N G V k) Y lo L' w')=>LQ a9 0 dB
 have e5:=λL' w' (a9:Two (GZ q N G V k) Y lo L' w')=>JX a9
 have c7:=λw'=>zqX H.F N h3 w'
 have e6:=vk (Qo H.F);rw[hR.g0]at d3;obtain⟨Q,h4⟩:=aa (oW (yu H.F));simp only[h4]at d3 c7 e6;have l6:=Gn H.F;have l7:(xc H.F).length=5:=rfl;have d4:∀ b∈L,b<w.heap.size:=h.lt;have l8:=h.lo;have f:=nC.refl lo L w;refine Xh<|xg (rs:=[.cell 4 46]) (n:=48) Tryz.func130 rfl rfl Tryz.ntmps130 dA rfl<|ny<|nK<|qi ([_]) rfl<|λC w2 h5 i e7=>?_
 have l9:=f.size;replace h:=h.nL e7 h5 i.lt;replace f:=f.new e7;refine nK<|oD ([VB 0]) dA<|λy h6 e8 a d5=>?_
 have h7:C<y:=ae i.lt e8;replace h:=h.nL d5 e8 a.lt;replace f:=f.new d5;replace i:=i.new d5;refine qx<|mZ (nH i)<|nP (d3 _ h6 h) ?_
 rintro _ m0 ⟨rfl,h,d6⟩;replace f:=f.lq d6;replace i:=i.kl d6;replace a:=a.kl d6;refine ng<|mZ (nW rfl rfl)<|mZ (nW rfl rfl)<|nK<|oD (List.replicate 512 (Value.int .u8 0)) dA<|λO m1 d7 l c8=>?_
 have h8:C<O:=ae i.lt d7;have e9:y<O:=ae a.lt d7;replace h:=h.nL c8 d7 l.lt;replace f:=f.new c8;replace i:=i.new c8;replace a:=a.new c8;refine nT<|oC 512 (bv Q) l<|λm2 l c9=>?_
 replace h:=h.only c9 eG;replace f:=f.oq c9;replace i:=i.only c9 (ai h8);replace a:=a.only c9 (ai e9);refine nT<|pQ a<|λm3 a d0=>?_
 replace h:=h.only d0 eG;replace f:=f.oq d0;replace i:=i.only d0 (ai h7);replace l:=l.only d0 (bu e9);refine nk<|nI<|ny<|mZ (nH a)<|mZ (pJ rfl rfl)<|nk<|qg rfl (iT)<|nU<|nJ<|wO (α:=Nat) (λm=>[(1, .func (.func kf) #[] caps.toArray),(2,VA C),(4,VA y),(6,VA m),(7, .bool true)]) (λm w'=>row w' m (xc H.F) 128/\Two (GZ q N G V k) Y lo (m::O::y::C::L) w'/\row w' C [VA q] 35/\row w' y [VB 0] 46/\nC lo L w w'/\O<w'.heap.size) ?_ ?_
 ·
  refine qH [] dA ?_;intro h9 b0 d8;replace h:=h.new b0;replace f:=f.new b0;replace i:=i.new b0;replace a:=a.new b0;replace l:=l.new b0;have m4:=h;have m5:=f;have i0:=i;have m6:=a;have i1:=l;refine nR 0 (λw' D=>oK rfl (Ld.qI (k:=512) (i1.kq D) dA dA e6))<|nR 1 (λw' D=>nH (i0.kq D))<|zw 2 7 dA ?_ ?_
  ·
   refine qw rfl rfl (oz dA rfl) (e5 _ h9 h) ?_;rintro _ d9 ⟨rfl,z⟩;have d1:=d8.add0 z;refine⟨d1,?_⟩;replace h:=h.new z;replace f:=f.new z;replace i:=i.new z;replace a:=a.new z;replace l:=l.new z;refine zw 3 7 dA ?_ ?_
   ·
    refine qw rfl rfl (oz dA rfl) (c7 d9) ?_;rintro _ f0 ⟨rfl,p⟩;have e0:=d1.add0 p;refine⟨e0,?_⟩;replace h:=h.new p;replace f:=f.new p;replace i:=i.new p;replace a:=a.new p;replace l:=l.new p;refine nu 4 (nS)<|nu 5 (nW rfl rfl)<|nu 6 (nW rfl rfl)<|oh 7 dA<|rf rfl rfl<|oD ([VB 0,VB 0,VB 0,VB 0,VB 0]) dA<|λm b1 t j r=>?_
    have f1:=e0.add0 r;refine⟨f1,?_⟩;have m7:=ag e0.size t;have b2:C<m:=ae i.lt t;have b3:y<m:=ae a.lt t;have b4:O<m:=ae l.lt t;replace h:=h.nL r t j.lt;replace f:=f.new r;replace i:=i.new r;replace a:=a.new r;replace l:=l.new r;refine oh 8 dA<|rA rfl rfl<|oC 5 (xc H.F) j<|λm8 j a3=>?_
    have i2:=f1.aq a3;refine⟨i2,?_⟩;replace h:=h.only a3 eG;replace f:=f.oq a3;replace i:=i.only a3 (ai b2);replace a:=a.only a3 (ai b3);replace l:=l.only a3 (ai b4);refine nu 9 (rO)<|pq dA<|oM ⟨m,VF,j,h.weak (λb hb=>hb),i,a,f,l.lt⟩
   ·
    refine rf rfl rfl<|oD ([VB 0,VB 0,VB 0,VB 0,VB 0]) dA<|λm b1 t j r=>?_
    have f2:=d1.add0 r;refine⟨f2,?_⟩;have m9:=ag d1.size t;have b2:C<m:=ae i.lt t;have b3:y<m:=ae a.lt t;have b4:O<m:=ae l.lt t;replace h:=h.nL r t j.lt;replace f:=f.new r;replace i:=i.new r;replace a:=a.new r;replace l:=l.new r;refine oh 3 dA<|qw rfl rfl (oz dA rfl) (c7 b1) ?_
    rintro _ f0 ⟨rfl,p⟩;have f3:=f2.add0 p;refine⟨f3,?_⟩;replace h:=h.new p;replace f:=f.new p;replace i:=i.new p;replace a:=a.new p;replace l:=l.new p;replace j:=j.new p;refine nu 4 (nS)<|nu 5 (nW rfl rfl)<|nu 6 (nW rfl rfl)<|oh 8 dA<|rA rfl rfl<|oC 5 (xc H.F) j<|λn0 j a4=>?_
    have i3:=f3.aq a4;refine⟨i3,?_⟩;replace h:=h.only a4 eG;replace f:=f.oq a4;replace i:=i.only a4 (ai b2);replace a:=a.only a4 (ai b3);replace l:=l.only a4 (ai b4);refine nu 9 (rO)<|pq dA<|oM ⟨m,VF,j,h.weak (λb hb=>hb),i,a,f,l.lt⟩
  ·
   refine rf rfl rfl<|oD ([VB 0,VB 0,VB 0,VB 0,VB 0]) dA<|λm b1 t j r=>?_
   have f4:=d8.add0 r;refine⟨f4,?_⟩;have n1:=ag d8.size t;have b2:C<m:=ae i.lt t;have b3:y<m:=ae a.lt t;have b4:O<m:=ae l.lt t;replace h:=h.nL r t j.lt;replace f:=f.new r;replace i:=i.new r;replace a:=a.new r;replace l:=l.new r;refine oh 2 dA<|qw rfl rfl (oz dA rfl) (e5 _ b1 h) ?_
   rintro _ d9 ⟨rfl,z⟩;have f5:=f4.add0 z;refine⟨f5,?_⟩;replace h:=h.new z;replace f:=f.new z;replace i:=i.new z;replace a:=a.new z;replace l:=l.new z;replace j:=j.new z;refine oh 3 dA<|qw rfl rfl (oz dA rfl) (c7 d9) ?_;rintro _ f0 ⟨rfl,p⟩;have f6:=f5.add0 p;refine⟨f6,?_⟩;replace h:=h.new p;replace f:=f.new p;replace i:=i.new p;replace a:=a.new p;replace l:=l.new p;replace j:=j.new p;refine nu 4 (nS)<|nu 5 (nW rfl rfl)<|nu 6 (nW rfl rfl)<|oh 8 dA<|rA rfl rfl<|oC 5 (xc H.F) j<|λn2 j a5=>?_
   have i4:=f6.aq a5;refine⟨i4,?_⟩;replace h:=h.only a5 eG;replace f:=f.oq a5;replace i:=i.only a5 (ai b2);replace a:=a.only a5 (ai b3);replace l:=l.only a5 (ai b4);refine nu 9 (rO)<|pq dA<|oM ⟨m,VF,j,h.weak (λb hb=>hb),i,a,f,l.lt⟩
 ·
  rintro m n3 b1 ⟨j,h,i,a,f,n4⟩;have n5:=i.lt;have n6:=a.lt;have n7:=j.lt;refine nI<|ny<|ng<|mZ (sj rfl)<|nk<|EJ rfl (rfl)<|nU<|nJ<|ny<|mZ (oK rfl (Ld.qI (k:=5) j dA dA rfl))<|mZ (nH i)<|nK<|QA (k:=3) N<|λJ n8 i5 F b5=>?_
  replace h:=h.nL b5 i5 F.lt;replace f:=f.new b5;replace i:=i.new b5;replace a:=a.new b5;replace j:=j.new b5;refine mZ (Jg (.agg (xc H.F).toArray) (VA q) (.map (some J)) (jV H.F q J) rfl rfl rfl dA) ?_;have n9:=F.lt;refine nK<|qi (jV H.F q J) rfl<|λI i6 b6 K a6=>?_
  have o0:C<I:=ae i.lt b6;have o1:y<I:=ae a.lt b6;have o2:m<I:=ae j.lt b6;have o3:J<I:=ae F.lt b6;replace h:=h.nL a6 b6 K.lt;replace f:=f.new a6;replace i:=i.new a6;replace a:=a.new a6;replace j:=j.new a6;replace F:=F.new a6;replace K:row i6 I (jV H.F q J) 131:=K;have o4:=K.lt;refine nK<|oD ([Value.pointer none]) dA<|λP o5 a7 s U=>?_
  have i7:C<P:=ae i.lt a7;have i8:y<P:=ae a.lt a7;have i9:m<P:=ae j.lt a7;have j0:J<P:=ae F.lt a7;have j1:I<P:=ae K.lt a7;replace h:=h.nL U a7 s.lt;replace f:=f.new U;replace i:=i.new U;replace a:=a.new U;replace j:=j.new U;replace F:=F.new U;replace K:=K.new U;refine nT<|pQ s<|λf7 s X=>?_
  replace h:=h.only X eG;replace f:=f.oq X;replace i:=i.only X (ai i7);replace a:=a.only X (ai i8);replace j:=j.only X (ai i9);replace F:=F.only X (ai j0);replace K:=K.only X (ai j1);refine nk<|nI ?_
  have o6:=s.lt;have o7:=f.size;have e1:∃ R,(∀ b∈L,b∈R)/\P∈R/\m∈R/\y∈R/\C∈R/\JH q I J N G V k H fl Y lo R f7:=⟨P::m::O::y::C::L,λb hb=>by simp[hb],ig,ig,ig,ig,hR.ok,G,⟨hR.s,rfl,λ_ _=>rfl⟩,Tz (c:=xJ) (h.weak λb hb=>by
    simp only[ak]at hb |-;rcases hb with h|h|h|h|h|h|h|h<;>simp[h]) K F IA.nil dB ⟨dB,λE=>by
    simp only[ak]at E;rcases E with h|h|h|h|h|h
    · omega
    · omega
    · omega
    · omega
    · omega
    · have:=d4 _ h;omega⟩ ⟨dB,λE=>by
    simp only[ak]at E;rcases E with h|h|h|h|h|h
    · omega
    · omega
    · omega
    · omega
    · omega
    · have:=d4 _ h;omega⟩⟩
  obtain⟨R,S,f8,o8,f9,g0,e1⟩:=e1;have j2:y∉L:=λE=>by have:=d4 _ E;omega
  refine nO<|mZ (uV)<|WV (λ_ h=>h) rfl rfl<|qx<|ng<|mZ (nH s)<|wN rfl (uH hcan rfl rfl) (hdo I J _ f7 S f e1) ((λc w' ⟨e,b7,g1,j3,⟨G2,F2,u⟩,d2⟩=>by subst j3;haveI:=hET _ _ g1;exact zuZ e P C y _ rfl u (s.kl d2 (.inr f8)) (i.kl d2 (.inr g0)) (a.kl d2 (.inr f9)) f8 g0 f9 ⟨dB,dB⟩ dB S j2 (λo9 j4 j5 j6=>⟨[_],⟨⟨_,rfl,Ld.ru j5 dA rfl⟩,trivial⟩, .inr ⟨e,b7,g1,rfl,j4.weak S,(f.ll d2 S).ll j6 (λb hb=>hb)⟩⟩))) ?_
  rintro _ p0 ⟨H2,g2,b7,b8,j7,b9⟩
  haveI:=hAT _ _ _ b8
  replace f:=f.ll b9 S;replace i:=i.kl b9;replace a:=a.kl b9;replace j:=j.kl b9;replace s:=s.kl b9;refine nk<|nI<|nI ?_
  obtain⟨e2,G2,c4,u⟩:=j7;have c5:=uq u;obtain⟨c2,g3⟩:=c5;have M:=g3.row;have g4:∀ w',row w' I (jV H2.F q J) 131->Ld Tryz.prog w' 128 ⟨I,0,none⟩ (.agg (xc H2.F).toArray):=λw' hr=>Ld.za (k:=5) hr dA dA (by show 0+5<=7;omega)
  have j8:=λw'=>Xi H2.F w'
  have j9:=Aq (yu H2.F) (Qo H2.F).size;have k0:=λL' w' (a9:Two (JZ q I J N G G2 V k H2.F) b7 lo L' w')=>Ou a9 0 dB (oW (yu H2.F)) j9
  have p1:=g3.jl.1;refine qH [] dA ?_;intro p2 Z p3;replace f:=f.new Z;replace i:=i.new Z;replace a:=a.new Z;replace j:=j.new Z;replace s:=s.new Z;replace u:=u.new Z;replace M:=M.new Z;have p4:=f;have p5:=i;have p6:=a;have k7:=j;have k8:=s;have p7:=u;have k9:=M;refine nR 0 (λw' D=>nH (k8.kq D))<|nu 1 (oo rfl)<|nu 2 (nG 0)<|nR 3 (λw' D=>oK rfl (g4 _ (k9.nD D (by first |(simp;done)|(simp;omega)|(simp[*];done)|exact pG (Or.inl dB)|exact pG (Or.inr ig)|exact λg E=>ag dB (wh E).1|(intro b o e;cases e;exact pG (Or.inl dB))|(intro b E;have:=(hu.lt b (ah.1 E)).1;omega)|(intro b o e;cases e;intro E;have:=(hu.lt _ (ah.1 E)).1;omega)|assumption))))<|nR 4 (λw' D=>oK rfl (Ld.qI (k:=5) (k7.kq D) dA dA rfl))<|nu 5 (IB (n:=5) (A:=fi H2.F) (B:=fi H.F) dA rfl rfl rfl rfl)<|pq dA<|nJ<|xy rfl (λg5=>?_)<|λg5=>?_
  ·
   refine vX lo R dA ?_;intro l0 a0 l1 g6;replace f:=f.new a0;replace i:=i.new a0;replace a:=a.new a0;replace j:=j.new a0;replace s:=s.new a0;replace u:=u.new a0;replace M:=M.new a0;have p8:=f;have p9:=i;have q0:=a;have q1:=j;have g7:=s;have q2:=u;have q3:=M;refine nR 0 (λw' D=>nH (g7.kL D))<|nR 1 (λw' D=>nH (g7.kL D))<|nu 2 (oo rfl)<|nu 3 (nG 0)<|oh 4 dA<|Bi rfl rfl (oK rfl (g4 _ M)) g6<|oh 5 dA<|qw rfl rfl (oz dA rfl) (j8 l0) ?_
   rintro _ l2 ⟨rfl,T⟩;have g8:=g6.add0 T;refine⟨g8,?_⟩;replace f:=f.new T;replace i:=i.new T;replace a:=a.new T;replace j:=j.new T;replace s:=s.new T;replace u:=u.new T;replace M:=M.new T;refine oh 6 dA<|qw rfl rfl (oz dA rfl) (k0 _ l2 u) ?_;rintro _ q4 ⟨e3,a8⟩;replace f:=f.ll a8 S;have l3:=g8.vv l1 a8.wk;refine⟨l3,?_⟩;replace i:=i.kl a8;replace a:=a.kl a8;replace j:=j.kl a8;replace s:=s.kl a8;refine pq dA<|nJ<|ny<|nT<|pQ a<|λq5 a g9=>?_
   replace f:=f.oq g9;replace e3:=e3.only g9 eG;refine nk<|nY<|g_ rfl ?_
   have c5:=uq e3;obtain⟨c3,e4⟩:=c5;rintro l4 a1;refine⟨[VB 0],⟨⟨_,rfl,Ld.ru (a.new a1) dA rfl⟩,trivial⟩, .inl ⟨H2,g2,b7,_,b8,rfl,⟨e2,if_pos rfl,λn a2 c6=>?_,λn a2 c6=>?_⟩,(e4.p.new a1).weak λb hb=>by simp[S b hb],f.new a1⟩⟩
   · exact(if_neg dB).trans (c4.s n a2 c6)
   · exact(if_neg (by have:=e2.f1;omega)).trans ((c4.u n a2).trans (hR.z n (ag (hAF _ _ _ b8) a2) c6))
  ·
   refine nU<|nJ<|ny<|nT<|pQ a<|λq6 a h0=>?_
   replace f:=f.oq h0;replace u:=u.only h0 eG;refine nk<|nY<|g_ rfl ?_
   have l5:H2.F=H.F:=Le (by simpa using g5);have c5:=uq u;obtain⟨c3,e4⟩:=c5;rintro l4 a1;exact⟨[VB 0],⟨⟨_,rfl,Ld.ru (a.new a1) dA rfl⟩,trivial⟩, .inl ⟨H2,g2,b7,_,b8,rfl,⟨e2,by rw[c4.z0,hR.g0,l5],c4.s,λn a2 c6=>(c4.u n a2).trans (hR.z n (ag (hAF _ _ _ b8) a2) c6)⟩,(e4.p.new a1).weak λb hb=>by simp[S b hb],f.new a1⟩⟩
end
def rH(Y:VE)(g:Nat)(l:List Value)(t:TypeId):VE:=λw C=>∃ C1,C=g::C1/\Y w C1/\row w g l t/\g∉C1
instance(Y:VE)[hY:nz Y](g:Nat)(l:List Value)(t:TypeId):nz (rH Y g l t):=
 ⟨fun {w w' B M} ⟨C1,e,a,c,f⟩ k h=>by
  subst e;exact⟨C1,rfl,hY.nD a k λb hb=>h b jX,c.nD k (h g ig),f⟩,fun {w B} ⟨C1,e,a,c,f⟩ b hb=>by
  subst e;rcases ak.1 hb with rfl|hb
  .exact c.lt
  .exact hY.lt a b hb⟩
section
variable {X Y:VE}[hX:nz X][hYT:nz Y]{lo g:Nat}{L:List Nat}{w w':World}{l l':List Value}{t:TypeId}
theorem Tg(h:Two X Y lo L w)(hb:VD w w')(hr:row w' g l t)(hg:w.heap.size<=g):Two X (rH Y g l t) lo L w':=by
 have i:=h.new hb;obtain⟨⟨B,C,j,l,f,m⟩,p,o⟩:=h;have k:=Kp.of_below (M:=[]) hb;refine⟨⟨B,g::C,hX.nD j k λb _ a=>(by cases a),⟨C,rfl,hYT.nD l k λb _ a=>(by cases a),hr,λa=>?_⟩,λb c=>⟨(f b c).1,λa=>?_,(f b c).2.2⟩,λb c=>?_⟩,i.lo,i.lt⟩
 .have:=hYT.lt l g a;omega
 .rcases ak.1 a with e|a
  .have:=hX.lt j b c;omega
  .exact(f b c).2.1 a
 .rcases ak.1 c with rfl|c
  .exact⟨dB,λa=>by have:=o _ a;omega⟩
  .exact m b c
omit hX hYT in
theorem Ab(h:Two X (rH Y g l t) lo L w):row w g l t/\lo<=g/\g∉L:=by
 obtain⟨⟨B,C,_,⟨C1,rfl,_,a,_⟩,_,c⟩,_,_⟩:=h;have:=c g ig;exact⟨a,this.1,this.2⟩
theorem GR(h:Two X (rH Y g l t) lo L w)(hr:row w' g l' t)(ho:Only g w w'):Two X (rH Y g l' t) lo L w':=by
 obtain⟨⟨B,C,f,⟨C1,rfl,i,o,c⟩,e,j⟩,l,m⟩:=h;have k:=Kp.rJ ho;refine⟨⟨B,g::C1,hX.nD f k λb hb a=>?_,⟨C1,rfl,hYT.nD i k λb hb a=>c (aJ.1 a▸hb),hr,c⟩,e,j⟩,ag l k.size,λb hb=>ae (m b hb) k.size⟩;exact(e b hb).2.1 (aJ.1 a▸by simp)
omit hX hYT in
theorem Nw(h:Two X (rH Y g l t) lo L w):Two X Y lo (g::L) w:=by
 obtain⟨⟨B,C,f,⟨C1,rfl,g,i,j⟩,c,e⟩,k,l⟩:=h;refine⟨⟨B,C1,f,g,λb hb=>⟨(c b hb).1,λa=>(c b hb).2.1 kE,λa=>?_⟩,λb hb=>⟨(e b jX).1,λa=>?_⟩⟩,k,λb hb=>?_⟩
 .rcases ak.1 a with rfl|a
  .exact(c _ hb).2.1 ig
  .exact(c b hb).2.2 a
 .rcases ak.1 a with rfl|a
  .exact j hb
  .exact(e b jX).2 a
 .rcases ak.1 hb with rfl|hb
  .exact i.lt
  .exact l b hb
end
section
variable {Y:VE}[hYT:nz Y]{q jb mw N lo g:Nat}{L:List Nat}{G0 V:Nat->Pg}{k:Nat}{H:HS}{fl:List Nat}{w w':World}{l l':List Value}{t:TypeId}
omit hYT in
theorem JH.cell(h:JH q jb mw N G0 V k H fl (rH Y g l t) lo L w):row w g l t/\lo<=g/\g∉L:=let ⟨_,_,h2⟩:=h.ex;Ab h2
theorem JH.sw(h:JH q jb mw N G0 V k H fl (rH Y g l t) lo L w)(hr:row w' g l' t)(ho:Only g w w'):JH q jb mw N G0 V k H fl (rH Y g l' t) lo L w':=let ⟨G,h1,h2⟩:=h.ex;⟨h.ok,G,h1,GR h2 hr ho⟩
def nQ(H:HS):Nat->Pg:=λn=>if n=0 then oW (yu H.F)else if n<H.F.fresh then oW (H.S n)else uQ
omit hYT in
theorem rC.hr{N:Nat}{H:HS}{fl:List Nat}(h:rC N H fl):HR N (nQ H) H fl:=by
 refine⟨h,if_pos rfl,λn c a=>?_,λn c a=>?_⟩
 .unfold nQ;rw[if_neg dB,if_pos a]
 .have:=h.f1
  unfold nQ;rw[if_neg dB,if_neg dB]
omit hYT in
theorem HR.eq{N:Nat}{G:Nat->Pg}{H:HS}{fl:List Nat}(h:HR N G H fl){n:Nat}(hn:n<N):G n=nQ H n:=by
 unfold nQ
 split
 .rename_i e;rw[e];exact h.g0
 .split
  .exact h.s n dB kQ
  .exact h.z n dB hn
omit hYT in
theorem HR.two{N:Nat}{G:Nat->Pg}{H:HS}{fl:List Nat}(h:HR N G H fl)(h2:Two (GZ q N G V k) Y lo L w):Two (GZ q N (nQ H) V k) Y lo L w:=UI h2 λ_ a=>GZ.congr a λ_ c=>h.eq c
theorem LX (hb:Nat) (h:Two (GZ q N (nQ H) V k) Y lo L w) (hH:rC N H fl) (hr:row w hb [VA q] 201) (kf:Nat) (caps:List Value) (hcan:vC Tryz.prog kf=true)
  (A:HS->List Nat->(VE)->Prop) (E:Int->(VE)->Prop) (hAT:∀ H' fl' Y',A H' fl' Y'->nz Y') (hET:∀ e Y',E e Y'->nz Y') (hAF:∀ H' fl' Y',A H' fl' Y'->H.F.fresh<=H'.F.fresh)
  (hdo:∀ jb mw L' w',(∀ b∈L,b∈L')->nC lo L w w'->JH q jb mw N (nQ H) V k H fl Y lo L' w'->Calls Tryz.prog kf (VA jb::caps).toArray w'
   (ul (λ_ w2=>∃ H' fl' Y',A H' fl' Y'/\JH q jb mw N (nQ H) V k H' fl' Y' lo L' w2/\nC lo L' w' w2) (λc w2=>∃ e Y',E e Y'/\c=pe (xN e)/\JF q jb mw N (nQ H) V k Y' lo L' w2/\nC lo L' w' w2))):
  CQ 72 [VA hb, .func (.func kf) #[] caps.toArray] w (λv w'=>(∃ H' fl' Y',A H' fl' Y'/\rC N H' fl'/\v=VB 0/\Two (GZ q N (nQ H') V k) Y' lo L w'/\nC lo L w w')\/
   (∃ e Y',E e Y'/\v=VB e/\Two (GZ q N (nQ H) V k) Y' lo L w'/\nC lo L w w')):=by
 have c:=QD h;have f:=(Jb h hH.hr kf caps hcan A E hAT hET hAF hdo).to λv w' g=>(show(∃ H' fl' Y',A H' fl' Y'/\rC N H' fl'/\v=VB 0/\Two (GZ q N (nQ H') V k) Y' lo L w'/\nC lo L w w')\/
   (∃ e Y',E e Y'/\v=VB e/\Two (GZ q N (nQ H) V k) Y' lo L w'/\nC lo L w w')from g.imp (fun⟨H',fl',Y',G',i,j,a,l,m⟩=>⟨H',fl',Y',i,a.ok,j,a.two l,m⟩) id)
 refine nZ (rs:=[.tmp 4]) (n:=25) Tryz.func72 rfl rfl Tryz.ntmps72 dA rfl<|ny<|nA<|nk<|nI<|ny<|ng<|mZ (yU dA rfl rfl)<|ng<|NC 7 (.bool false) (rfl)<|nE<|ng<|nE<|mZ (oo rfl)<|nE<|mZ (nG 0)<|nE<|mZ (nH hr)<|nE<|mZ (yU dA rfl rfl)<|mZ (oP rfl)<|nk<|ui rfl (rfl)<|nU<|nJ<|nI<|ny<|ng<|mZ (oo rfl)<|mZ (nG 0)<|mZ (nH hr)<|nP c ?_
 rintro _ _ ⟨rfl,rfl⟩;refine nk<|ui rfl (rfl)<|nU<|nJ<|ny<|ng<|mZ (oo rfl)<|mZ (nG 0)<|mZ (nH hr)<|ng<|nP (f) ?_;rintro _ p o;refine lZ ?_;exact o
end
section
variable {Y:VE}[hYT:nz Y]{q jb mw N lo:Nat}{L:List Nat}{G G0 V:Nat->Pg}{k:Nat}{H:HS}{fl:List Nat}{w:World}
theorem LP(g:Nat)(v0:Value)(h:JH q jb mw N G0 V k H fl (rH Y g [v0] 3) lo L w):Calls Tryz.prog 116 [VA jb,VA g].toArray w
  (ul (λ_ w'=>∃ n H' fl',vM N H 3=some (n,H')/\Fx N H fl 3 n H' fl'/\JH q jb mw N G0 V k H' fl' (rH Y g [VB (n:Int)] 3) lo L w'/\nC lo L w w') (λc w'=>vM N H 3=none/\c=pe (xN 8)/\JF q jb mw N G0 V k (rH Y g [v0] 3) lo L w'/\nC lo L w w')):=by
 have a:=nC.refl lo L w;have i:=QX h 3 dB;refine xg (rs:=[]) (n:=5) Tryz.func116 rfl rfl Tryz.ntmps116 dA rfl<|nO<|ng<|wN rfl (oz dA rfl) (i) ((λc w' h=>wY h)) ?_
 rintro _ q ⟨n,H2,j,k,l,rfl,f,m⟩;replace a:=a.lq m;have o:=f.cell;obtain⟨e,r,s⟩:=o;refine nT<|pQ e<|λt e g=>?_
 replace a:=a.oq g;have p:=f.sw e g;refine oI<|FQ [] trivial ?_
 exact⟨n,H2,j,k,l,p,a⟩
theorem Kk(hb:Nat)(h:Two (GZ q N (nQ H) V k) Y lo L w)(hH:rC N H fl)(hr:row w hb [VA q] 201)(hbL:hb<lo\/hb∈L):
  CQ 60 [VA hb] w (λv w'=>((∃ n H' fl',vM N H 3=some (n,H')/\Fx N H fl 3 n H' fl'/\v= .tuple #[VB (n:Int),VB 0]/\Two (GZ q N (nQ H') V k) Y lo L w')\/
   (vM N H 3=none/\v= .tuple #[VB 0,VB 8]/\Two (GZ q N (nQ H) V k) Y lo L w'))/\nC lo L w w'):=by
 have j:=nC.refl lo L w;have y:∀ g W,row W hb [VA q] 201->Two (GZ q N (nQ H) V k) (rH Y g [VB 0] 3) lo L W->Calls Tryz.prog 72 [VA hb, .func (.func 116) #[] [VA g].toArray].toArray W
   (qb λv w'=>∃ (e:Int) (n:Nat) (H':HS),v=VB e/\Two (GZ q N (nQ H') V k) (rH Y g [VB (n:Int)] 3) lo L w'/\nC lo L W w'/\((∃ fl',e=0/\vM N H 3=some (n,H')/\Fx N H fl 3 n H' fl')\/(e=8/\n=0/\vM N H 3=none/\H'=H))):=λg W hr h=>by
  refine(LX hb h hH hr 116 [VA g] dA (λH' fl' Y'=>∃ n,vM N H 3=some (n,H')/\Fx N H fl 3 n H' fl'/\Y'=rH Y g [VB (n:Int)] 3) (λe Y'=>vM N H 3=none/\e=8/\Y'=rH Y g [VB 0] 3)
   (λH' fl' Y' ⟨n,_,_,e⟩=>by subst e;infer_instance) (λe Y' ⟨_,_,z⟩=>by subst z;infer_instance) (λH' fl' Y' ⟨_,_,a,_⟩=>a.grow) λjb mw L' w' I J A=>?_).to λv w' h=>?_
  .exact(LP g _ A).BJ (λv w2 ⟨n,H',fl',f,a,i,m⟩=>⟨H',fl',_,⟨n,f,a,rfl⟩,i,m⟩) λc w2 ⟨f,a,i,m⟩=>⟨8,_,⟨f,rfl,rfl⟩,a,i,m⟩
  .rcases h with⟨H',fl',Y',⟨n,f,a,rfl⟩,m,i,o,r⟩|⟨e,Y',⟨f,rfl,rfl⟩,i,o,r⟩
   .exact⟨0,n,H',i,o,r, .inl ⟨fl',rfl,f,a⟩⟩
   .exact⟨8,0,H,i,o,r, .inr ⟨rfl,rfl,f,rfl⟩⟩
 refine nZ (rs:=[.cell 2 3, .tmp 3]) (n:=9) Tryz.func60 rfl rfl Tryz.ntmps60 dA rfl<|ny<|nK<|oD ([VB 0]) dA<|λB w2 C D s=>?_
 replace j:=j.new s;replace hr:=hr.new s;refine oG<|ng<|mZ (uV) ?_
 have a:=Tg (l:=[VB 0]) (t:=3) h s D C;have K:=h.lo;have M:=h.lt;refine nP (y B w2 hr a) ?_;rintro _ O ⟨e,n,H2,rfl,i,E,F⟩;replace j:=j.ll E (λb hb=>hb);refine nA<|nk<|nI ?_
 have G:=Ab i;obtain⟨p,P,Q⟩:=G;refine nO<|mZ (nH p)<|ng<|nT<|pQ p<|λR p u=>?_
 replace j:=j.oq u;have m:=GR i p u;refine nA<|nk<|nY<|ou [_,_] ⟨⟨_,rfl,Ld.ru p dA rfl⟩,rfl,trivial⟩ ?_
 have o:=(Nw m).weak (L2:=L) λb hb=>by simp[hb]
 refine⟨?_,j⟩;rcases F with⟨fl',rfl,f,a⟩|⟨rfl,rfl,f,rfl⟩
 .exact .inl ⟨n,H2,fl',f,a,rfl,o⟩
 .exact .inr ⟨f,rfl,o⟩
def uD(N:Nat)(H:HS):Nat:=N - H.F.fresh+H.F.many
theorem Me(g:Nat)(v0:Value)(h:JH q jb mw N G0 V k H fl (rH Y g [v0] 3) lo L w):Calls Tryz.prog 76 [VA jb,VA g].toArray w
  (qb λ_ w'=>JH q jb mw N G0 V k H fl (rH Y g [VB (uD N H:Int)] 3) lo L w'/\nC lo L w w'):=by
 have a:=nC.refl lo L w;have K:=h.n48.1;have M:=h.ok.fN;have O:=h.ok.many;have y:=h.cell;obtain⟨f,P,Q⟩:=y;obtain⟨z,G,A,t⟩:=h;obtain⟨c,o⟩:=uq t;have p:=o.vR;have R:jb≠g:=λe=>by
  have B:=Ab o.p;exact B.2.2 kH
 have C:=λL' w' (D:Two (GZ q N G V k) (rH Y g [v0] 3) lo L' w')=>JX D
 have hp:=o.p;have i:JH q jb mw N G0 V k H fl (rH Y g [v0] 3) lo L w:=⟨z,G,A,t⟩;unfold uD;refine nZ (rs:=[]) (n:=20) Tryz.func76 rfl rfl Tryz.ntmps76 dA rfl<|qH [g] dA ?_
 intro E j F;replace a:=a.new j;replace f:=f.new j;replace p:=p.new j;replace hp:=hp.new j;replace i:=i.new j;have r:=p;refine nu 0 (nS)<|nu 1 (oo rfl)<|nu 2 (nG 5)<|nR 3 (λw' l=>nH (r.kq l))<|nu 5 (nS)<|nu 6 (oo rfl)<|nu 7 (nG 0)<|nu 8 (nG 0)<|nR 9 (λw' l=>nH (r.kq l))<|nu 11 (nS)<|nu 12 (oo rfl)<|nu 13 (nG 0)<|nu 14 (nG 2)<|nR 15 (λw' l=>nH (r.kq l))<|oh 4 dA<|qw rfl rfl (oz dA rfl) (C _ E hp) ?_
 rintro _ S ⟨rfl,m⟩;have u:=F.add0 m;refine⟨u,?_⟩;replace a:=a.new m;replace f:=f.new m;replace i:=i.new m;refine nu 10 (vZ rfl rfl (show IntKind.i64.wrap ((N:Int) - (H.F.fresh:Int))=((N - H.F.fresh:Nat):Int) by rw[nV dB];omega))<|nu 16 (oJ rfl rfl (show IntKind.i64.wrap (((N - H.F.fresh:Nat):Int)+(H.F.many:Int))=((N - H.F.fresh+H.F.many:Nat):Int) by rw[nV dB];omega))<|oh 17 dA<|rA rfl rfl<|pQ f<|λT f s=>?_
 have I:=u.aq s;refine⟨I,?_⟩;replace a:=a.oq s;have J:=i.sw f s;refine pq dA<|zS [] trivial ?_
 exact⟨J,a⟩
theorem DT(hb:Nat)(h:Two (GZ q N (nQ H) V k) Y lo L w)(hH:rC N H fl)(hr:row w hb [VA q] 201)(hbL:hb<lo\/hb∈L):
  CQ 23 [VA hb] w (λv w'=>v=VB (uD N H:Int)/\Two (GZ q N (nQ H) V k) Y lo L w'/\nC lo L w w'):=by
 have a:=nC.refl lo L w;have p:∀ g W,row W hb [VA q] 201->Two (GZ q N (nQ H) V k) (rH Y g [VB 0] 3) lo L W->Calls Tryz.prog 72 [VA hb, .func (.func 76) #[] [VA g].toArray].toArray W
   (qb λv w'=>Two (GZ q N (nQ H) V k) (rH Y g [VB (uD N H:Int)] 3) lo L w'/\nC lo L W w'):=λg W hr h=>by
  refine(LX hb h hH hr 76 [VA g] dA (λH' j Y'=>H'=H/\Y'=rH Y g [VB (uD N H:Int)] 3) (λe Y'=>False)
   (λH' j Y' ⟨_,e⟩=>by subst e;infer_instance) (λe Y' h=>h.elim) (λH' j Y' ⟨e,_⟩=>by rw[e];exact ax _) λjb mw L' w' E F r=>?_).to λv w' h=>?_
  .exact(Me g _ r).toP λv w2 ⟨c,i⟩=>⟨H,fl,_,⟨rfl,rfl⟩,c,i⟩
  .rcases h with⟨H',j,Y',⟨rfl,rfl⟩,i,c,s,u⟩|⟨e,Y',h,_⟩
   .exact⟨s,u⟩
   .exact h.elim
 refine nZ (rs:=[.cell 2 3]) (n:=7) Tryz.func23 rfl rfl Tryz.ntmps23 dA rfl<|ny<|nK<|oD ([VB 0]) dA<|λy w2 z A m=>?_
 replace a:=a.new m;replace hr:=hr.new m;refine qx<|ng<|mZ (uV) ?_
 have B:=Tg (l:=[VB 0]) (t:=3) h m A z;have G:=h.lo;have I:=h.lt;refine nP (p y w2 hr B) ?_;rintro _ J ⟨c,C⟩;replace a:=a.ll C (λb hb=>hb);refine nk<|nI ?_
 have D:=Ab c;obtain⟨f,K,M⟩:=D;refine nO<|mZ (nH f)<|nT<|pQ f<|λO f o=>?_
 replace a:=a.oq o;have i:=GR c f o;refine nk<|nY<|ou [_] ⟨⟨_,rfl,Ld.ru f dA rfl⟩,trivial⟩ ?_
 exact⟨rfl,(Nw i).weak λb hb=>by simp[hb],a⟩
theorem Mw(g:Nat)(v0:Value)(h:JH q jb mw N G0 V k H fl (rH Y g [v0] 3) lo L w):Calls Tryz.prog 111 [VA jb,VA g].toArray w
  (qb λ_ w'=>JH q jb mw N G0 V k H fl (rH Y g [VB (H.F.root:Int)] 3) lo L w'/\nC lo L w w'):=by
 have a:=nC.refl lo L w;have j:=h.cell;obtain⟨e,t,u⟩:=j;obtain⟨l,G,m,f⟩:=h;obtain⟨c,o⟩:=uq f;have p:=o.vR;have r:JH q jb mw N G0 V k H fl (rH Y g [v0] 3) lo L w:=⟨l,G,m,f⟩;refine nZ (rs:=[]) (n:=8) Tryz.func111 rfl rfl Tryz.ntmps111 dA rfl<|nO<|ng<|mZ (oo rfl)<|mZ (nG 0)<|mZ (nG 4)<|mZ (nH p)<|nT<|pQ e<|λy e i=>?_
 replace a:=a.oq i;have s:=r.sw e i;refine mf ?_;exact⟨s,a⟩
theorem Na(hb:Nat)(h:Two (GZ q N (nQ H) V k) Y lo L w)(hH:rC N H fl)(hr:row w hb [VA q] 201)(hbL:hb<lo\/hb∈L):
  CQ 51 [VA hb] w (λv w'=>v=VB (H.F.root:Int)/\Two (GZ q N (nQ H) V k) Y lo L w'/\nC lo L w w'):=by
 have a:=nC.refl lo L w;have p:∀ g W,row W hb [VA q] 201->Two (GZ q N (nQ H) V k) (rH Y g [VB 0] 3) lo L W->Calls Tryz.prog 72 [VA hb, .func (.func 111) #[] [VA g].toArray].toArray W
   (qb λv w'=>Two (GZ q N (nQ H) V k) (rH Y g [VB (H.F.root:Int)] 3) lo L w'/\nC lo L W w'):=λg W hr h=>by
  refine(LX hb h hH hr 111 [VA g] dA (λH' j Y'=>H'=H/\Y'=rH Y g [VB (H.F.root:Int)] 3) (λe Y'=>False)
   (λH' j Y' ⟨_,e⟩=>by subst e;infer_instance) (λe Y' h=>h.elim) (λH' j Y' ⟨e,_⟩=>by rw[e];exact ax _) λjb mw L' w' E F r=>?_).to λv w' h=>?_
  .exact(Mw g _ r).toP λv w2 ⟨c,i⟩=>⟨H,fl,_,⟨rfl,rfl⟩,c,i⟩
  .rcases h with⟨H',j,Y',⟨rfl,rfl⟩,i,c,s,u⟩|⟨e,Y',h,_⟩
   .exact⟨s,u⟩
   .exact h.elim
 refine nZ (rs:=[.cell 2 3]) (n:=7) Tryz.func51 rfl rfl Tryz.ntmps51 dA rfl<|ny<|nK<|oD ([VB 0]) dA<|λy w2 z A m=>?_
 replace a:=a.new m;replace hr:=hr.new m;refine qx<|ng<|mZ (uV) ?_
 have B:=Tg (l:=[VB 0]) (t:=3) h m A z;have G:=h.lo;have I:=h.lt;refine nP (p y w2 hr B) ?_;rintro _ J ⟨c,C⟩;replace a:=a.ll C (λb hb=>hb);refine nk<|nI ?_
 have D:=Ab c;obtain⟨f,K,M⟩:=D;refine nO<|mZ (nH f)<|nT<|pQ f<|λO f o=>?_
 replace a:=a.oq o;have i:=GR c f o;refine nk<|nY<|ou [_] ⟨⟨_,rfl,Ld.ru f dA rfl⟩,trivial⟩ ?_
 exact⟨rfl,(Nw i).weak λb hb=>by simp[hb],a⟩
end
abbrev Key:=List UInt8
def sU:Key->Key->Int
 |[],[]=>0
 |[],_::_=>-1
 |_::_,[]=>1
 |a::s,b::t=>if a<b then -1 else if b<a then 1 else sU s t
theorem XM:∀ a,sU a a=0
 |[]=>rfl
 |a::s=>by rw[sU,if_neg ig,if_neg ig];exact XM s
theorem Tj{a b:UInt8}(h:¬a<b)(k:¬b<a):a=b:=UInt8.le_antisymm (UInt8.not_lt.1 k) (UInt8.not_lt.1 h)
theorem Vl:∀ {a b:Key},sU a b=0->a=b
 |[],[],_=>rfl
 |[],_::_,h=>by simp[sU]at h
 |_::_,[],h=>by simp[sU]at h
 |a::s,b::t,h=>by
  rw[sU]at h
  split at h
  .cases h
  .split at h
   .cases h
   .rename_i c e
    rw[Tj c e,Vl h]
theorem Yi:∀ (a b:Key),sU b a=- sU a b
 |[],[]=>rfl
 |[],_::_=>rfl
 |_::_,[]=>rfl
 |a::s,b::t=>by
  rw[sU,sU]
  by_cases c:a<b
  .rw[if_pos c,if_neg (λf=>by have:=UInt8.lt_asymm c f;exact this),if_pos c];rfl
  .by_cases e:b<a
   .rw[if_pos e,if_neg c,if_pos e]
   .rw[if_neg e,if_neg c,if_neg c,if_neg e];exact Yi s t
theorem zpI:∀ (a b:Key),sU a b=-1\/sU a b=0\/sU a b=1
 |[],[]=>.inr (.inl rfl)
 |[],_::_=>.inl rfl
 |_::_,[]=>.inr (.inr rfl)
 |a::s,b::t=>by
  rw[sU]
  split
  .exact .inl rfl
  .split
   .exact .inr<|.inr rfl
   .exact zpI s t
def pM(a b:Key):Prop:=sU a b<0
instance(a b:Key):Decidable (pM a b):=inferInstanceAs (Decidable (_<_))
theorem pM.trans:∀ {a b c:Key},pM a b->pM b c->pM a c
 |[],[],_,h,_=>absurd h iT
 |[],_::_,[],_,h=>absurd h lI
 |[],_::_,_::_,_,_=>by show(-1:Int)<0;decide
 |_::_,[],_,h,_=>absurd h lI
 |_::_,_::_,[],_,h=>absurd h lI
 |a::s,b::t,c::u,h,k=>by
  unfold pM at h k |-;rw[sU]at h k |-
  by_cases f:a<b
  .by_cases k1:b<c
   .rw[if_pos (UInt8.lt_trans f k1)];decide
   .by_cases k2:c<b
    .rw[if_neg k1,if_pos k2]at k;exact absurd k iT
    .rw[<-Tj k1 k2,if_pos f];decide
  .by_cases g:b<a
   .rw[if_neg f,if_pos g]at h;exact absurd h iT
   .have e:=Tj f g
    subst e
    by_cases k1:a<c
    .rw[if_pos k1];decide
    .by_cases k2:c<a
     .rw[if_neg k1,if_pos k2]at k;exact absurd k iT
     .rw[if_neg f,if_neg g]at h
      rw[if_neg k1,if_neg k2]at k |-;exact pM.trans (a:=s) h k
theorem pM.irrefl(a:Key):¬pM a a:=λa=>by unfold pM at a;rw[XM]at a;exact absurd a iT
theorem pM.asymm{a b:Key}(h:pM a b):¬pM b a:=λk=>pM.irrefl a (h.trans k)
theorem pM.ne{a b:Key}(h:pM a b):a≠b:=λe=>pM.irrefl b (e▸h)
theorem NR{a b:Key}(h:¬pM a b)(k:a≠b):pM b a:=by
 unfold pM at h |-;rw[Yi a b];rcases zpI a b with e|e|e
 .rw[e]at h;exact absurd iT h
 .exact absurd (Vl e) k
 .rw[e];decide
theorem Nn{b:Key}(h:b≠[]):pM [] b:=by
 cases b with
 |nil=>exact absurd rfl h
 |cons x t=>show(-1:Int)<0;decide
theorem zkV(a:Key):¬pM a []:=by
 cases a with
 |nil=>exact pM.irrefl _
 |cons x t=>show¬((1:Int)<0);decide
def pW(a b:Key):Prop:=¬pM b a
theorem pW.refl(a:Key):pW a a:=pM.irrefl a
theorem pW.lt{a b c:Key}(h:pW a b)(k:pM b c):pM a c:=by
 by_cases e:a=b
 .rw[e];exact k
 .exact(NR h (λc=>e c.symm)).trans k
theorem pM.le{a b c:Key}(h:pM a b)(k:pW b c):pM a c:=by
 by_cases e:b=c
 .rw[<-e];exact h
 .exact h.trans<|NR k<|λa=>e a.symm
theorem pM.pW{a b:Key}(h:pM a b):pW a b:=h.asymm
theorem pW.trans{a b c:Key}(h:pW a b)(k:pW b c):pW a c:=λc=>by
 by_cases e:a=b
 .exact k<|e▸c
 .exact k<|c.trans<|NR h<|λf=>e f.symm
theorem vF(a:Key):pW [] a:=zkV a
def rR(k hi:Key):Prop:=hi=[]\/pM k hi
structure XD (α:Type) where
 n:Nat
 ks:List (Key × α)
def Val:Nat->Type
 |0=>Nat × Nat
 |l+1=>XD (Val l)
abbrev Tr(l:Nat):=XD (Val l)
def Kl:(l:Nat)->Val l->List UInt8
 |0,v=>oH 4 v.1++oH 2 v.2
 |_+1,v=>oH 4 v.n
def uJ(l:Nat)(x:Key × Val l):List UInt8:=u8 x.1.length::(x.1++Kl l x.2)
def yn(l:Nat)(t:Tr l):View:=⟨3,0,some [u8 l]::t.ks.map λx=>some (uJ l x)⟩
def LV(l:Nat):Nat:=if l=0 then 6 else 4
theorem zsN:∀ {l:Nat} (v:Val l),(Kl l v).length=LV l
 |0,v=>by show(oH 4 v.1++oH 2 v.2).length=6;rw[aA,rT,rT]
 |l+1,v=>by show(oH 4 v.n).length=4;rw[rT]
theorem EQ{l:Nat}(x:Key × Val l):(uJ l x).length=1+x.1.length+LV l:=by
 unfold uJ;rw[aD,aA,zsN];omega
def sH(l:Nat)(ks:List (Key × Val l)):Nat:=(ks.map λx=>(uJ l x).length).sum
theorem xH{l:Nat}(a b:List (Key × Val l)):sH l (a++b)=sH l a+sH l b:=by unfold sH;rw[bJ,fT]
theorem vG{l:Nat}(x:Key × Val l)(b:List (Key × Val l)):sH l (x::b)=(uJ l x).length+sH l b:=by unfold sH;rw[bi,dh]
def uu(l:Nat)(ks:List (Key × Val l)):Bool:=decide (17+4*ks.length+sH l ks<=512)
def oO:(l:Nat)->Tr l->List (Key × (Nat × Nat))
 |0,t=>t.ks
 |l+1,t=>t.ks.flatMap λx=>oO l x.2
def om:(l:Nat)->Tr l->List Nat
 |0,t=>[t.n]
 |l+1,t=>t.n::t.ks.flatMap λx=>om l x.2
def vg(S:Nat->View):(l:Nat)->Tr l->Prop
 |0,t=>S t.n=yn 0 t
 |l+1,t=>S t.n=yn (l+1) t/\∀ x∈t.ks,vg S l x.2
theorem vg.top{S:Nat->View}:∀ {l:Nat} {t:Tr l},vg S l t->S t.n=yn l t
 |0,_,h=>h
 |_+1,_,h=>h.1
theorem vH:∀ {l:Nat} {t:Tr l},t.n∈om l t
 |0,_=>aJ.2 rfl
 |_+1,_=>aK ..
theorem vg.frame{S S':Nat->View}:∀ {l:Nat} {t:Tr l},vg S l t->(∀ n∈om l t,S' n=S n)->vg S' l t
 |0,t,h,he=>(he t.n vH).trans h
 |l+1,t,h,he=>⟨(he t.n vH).trans h.1,λx a=>(h.2 x a).frame λn c=>he n (aj _ (bG.2 ⟨x,a,c⟩))⟩
theorem UG{α:Type}:∀ {A A2 B B2:List α} {x y:α},A++x::B=A2++y::B2->
  (∃ C,A=A2++y::C/\B2=C++x::B)\/(A=A2/\x=y/\B=B2)\/(∃ C,B=C++y::B2/\A2=A++x::C)
 |[],[],B,B2,x,y,h=>by cases h;exact .inr (.inl VF)
 |[],a::A2,B,B2,x,y,h=>by cases h;exact .inr (.inr ⟨A2,rfl,rfl⟩)
 |a::A,[],B,B2,x,y,h=>by cases h;exact .inl ⟨A,rfl,rfl⟩
 |a::A,b::A2,B,B2,x,y,h=>by
  obtain⟨f,g⟩:=iy h;subst f;rcases UG g with⟨C,c,e⟩|⟨c,e,i⟩|⟨C,c,e⟩
  .exact .inl ⟨C,by rw[c];rfl,e⟩
  .exact .inr<|.inl ⟨by rw[c],e,i⟩
  .exact .inr<|.inr ⟨C,c,by rw[e];rfl⟩
theorem Zm{α:Type}{R:α->α->Prop}:∀ {l:List α},(∀ A a C b D,l=A++a::(C++b::D)->R a b)->l.Pairwise R
 |[],_=>.nil
 |x::l,h=>.cons (λb hb=>by
  obtain⟨C,D,e⟩:=dG hb;exact h [] x C b D kZ) (Zm λA a C b D e=>h (x::A) a C b D kZ)
def Aa{α:Type}(lo:Key)(A:List (Key × α))(k:Key):Key:=if A=[]then lo else k
def Ew{α:Type}(B:List (Key × α))(hi:Key):Key:=match B with|[]=>hi|y::_=>y.1
theorem xR{α:Type}{lo k:Key}{A:List (Key × α)}(h:A≠[]):Aa lo A k=k:=if_neg h
def qR(k:Key):Prop:=k≠[]/\k.length<=100
def tN{α:Type}(ks:List (Key × α)):Prop:=ks.Pairwise λa b=>pM a.1 b.1
def qJ:(l:Nat)->Tr l->Key->Key->Prop
 |0,t,lo,hi=>tN t.ks/\(∀ x∈t.ks,qR x.1/\pW lo x.1/\rR x.1 hi/\x.2.1<2147483648/\x.2.2<65536)/\uu 0 t.ks=true
 |l+1,t,lo,hi=>(∃ x r,t.ks=x::r/\x.1=[])/\tN t.ks/\(∀ (A:List (Key × Val (l+1))) (x:Key × Val (l+1)) (B:List (Key × Val (l+1))),t.ks=A++x::B->A≠[]->qR x.1/\pM lo x.1/\rR x.1 hi)/\uu (l+1) t.ks=true/\
  ∀ (A:List (Key × Val (l+1))) (x:Key × Val (l+1)) (B:List (Key × Val (l+1))),t.ks=A++x::B->qJ l x.2 (Aa (α:=Val (l+1)) lo A x.1) (Ew (α:=Val (l+1)) B hi)
theorem qJ.fit:∀ {l:Nat} {t:Tr l} {lo hi:Key},qJ l t lo hi->uu l t.ks=true
 |0,_,_,_,h=>h.2.2
 |_+1,_,_,_,h=>h.2.2.2.1
theorem qJ.AO:∀ {l:Nat} {t:Tr l} {lo hi:Key},qJ l t lo hi->tN t.ks
 |0,_,_,_,h=>h.1
 |_+1,_,_,_,h=>h.2.1
theorem Al{α:Type}{ks A B:List (Key × α)}{x:Key × α}(h:tN ks)(e:ks=A++x::B):∀ y∈B,pM x.1 y.1:=λy a=>by
 subst e;exact(dL.1 (dM.1 h).2.1).1 y a
theorem Re{α:Type}{ks A B:List (Key × α)}{x:Key × α}(h:tN ks)(e:ks=A++x::B):∀ y∈A,pM y.1 x.1:=λy a=>by
 subst e;exact(dM.1 h).2.2 y a x ig
theorem qJ.rows:∀ {l:Nat} {t:Tr l} {lo hi:Key},qJ l t lo hi->∀ r∈oO l t,qR r.1/\pW lo r.1/\rR r.1 hi/\r.2.1<2147483648/\r.2.2<65536
 |0,_,_,_,h,r,hr=>h.2.1 r hr
 |l+1,t,lo,hi,h,r,hr=>by
  obtain⟨x,i,hr⟩:=bG.1 hr;obtain⟨A,B,e⟩:=dG i;obtain⟨j,f,a,k⟩:=(h.2.2.2.2 A x B e).rows r hr;refine⟨j,?_,?_,k⟩
  .by_cases g:A=[]
   .rw[g]at f;exact f
   .rw[xR g]at f
    exact(h.2.2.1 A x B e g).2.1.pW.trans f
  .cases B with
   |nil=>exact a
   |cons y B=>
    have c:=(h.2.2.1 (A++[x]) y B kz ig).2.2;rcases a with a|a
    .exact absurd a (h.2.2.1 (A++[x]) y B kz ig).1.1
    .rcases c with c|c
     .exact .inl c
     .exact .inr<|a.trans c
theorem qJ.rise:∀ {l:Nat} {t:Tr l} {lo hi:Key},qJ l t lo hi->tN (oO l t)
 |0,_,_,_,h=>h.1
 |l+1,t,lo,hi,h=>by
  refine List.pairwise_flatMap.2 ⟨λx i=>?_,Zm λA a C b D e r hr s j=>?_⟩
  .obtain⟨A,B,e⟩:=dG i
   exact(h.2.2.2.2 A x B e).rise
  .have f:=((h.2.2.2.2 A a _ e).rows r hr).2.2.1
   have k:t.ks=(A++a::C)++b::D:=by rw[e];simp
   have g:=((h.2.2.2.2 _ b D k).rows s j).2.1;rw[xR ig]at g;have m:pW (Ew (C++b::D) hi) b.1:=by
    cases C with
    |nil=>exact pW.refl _
    |cons c C=>exact(Al h.2.1 (show t.ks=(A++[a])++c::(C++b::D) by rw[e];simp) b ig).pW
   rcases f with f|f
   .exfalso
    cases C with
    |nil=>exact(h.2.2.1 (A++[a]) b D kz ig).1.1 f
    |cons c C=>exact(h.2.2.1 (A++[a]) c (C++b::D) kz ig).1.1 f
   .exact(f.le m).le g
def pY{α:Type}(ks:List (Key × α))(k:Key):Nat:=(ks.takeWhile λx=>decide (pM x.1 k)).length
def isK{α:Type}(ks:List (Key × α))(k:Key):Bool:=match ks[pY ks k]? with|some x=>decide (x.1=k)|none=>false
theorem Xp{α:Type}(ks:List (Key × α))(k:Key):pY ks k<=ks.length:=by
 have a:=congrArg List.length (jR (p:=λx:Key × α=>decide (pM x.1 k)) (l:=ks));rw[aA]at a;unfold pY;omega
theorem VO{α:Type}(ks:List (Key × α))(k:Key):∃ A B,ks=A++B/\pY ks k=A.length/\(∀ x∈A,pM x.1 k)/\∀ x,B.head?=some x->pW k x.1:=by
 refine⟨_,_,(jR (p:=λx:Key × α=>decide (pM x.1 k)) (l:=ks)).symm,rfl,λx c=>?_,λx c e=>?_⟩
 .have:=List.all_takeWhile (p:=λx:Key × α=>decide (pM x.1 k)) (l:=ks)
  exact of_decide_eq_true<|dC.1 this x c
 .have a:=List.head?_dropWhile_not (λx:Key × α=>decide (pM x.1 k)) ks
  rw[c]at a;dsimp only at a;rw[decide_eq_true e]at a;exact absurd a ig
theorem Zj{α:Type}{ks A B:List (Key × α)}{k:Key}(e:ks=A++B)(h1:∀ x∈A,pM x.1 k)(h2:∀ x,B.head?=some x->pW k x.1):pY ks k=A.length:=by
 unfold pY;rw[e,List.takeWhile_append_of_pos (λx a=>decide_eq_true (h1 x a))];have:B.takeWhile (λx=>decide (pM x.1 k))=[]:=by
  cases B with
  |nil=>rfl
  |cons y B=>rw[List.takeWhile_cons,if_neg (by rw[decide_eq_true_eq];exact h2 y rfl)]
 rw[this,aR]
theorem Tx{α:Type}{x:α}{L:List α}:∀ {A:List α},(A++L).insertIdx A.length x=A++x::L
 |[]=>rfl
 |a::A=>by rw[bL,aD,jf,Tx];rfl
def qo{α:Type}(ks:List (Key × α))(x:Key × α):List (Key × α):=if isK ks x.1 then ks.set (pY ks x.1) x else ks.insertIdx (pY ks x.1) x
def uY{α:Type}(ks:List (Key × α))(x:Key × α):List (Key × α):=ks.filter (λa=>decide (pM a.1 x.1))++x::ks.filter (λa=>decide (pM x.1 a.1))
theorem filter_all{α:Type}{p:α->Bool}{l:List α}(h:∀ x∈l,p x=true):l.filter p=l:=iZ.2 h
theorem GN{α:Type}{p:α->Bool}{l:List α}(h:∀ x∈l,p x=false):l.filter p=[]:=List.filter_eq_nil_iff.2 λx a=>by rw[h x a];exact dX
theorem ND{α:Type}{ks:List (Key × α)}(hr:tN ks)(x:Key × α):∃ A B,(∀ y∈A,pM y.1 x.1)/\(∀ y∈B,pM x.1 y.1)/\qo ks x=A++x::B/\pY ks x.1=A.length/\
  ((isK ks x.1=false/\ks=A++B)\/(isK ks x.1=true/\∃ y,y.1=x.1/\ks=A++y::B)):=by
 obtain⟨A,B,e,hp,g,k⟩:=VO ks x.1;unfold qo;cases B with
 |nil=>
  have a:isK ks x.1=false:=by unfold isK;rw[hp,e,aR,bK (ax _)]
  refine⟨A,[],g,λy c=>(by cases c),?_,hp, .inl ⟨a,e⟩⟩;rw[a,if_neg ig,hp,e,Tx]
 |cons y B=>
  have i:ks[pY ks x.1]?=some y:=by rw[hp,e,bB (ax _),bO];rfl
  by_cases c:y.1=x.1
  .have a:isK ks x.1=true:=by unfold isK;rw[i];exact decide_eq_true c
   refine⟨A,B,g,λh f=>c▸Al hr e h f,?_,hp, .inr ⟨a,y,c,e⟩⟩;rw[a,if_pos rfl,hp,e,dN _ _ (ax _),bO];rfl
  .have a:isK ks x.1=false:=by unfold isK;rw[i];exact decide_eq_false c
   have j:pM x.1 y.1:=NR (k y rfl) c;refine⟨A,y::B,g,λh f=>?_,?_,hp, .inl ⟨a,e⟩⟩
   .rcases ak.1 f with rfl|f
    .exact j
    .exact j.trans<|Al hr e h f
   .rw[a,if_neg ig,hp,e,Tx]
theorem Uw{α:Type}{A B M:List (Key × α)}{x:Key × α}(hA:∀ y∈A,pM y.1 x.1)(hB:∀ y∈B,pM x.1 y.1):uY (A++(M++B)) x=A++(uY M x++B):=by
 unfold uY;rw[fq,fq,fq,fq,filter_all λy a=>decide_eq_true (hA y a),GN (l:=B) λy a=>decide_eq_false (hB y a).asymm,GN (l:=A) λy a=>decide_eq_false (hA y a).asymm,filter_all (l:=B) λy a=>decide_eq_true (hB y a),aR,aU,aH,aH]
 rfl
theorem zu0{α:Type}{ks:List (Key × α)}(hr:tN ks)(x:Key × α):qo ks x=uY ks x:=by
 obtain⟨A,B,g,h,e,_,c⟩:=ND hr x;rw[e];rcases c with⟨_,c⟩|⟨_,a,i,c⟩
 .rw[c,show A++B=A++([]++B)from rfl,Uw g h];rfl
 .have j:¬pM a.1 x.1:=by rw[i];exact pM.irrefl _
  have k:¬pM x.1 a.1:=by rw[i];exact pM.irrefl _
  rw[c,show A++a::B=A++([a]++B)from rfl,Uw g h];unfold uY;rw[GN (l:=[a]) λm f=>by rw[aJ.1 f];exact decide_eq_false j,GN (l:=[a]) λm f=>by rw[aJ.1 f];exact decide_eq_false k]
  rfl
theorem WU{α:Type}{A B:List (Key × α)}{x:Key × α}(h1:tN A)(h2:tN B)(hA:∀ y∈A,pM y.1 x.1)(hB:∀ y∈B,pM x.1 y.1):tN (A++x::B):=
 dM.2 ⟨h1,dL.2 ⟨hB,h2⟩,λa c b hb=>by
  rcases ak.1 hb with rfl|hb
  .exact hA a c
  .exact(hA a c).trans (hB b hb)⟩
def DL(all:Nat):Nat->Nat->List Nat->Nat
 |n,_,[]=>n
 |n,size,s::r=>if 2*(size+s)>all then n else DL all (n+1) (size+s) r
def Ef(L:List Nat):Nat:=match L with|[]=>1|s::r=>DL L.sum 1 s r
theorem zsQ{all:Nat}:∀ (r:List Nat) (n size:Nat),size+r.sum=all->(n=1\/2*size<=all)->r≠[]->all>0->
  ∃ j,DL all n size r=n+j/\j<r.length/\(n+j=1\/2*(size+(r.take j).sum)<=all)/\2*(size+(r.take (j+1)).sum)>all
 |[],_,_,_,_,h,_=>absurd rfl h
 |s::r,n,size,h,hn,_,ha=>by
  rw[DL];rw[dh]at h
  by_cases a:2*(size+s)>all
  .rw[if_pos a]
   exact⟨0,rfl,ig,by simpa using hn,by simpa using a⟩
  .rw[if_neg a]
   by_cases hr:r=[]
   .subst hr;simp at h;omega
   .obtain⟨j,e,g,c,i⟩:=zsQ r (n+1) (size+s) dB (.inr dB) hr ha
    refine⟨j+1,by rw[e];omega,by simp;omega, .inr ?_,?_⟩
    .rw[gT,dh]
     rcases c with c|c
     .have f:j=0:=by omega
      subst f;rw[dz,List.sum_nil];omega
     .omega
    .rw[gT,dh];omega
theorem zsR{L:List Nat}(h2:2<=L.length)(hp:0<L.sum):1<=Ef L/\Ef L<L.length/\(Ef L=1\/2*(L.take (Ef L)).sum<=L.sum)/\2*(L.take (Ef L+1)).sum>L.sum:=by
 match L,h2 with
 |s::r,h2=>
  have hr:r≠[]:=λe=>by rw[e]at h2;simp at h2
  obtain⟨j,e,g,a,c⟩:=zsQ (all:=(s::r).sum) r 1 s (by rw[dh]) (.inl rfl) hr hp;have f:Ef (s::r)=j+1:=by show DL _ 1 s r=_;rw[e];omega
  rw[f];refine⟨dB,by simp;omega,?_,?_⟩
  .rw[gT,dh]
   rcases a with a|a
   .exact .inl dB
   .exact .inr a
  .rw[gT,dh];exact c
def wP:(l:Nat)->List (Key × Val l)->Key->Key->Prop
 |0,ks,lo,hi=>tN ks/\∀ x∈ks,qR x.1/\pW lo x.1/\rR x.1 hi/\x.2.1<2147483648/\x.2.2<65536
 |l+1,ks,lo,hi=>(∃ x r,ks=x::r/\x.1=[])/\tN ks/\(∀ (A:List (Key × Val (l+1))) (x:Key × Val (l+1)) (B:List (Key × Val (l+1))),ks=A++x::B->A≠[]->qR x.1/\pM lo x.1/\rR x.1 hi)/\
  ∀ (A:List (Key × Val (l+1))) (x:Key × Val (l+1)) (B:List (Key × Val (l+1))),ks=A++x::B->qJ l x.2 (Aa (α:=Val (l+1)) lo A x.1) (Ew (α:=Val (l+1)) B hi)
theorem Bq:∀ {l:Nat} {t:Tr l} {lo hi:Key},qJ l t lo hi↔wP l t.ks lo hi/\uu l t.ks=true
 |0,_,_,_=>⟨λa=>⟨⟨a.1,a.2.1⟩,a.2.2⟩,λa=>⟨a.1.1,a.1.2,a.2⟩⟩
 |_+1,_,_,_=>⟨λa=>⟨⟨a.1,a.2.1,a.2.2.1,a.2.2.2.2⟩,a.2.2.2.1⟩,λa=>⟨a.1.1,a.1.2.1,a.1.2.2.1,a.2,a.1.2.2.2⟩⟩
theorem wP.len:∀ {l:Nat} {ks:List (Key × Val l)} {lo hi:Key},wP l ks lo hi->∀ x∈ks,x.1.length<=100
 |0,_,_,_,h,x,hx=>(h.2 x hx).1.2
 |l+1,ks,_,_,h,x,hx=>by
  obtain⟨A,B,e⟩:=dG hx
  by_cases a:A=[]
  .obtain⟨g,r,c,f⟩:=h.1
   rw[a]at e;rw[e]at c;cases c;rw[f];exact aC _
  .exact(h.2.2.1 A x B e a).1.2
def ve:(l:Nat)->List (Key × Val l)->List (Key × Val l)
 |0,ks=>ks
 |_+1,[]=>[]
 |_+1,x::r=>([],x.2)::r
theorem NT:∀ {l:Nat} {L R:List (Key × Val l)} {y:Key × Val l} {lo hi:Key},wP l (L++y::R) lo hi->L≠[]->qR y.1/\pM lo y.1/\rR y.1 hi/\wP l L lo y.1/\wP l (ve l (y::R)) y.1 hi
 |0,L,R,y,lo,hi,h,hL=>by
  have i:=h.2 y ig;have f:=dM.1 h.1;have m:=dL.1 f.2.1;have r:pM lo y.1:=by
   cases L with
   |nil=>exact absurd rfl hL
   |cons k L=>exact(h.2 k ig).2.1.lt (f.2.2 k ig y ig)
  refine⟨i.1,r,i.2.2.1,⟨f.1,λx g=>?_⟩,⟨f.2.1,λx g=>?_⟩⟩
  .have c:=h.2 x (aF _ g)
   exact⟨c.1,c.2.1, .inr (f.2.2 x g y ig),c.2.2.2⟩
  .have c:=h.2 x (aB _ g)
   refine⟨c.1,?_,c.2.2⟩;rcases ak.1 g with rfl|g
   .exact pW.refl _
   .exact(m.1 x g).pW
 |l+1,L,R,y,lo,hi,h,hL=>by
  obtain⟨⟨E,F,s,t⟩,hr,o,p⟩:=h;have i:=o L y R rfl hL;have f:=dM.1 hr;have m:=dL.1 f.2.1;refine⟨i.1,i.2.1,i.2.2,⟨?_,f.1,λA x B e q=>?_,λA x B e=>?_⟩,⟨([],y.2),R,rfl,rfl⟩,dL.2 ⟨λk u=>?_,m.2⟩,λA x B e q=>?_,λA x B e=>?_⟩
  .cases L with
   |nil=>exact absurd rfl hL
   |cons k L=>cases s;exact⟨_,_,rfl,t⟩
  .have c:=o A x (B++y::R) kz q
   exact⟨c.1,c.2.1, .inr (f.2.2 x kz y ig)⟩
  .have c:=p A x (B++y::R) kz
   cases B with
   |nil=>exact c
   |cons b B=>exact c
  .obtain⟨C,D,e⟩:=dG u
   exact Nn (o (L++y::C) k D kz ig).1.1
  .cases A with
   |nil=>exact absurd rfl q
   |cons a A=>
    obtain⟨_,j⟩:=iy e;have c:=o (L++y::A) x B (by rw[j];simp) ig;exact⟨c.1,m.1 x (by rw[j];simp),c.2.2⟩
  .cases A with
   |nil=>
    obtain⟨z,j⟩:=iy e;subst z;subst j;have c:=p L y R rfl;rw[xR hL]at c;exact c
   |cons a A=>
    obtain⟨_,j⟩:=iy e;have c:=p (L++y::A) x B (by rw[j];simp);rw[xR ig]at c |-;exact c
theorem Tm{l:Nat}:∀ (ks:List (Key × Val l)),5*ks.length<=sH l ks
 |[]=>aC _
 |x::ks=>by
  rw[vG,aD,EQ];have:=Tm ks;have:4<=LV l:=by unfold LV;split<;>omega
  omega
theorem IM{l:Nat}{x:Key × Val l}(h:x.1.length<=100):(uJ l x).length<=107:=by
 rw[EQ];have:LV l<=6:=by unfold LV;split<;>omega
 omega
theorem ZW:∀ {l:Nat} (ks:List (Key × Val l)),(ve l ks).length=ks.length/\sH l (ve l ks)<=sH l ks
 |0,ks=>⟨rfl,ax _⟩
 |_+1,[]=>⟨rfl,ax _⟩
 |l+1,x::r=>⟨rfl,by
  show sH (l+1) (([],x.2)::r)<=_;rw[vG,vG,EQ,EQ];simp only[aY];show 1+0+LV (l+1)+_<=_;omega⟩
def yS(l:Nat)(ks:List (Key × Val l)):Nat:=Ef (ks.map λx=>(uJ l x).length)
inductive EY (l:Nat) where
 |one (t:Tr l)
 |two (a:Tr l) (k:Key) (b:Tr l)
def wU(l n:Nat)(ks:List (Key × Val l))(gs:List Nat):EY l × List Nat:=
 if uu l ks=true then(.one ⟨n,ks⟩,gs)else(.two ⟨n,ks.take (yS l ks)⟩ (((ks.drop (yS l ks)).head?.map Prod.fst).getD []) ⟨gs.headD 0,ve l (ks.drop (yS l ks))⟩,gs.tail)
theorem zu1{l:Nat}(ks:List (Key × Val l))(m:Nat):((ks.map λx=>(uJ l x).length).take m).sum=sH l (ks.take m):=by rw[<-fA];rfl
theorem XI{l:Nat}{ks:List (Key × Val l)}(hc:∀ x∈ks,x.1.length<=100)(h1:17+4*ks.length+sH l ks<=623)(h2:¬uu l ks=true):
  ∃ L y R,ks=L++y::R/\L≠[]/\yS l ks=L.length/\uu l L=true/\uu l (ve l (y::R))=true:=by
 have a:512<17+4*ks.length+sH l ks:=by
  unfold uu at h2;rw[decide_eq_true_eq]at h2;omega
 have y:=Tm ks;have i:2<=ks.length:=by
  match ks,hc,a with
  |[],_,a=>simp[sH]at a
  |[x],hc,a=>
   have:=IM (l:=l) (hc x ig);rw[vG]at a;simp[sH]at a;omega
  |_::_::_,_,_=>simp
 obtain⟨c1,c2,c3,f⟩:=zsR (L:=ks.map λx=>(uJ l x).length) (by rw[aP];exact i) (by show 0<sH l ks;omega);rw[aP]at c2;rw[zu1]at c3 f;obtain⟨m,g⟩:∃ m,Ef (ks.map λx=>(uJ l x).length)=m:=⟨_,rfl⟩;rw[g]at c1 c2 c3 f;have j:(ks.map λx=>(uJ l x).length).sum=sH l ks:=rfl;rw[j]at c3 f;have k:=dm c2;have e:ks=ks.take m++ks[m]::ks.drop (m+1):=by rw[<-k,bM]
 have c:(ks.take m).length=m:=by rw[aI];omega
 have z:=IM (l:=l) (hc ks[m] (jH _));have A:sH l ks=sH l (ks.take m)+((uJ l ks[m]).length+sH l (ks.drop (m+1))):=by
  conv=>lhs;rw[e]
  rw[xH,vG]
 have B:sH l (ks.take (m+1))=sH l (ks.take m)+(uJ l ks[m]).length:=by
  rw[bf,aG c2,xH];show _+sH l [ks[m]]=_;rw[vG];show _+(_+0)=_;omega
 have o:=Tm (ks.take m);have p:=Tm (ks.drop (m+1));have h:(ks.drop (m+1)).length=ks.length - (m+1):=aM ..;rw[c]at o;rw[h]at p;refine⟨ks.take m,ks[m],ks.drop (m+1),e,λq=>?_,g.trans c.symm,?_,?_⟩
 .rw[q]at c;simp at c;omega
 .unfold uu
  rw[decide_eq_true_eq,c];rcases c3 with c3|c3
  .subst c3
   have r:0<ks.length:=by omega
   have:sH l (ks.take 1)<=107:=by
    have s:ks.take 1=[ks[0]]:=by rw[List.take_one,List.head?_eq_getElem?,aG r];rfl
    rw[s,vG];have:=IM (l:=l) (hc ks[0] (jH _));show _+0<=_;omega
   omega
  .omega
 .unfold uu
  obtain⟨t,u⟩:=ZW (ks[m]::ks.drop (m+1));rw[decide_eq_true_eq,t];rw[vG]at u;rw[aD,h];omega
def Ty(l:Nat)(lo hi:Key):EY l->Prop
 | .one t=>qJ l t lo hi
 | .two a k b=>qR k/\pM lo k/\rR k hi/\qJ l a lo k/\qJ l b k hi
def zsU(l:Nat):EY l->List (Key × (Nat × Nat))
 | .one t=>oO l t
 | .two a _ b=>oO l a++oO l b
theorem w_:∀ {l:Nat} (n:Nat) (ks:List (Key × Val l)),oO l ⟨n,ve l ks⟩=oO l ⟨n,ks⟩
 |0,_,_=>rfl
 |_+1,_,[]=>rfl
 |_+1,_,_::_=>rfl
theorem Ma:∀ {l:Nat} (n a b:Nat) (L R:List (Key × Val l)),oO l ⟨n,L++R⟩=oO l ⟨a,L⟩++oO l ⟨b,R⟩
 |0,_,_,_,_,_=>rfl
 |_+1,_,_,_,_,_=>bR
theorem U_{l n:Nat}{ks:List (Key × Val l)}{gs:List Nat}{lo hi:Key}(h:wP l ks lo hi)(h1:17+4*ks.length+sH l ks<=623):Ty l lo hi (wU l n ks gs).1/\zsU l (wU l n ks gs).1=oO l ⟨n,ks⟩:=by
 unfold wU
 by_cases a:uu l ks=true
 .rw[if_pos a]
  exact⟨Bq.2 ⟨h,a⟩,rfl⟩
 .rw[if_neg a]
  obtain⟨L,c,R,e,f,g,i,j⟩:=XI h.len h1 a;rw[g];have k:ks.take L.length=L:=by rw[e];exact dY
  have m:ks.drop L.length=c::R:=by rw[e];exact dK
  rw[k,m];rw[e]at h;obtain⟨k1,k2,k3,k4,k5⟩:=NT h f;refine⟨⟨k1,k2,k3,Bq.2 ⟨k4,i⟩,Bq.2 ⟨k5,j⟩⟩,?_⟩;show oO l ⟨n,L⟩++oO l ⟨_,ve l (c::R)⟩=_;rw[w_,<-Ma n,e]
def qP{α:Type}(ks:List (Key × α))(k:Key):Nat:=if isK ks k then pY ks k else pY ks k - 1
theorem Wn{α:Type}{ks:List (Key × α)}{k:Key}(hr:tN ks)(h0:∃ x r,ks=x::r/\x.1=[])(hk:qR k):∃ A x B,ks=A++x::B/\qP ks k=A.length/\pW x.1 k/\∀ y∈B,pM k y.1:=by
 obtain⟨A,B,e,hp,l,h⟩:=VO ks k;have m:A≠[]:=λc=>by
  subst c;obtain⟨x,r,o,p⟩:=h0;have i:=h x (by rw[<-show ks=B from e,o];rfl);rw[p]at i;exact i<|Nn hk.1
 unfold qP;cases hi:isK ks k with
 |true=>
  rw[if_pos rfl,hp];unfold isK at hi;rw[hp,e,bB (ax _),bO]at hi;cases B with
  |nil=>cases hi
  |cons y B=>
   have a:y.1=k:=of_decide_eq_true hi;exact⟨A,y,B,e,rfl,by rw[a];exact pW.refl _,λg f=>a▸Al hr e g f⟩
 |false=>
  rw[if_neg ig,hp];obtain⟨A1,x,rfl⟩:∃ A1 x,A=A1++[x]:=(iL A).elim (λc=>absurd c m) fun⟨A1,x,c⟩=>⟨A1,x,by rw[c,iM]⟩
  refine⟨A1,x,B,by rw[e];simp,ig,(l x ig).pW,?_⟩;cases B with
  |nil=>intro y a;cases a
  |cons y B=>
   unfold isK at hi;rw[hp,e,bB (ax _),bO]at hi;have a:y.1≠k:=of_decide_eq_false hi;have j:pM k y.1:=NR (h y rfl) a;intro g f;rcases ak.1 f with rfl|f
   .exact j
   .exact j.trans<|Al hr e g f
theorem JG{l:Nat}{v:Tr l}{lo hi:Key}(h:qJ l v lo hi):wP (l+1) [([],v)] lo hi:=
 ⟨⟨_,_,rfl,rfl⟩,List.pairwise_singleton _ _,λA x B e c=>by
  cases A with
  |nil=>exact absurd rfl c
  |cons a A=>simp at e,λA x B e=>by
  cases A with
  |nil=>obtain⟨f,g⟩:=iy e;subst f;subst g;exact h
  |cons a A=>simp at e⟩
theorem Oo{l:Nat}{L R:List (Key × Val (l+1))}{y:Key × Val (l+1)}{lo hi:Key}(h1:wP (l+1) L lo y.1)(h2:wP (l+1) (([],y.2)::R) y.1 hi)(hk:qR y.1)(hl:pM lo y.1)(hb:rR y.1 hi):wP (l+1) (L++y::R) lo hi:=by
 obtain⟨⟨s,t,i,l⟩,u,m,z⟩:=h1;obtain⟨_,D,o,p⟩:=h2;have E:=dL.1 D;have q:∀ x∈L,pM x.1 y.1:=λx k=>by
  obtain⟨A,B,e⟩:=dG k
  by_cases j:A=[]
  .rw[j]at e
   rw[e]at i;cases i;rw[l];exact Nn hk.1
  .rcases(m A x B e j).2.2 with h|h
   .exact absurd h hk.1
   .exact h
 have F:∀ x∈R,pM y.1 x.1:=λx k=>by
  obtain⟨A,B,e⟩:=dG k;exact(o (([],y.2)::A) x B kZ ig).2.1
 refine⟨⟨s,t++y::R,by rw[i];rfl,l⟩,WU u E.2 q F,λA x B e j=>?_,λA x B e=>?_⟩
 .rcases UG e with⟨C,f,g⟩|⟨f,g,r⟩|⟨C,f,g⟩
  .have a:=m A x C f j
   refine⟨a.1,a.2.1,?_⟩;have G:=q x (by rw[f];simp);rcases hb with h|h
   .exact .inl h
   .exact .inr<|G.trans h
  .subst g;exact⟨hk,hl,hb⟩
  .have a:=o (([],y.2)::C) x B (by rw[f];rfl) ig
   exact⟨a.1,hl.trans a.2.1,a.2.2⟩
 .rcases UG e with⟨C,f,g⟩|⟨f,g,r⟩|⟨C,f,g⟩
  .have a:=z A x C f
   subst g;cases C with
   |nil=>exact a
   |cons c C=>exact a
  .subst g;subst r
   have a:=p [] ([],y.2) R rfl;rw[xR (by rw[<-f,i];simp)];exact a
  .have a:=p (([],y.2)::C) x B (by rw[f];rfl)
   rw[xR ig]at a;rw[xR (by rw[g];simp)];exact a
theorem Tw{l:Nat}{A B Mr:List (Key × Val (l+1))}{x:Key × Val (l+1)}{m0:Val (l+1)}{lo hi:Key}(h:wP (l+1) (A++x::B) lo hi)(hm:wP (l+1) (([],m0)::Mr) (Aa (α:=Val (l+1)) lo A x.1) (Ew (α:=Val (l+1)) B hi)):wP (l+1) (A++(x.1,m0)::(Mr++B)) lo hi:=by
 have c:wP (l+1) (([],m0)::(Mr++B)) (Aa (α:=Val (l+1)) lo A x.1) hi:=by
  cases B with
  |nil=>rw[aR];exact hm
  |cons y B=>
   have f:=h.2.2.1 (A++[x]) y B ig ig;have g:=NT (L:=A++[x]) (R:=B) (y:=y) (by rw[aH];exact h) ig;refine Oo (L:=([],m0)::Mr) hm g.2.2.2.2 f.1 ?_ f.2.2
   by_cases a:A=[]
   .rw[a];exact f.2.1
   .rw[xR a]
    exact Al h.2.1 rfl y ig
 by_cases a:A=[]
 .subst a
  obtain⟨j,r,e,i⟩:=h.1;cases e;rw[i];exact c
 .rw[xR a]at c
  obtain⟨k1,k2,k3,k4,_⟩:=NT h a;exact Oo (y:=(x.1,m0)) k4 c k1 k2 k3
def zB:(l:Nat)->Tr l->Key->Nat × Nat->List Nat->EY l × List Nat
 |0,t,k,v,gs=>wU 0 t.n (qo t.ks (k,(v:Val 0))) gs
 |l+1,t,k,v,gs=>match t.ks[qP t.ks k]? with
  |none=>(.one t,gs)
  |some x=>match zB l x.2 k v gs with
   |(.one t',gs')=>(.one ⟨t.n,t.ks.set (qP t.ks k) (x.1,(t':Val (l+1)))⟩,gs')
   |(.two a k2 b,gs')=>wU (l+1) t.n (qo (t.ks.set (qP t.ks k) (x.1,(a:Val (l+1)))) (k2,(b:Val (l+1)))) gs'
theorem zpK{l:Nat}{A B:List (Key × Val l)}{x:Key × Val l}{m:Val l}:uu l (A++(x.1,m)::B)=uu l (A++x::B):=by
 unfold uu;rw[xH,xH,vG,vG,EQ,EQ];simp only[aA,aD]
theorem Y_{l:Nat}{A B:List (Key × Val l)}{x:Key × Val l}{k:Key}{v:Val l}(hA:∀ y∈A,pM y.1 k)(hx:pM x.1 k)(hB:∀ y∈B,pM k y.1):qo (A++x::B) (k,v)=A++x::(k,v)::B:=by
 have hp:pY (A++x::B) k=(A++[x]).length:=Zj (A:=A++[x]) (B:=B) ig (λy a=>by
  rcases ay.1 a with c|c
  .exact hA y c
  .rw[aJ.1 c];exact hx) λy a=>by
  cases B with
  |nil=>cases a
  |cons z B=>cases a;exact(hB _ ig).pW
 have e:isK (A++x::B) k=false:=by
  unfold isK;rw[hp,show A++x::B=(A++[x])++B by simp,bB (ax _),bO];cases B with
  |nil=>rfl
  |cons z B=>exact decide_eq_false (hB z ig).ne.symm
 unfold qo;dsimp only;rw[e,if_neg ig,hp,show A++x::B=(A++[x])++B by simp,Tx];simp
theorem WY{l n:Nat}{A B:List (Key × Val (l+1))}{y:Key × Val (l+1)}:oO (l+1) ⟨n,A++y::B⟩=A.flatMap (λy=>oO l y.2)++(oO l y.2++B.flatMap λy=>oO l y.2):=by
 show(A++y::B).flatMap (λy=>oO l y.2)=_;rw[bR,bP]
theorem QI:∀ {l:Nat} {t:Tr l} {k lo hi:Key} {v:Nat × Nat} {gs:List Nat},qJ l t lo hi->qR k->pW lo k->rR k hi->v.1<2147483648->v.2<65536->
  Ty l lo hi (zB l t k v gs).1/\zsU l (zB l t k v gs).1=uY (oO l t) (k,v)
 |0,t,k,lo,hi,v,gs,g,hk,hlo,hhi,hv1,hv2=>by
  have hp:=(Bq.1 g);obtain⟨A,B,j,O,e,_,E⟩:=ND hp.1.1 (k,(v:Val 0));have P:(∀ c∈A,c∈t.ks)/\(∀ c∈B,c∈t.ks)/\tN A/\tN B/\17+4*(A.length+B.length)+(sH 0 A+sH 0 B)<=512:=by
   have i:=hp.2;unfold uu at i;rw[decide_eq_true_eq]at i;have hr:=hp.1.1;rcases E with⟨_,F⟩|⟨_,c,_,F⟩
   .rw[F]at i hr |-
    rw[aA,xH]at i;have:=dM.1 hr;exact⟨λc f=>aF _ f,λc f=>aB _ f,this.1,this.2.1,i⟩
   .rw[F]at i hr |-
    rw[aA,xH,aD,vG]at i;have:=dM.1 hr;exact⟨λc f=>aF _ f,λc f=>aB _ (aj _ f),this.1,(dL.1 this.2.1).2,dB⟩
  obtain⟨Q,S,T,U,b5⟩:=P;have V:(uJ 0 (k,(v:Val 0))).length<=107:=IM hk.2;have X:wP 0 (qo t.ks (k,(v:Val 0))) lo hi:=by
   rw[e];refine⟨WU T U j O,λx o=>?_⟩;rcases ay.1 o with o|o
   .exact hp.1.2 x<|Q x o
   .rcases ak.1 o with rfl|o
    .exact⟨hk,hlo,hhi,hv1,hv2⟩
    .exact hp.1.2 x<|S x o
  have s:=U_ (n:=t.n) (gs:=gs) X (by
   rw[e,aA,xH,aD,vG];omega)
  refine⟨s.1,s.2.trans ?_⟩;exact zu0 hp.1.1 (k,v)
 |l+1,t,k,lo,hi,v,gs,g,hk,hlo,hhi,hv1,hv2=>by
  have hp:=(Bq.1 g);obtain⟨A,x,B,e,J,G,K⟩:=Wn g.AO g.1 hk;have o:t.ks[qP t.ks k]?=some x:=by rw[J,e,bB (ax _),bO];rfl
  have M:∀ m:Val (l+1),t.ks.set (qP t.ks k) (x.1,m)=A++(x.1,m)::B:=λm=>by
   rw[J];conv=>lhs;rw[e]
   rw[dN _ _ (ax _),bO];rfl
  have E:=g.2.2.2.2 A x B e;have Y:pW (Aa (α:=Val (l+1)) lo A x.1) k:=by
   by_cases j:A=[]
   .rw[j];exact hlo
   .rw[xR j];exact G
  have Z:rR k (Ew (α:=Val (l+1)) B hi):=by
   cases B with
   |nil=>exact hhi
   |cons c B=>exact .inr (K c ig)
  obtain⟨H,a0⟩:=QI (gs:=gs) E hk Y Z hv1 hv2;have a1:∀ r∈A.flatMap (λc=>oO l c.2),pM r.1 k:=λr hr=>by
   have z:=g.rise;obtain⟨c,f,hr⟩:=bG.1 hr;obtain⟨A1,A2,p⟩:=dG f;have h:=((g.2.2.2.2 A1 c (A2++x::B) (by rw[e,p];simp)).rows r hr).2.2.1;have a2:x.1≠[]:=(g.2.2.1 A x B e (by rw[p];simp)).1.1;cases A2 with
   |nil=>
    rcases h with h|h
    .exact absurd h a2
    .exact h.le G
   |cons q A2=>
    rcases h with h|h
    .exact absurd h (g.2.2.1 (A1++[c]) q (A2++x::B) (by rw[e,p];simp) ig).1.1
    .exact h.le<|(Al g.AO (show t.ks=(A1++[c])++q::(A2++x::B) by rw[e,p];simp) x ig).pW.trans G
  have a3:∀ r∈B.flatMap (λc=>oO l c.2),pM k r.1:=λr hr=>by
   obtain⟨c,f,hr⟩:=bG.1 hr;obtain⟨B1,B2,p⟩:=dG f;have h:=((g.2.2.2.2 (A++x::B1) c B2 (by rw[e,p];simp)).rows r hr).2.1;rw[xR ig]at h;exact(K c f).le h
  have a4:oO (l+1) t=A.flatMap (λc=>oO l c.2)++(oO l x.2++B.flatMap (λc=>oO l c.2)):=by
   show t.ks.flatMap _=_;rw[e,bR,bP]
  have a5:uY (oO (l+1) t) (k,v)=A.flatMap (λc=>oO l c.2)++(uY (oO l x.2) (k,v)++B.flatMap (λc=>oO l c.2)):=by
   rw[a4];exact Uw a1 a3
  rw[a5,<-a0];rw[zB,o];dsimp only;rcases hres:zB l x.2 k v gs with⟨a6,a7⟩;rw[hres]at H;cases a6 with
  |one t'=>
   dsimp only;have C:=M t';refine⟨?_,?_⟩
   .show qJ (l+1) ⟨t.n,t.ks.set (qP t.ks k) (x.1,t')⟩ lo hi
    rw[C];refine Bq.2 ⟨?_,?_⟩
    .have:=Tw (Mr:=[]) (e▸hp.1) (JG H)
     exact this
    .exact(zpK (A:=A) (B:=B) (x:=x) (m:=t')).trans (by rw[<-e];exact hp.2)
   .show oO (l+1) ⟨t.n,t.ks.set (qP t.ks k) (x.1,t')⟩=_
    rw[C];exact WY (y:=(x.1,t'))
  |two a k2 b=>
   dsimp only;have C:=M a;rw[C];obtain⟨I,u,N,a8,a9⟩:=H;have b0:∀ c∈A,pM c.1 k2:=λc f=>by
    have j:A≠[]:=λg=>by rw[g]at f;cases f
    rw[xR j]at u;exact(Re g.AO e c f).trans u
   have b1:pM x.1 k2:=by
    by_cases j:A=[]
    .obtain⟨q,r,p,D⟩:=g.1
     rw[e,j]at p;cases p;rw[D];exact Nn I.1
    .rw[xR j]at u;exact u
   have b2:∀ c∈B,pM k2 c.1:=λc f=>by
    cases B with
    |nil=>cases f
    |cons q B=>
     have D:pM k2 q.1:=by
      rcases N with z|z
      .exact absurd z (g.2.2.1 (A++[x]) q B kz ig).1.1
      .exact z
     rcases ak.1 f with rfl|f
     .exact D
     .exact D.trans<|Al g.AO (show t.ks=(A++[x])++q::B by rw[e];simp) c f
   have hi:=Y_ (A:=A) (B:=B) (x:=(x.1,(a:Val (l+1)))) (k:=k2) (v:=(b:Val (l+1))) b0 b1 b2;rw[hi];have b3:=Oo (L:=[([],(a:Val (l+1)))]) (R:=[]) (y:=(k2,(b:Val (l+1)))) (JG a8) (JG a9) I u N;have b4:=Tw (x:=x) (m0:=a) (Mr:=[(k2,(b:Val (l+1)))]) (e▸hp.1) b3;have i:=hp.2;unfold uu at i;rw[decide_eq_true_eq,e,aA,xH,aD,vG,EQ]at i;have V:(uJ (l+1) (k2,(b:Val (l+1)))).length<=107:=IM I.2;have s:=U_ (n:=t.n) (gs:=a7) b4 (by
    rw[aA,xH,aD,vG,EQ,gK,aD,vG];dsimp only;omega)
   refine⟨s.1,s.2.trans ?_⟩;refine(WY (y:=(x.1,a))).trans ?_;rw[gK,bP];show _=_++((oO l a++oO l b)++_);rw[aH]
abbrev V3:=Nat × Nat × Nat
def v3:(l:Nat)->Val l->V3
 |0,v=>(v.1,v.2,0)
 |_+1,v=>(0,0,v.n)
structure MN where
 n:Nat
 lv:Nat
 cs:List (Key × V3)
def toM(l:Nat)(ks:List (Key × Val l)):List (Key × V3):=ks.map λx=>(x.1,v3 l x.2)
def nX(l:Nat)(t:Tr l):MN:=⟨t.n,l,toM l t.ks⟩
def qh(lv:Nat)(x:Key × V3):List UInt8:=u8 x.1.length::(x.1++if lv=0 then oH 4 x.2.1++oH 2 x.2.2.1 else oH 4 x.2.2.2)
def rW(x:MN):View:=⟨3,0,some [u8 x.lv]::x.cs.map λc=>some (qh x.lv c)⟩
def uM(lv:Nat)(cs:List (Key × V3)):Bool:=decide (17+4*cs.length+(cs.map λc=>(qh lv c).length).sum<=512)
theorem Ff:∀ {l:Nat} (x:Key × Val l),qh l (x.1,v3 l x.2)=uJ l x
 |0,_=>rfl
 |_+1,_=>rfl
theorem Xc{l:Nat}(ks:List (Key × Val l)):(toM l ks).map (qh l)=ks.map (uJ l):=by
 unfold toM;rw[dJ];exact iq λx _=>Ff x
theorem CW(l:Nat)(t:Tr l):rW (nX l t)=yn l t:=by
 unfold rW yn nX;dsimp only;have:=congrArg (List.map some) (Xc t.ks);rw[dJ,dJ]at this;exact congrArg (λa=>View.mk 3 0 (some [u8 l]::a)) this
theorem Xn(l:Nat)(ks:List (Key × Val l)):uM l (toM l ks)=uu l ks:=by
 unfold uM uu sH;have:=congrArg (List.map List.length) (Xc ks);rw[dJ,dJ]at this;have e:((toM l ks).map λc=>(qh l c).length)=ks.map λx=>(uJ l x).length:=this
 rw[e,toM,aP]
theorem Vv{α β:Type}(f:α->β)(ks:List (Key × α))(k:Key):pY (ks.map λx=>(x.1,f x.2)) k=pY ks k:=by
 unfold pY;rw[List.takeWhile_map,aP]
 rfl
theorem YY{α β:Type}(f:α->β)(ks:List (Key × α))(k:Key):isK (ks.map λx=>(x.1,f x.2)) k=isK ks k:=by
 unfold isK;rw[Vv,aV];cases ks[pY ks k]?<;>rfl
theorem zgF{α β:Type}(f:α->β)(x:α):∀ (l:List α) (i:Nat),(l.insertIdx i x).map f=(l.map f).insertIdx i (f x)
 |_,0=>rfl
 |[],i+1=>rfl
 |a::l,i+1=>by simp only[jf,bi,zgF f x l i]
theorem zpL{α β:Type}(f:α->β)(ks:List (Key × α))(x:Key × α):qo (ks.map λx=>(x.1,f x.2)) (x.1,f x.2)=(qo ks x).map λx=>(x.1,f x.2):=by
 unfold qo;dsimp only;rw[YY,Vv]
 split
 .rw[fO]
 .rw[zgF]
def vJ(lv:Nat)(cs:List (Key × V3)):Nat:=Ef (cs.map λc=>(qh lv c).length)
theorem Kr(l:Nat)(ks:List (Key × Val l)):vJ l (toM l ks)=yS l ks:=by
 unfold vJ yS;have:=congrArg (List.map List.length) (Xc ks);rw[dJ,dJ]at this;exact congrArg Ef this
def rZ(lv:Nat)(cs:List (Key × V3)):List (Key × V3):=if lv=0 then cs else match cs with|[]=>[]|x::r=>([],x.2)::r
theorem Vx:∀ (l:Nat) (ks:List (Key × Val l)),rZ l (toM l ks)=toM l (ve l ks)
 |0,_=>rfl
 |_+1,[]=>rfl
 |_+1,_::_=>rfl
def wM(cs:List (Key × V3)):Key:=(cs.head?.map Prod.fst).getD []
def qV:List MN->Key × V3->List Nat->List MN × Option (Key × V3) × List Nat
 |[],c,gs=>([],some c,gs)
 |x::up,c,gs=>
  if uM x.lv (qo x.cs c)=true then([⟨x.n,x.lv,qo x.cs c⟩],none,gs)
  else
   let r:=qV up (wM ((qo x.cs c).drop (vJ x.lv (qo x.cs c))),(0,0,gs.headD 0)) gs.tail
   (⟨x.n,x.lv,(qo x.cs c).take (vJ x.lv (qo x.cs c))⟩::⟨gs.headD 0,x.lv,rZ x.lv ((qo x.cs c).drop (vJ x.lv (qo x.cs c)))⟩::r.1,r.2.1,r.2.2)
theorem Zk:∀ (a b:List MN) (c:Key × V3) (gs:List Nat),qV (a++b) c gs=match qV a c gs with
  |(o,none,e)=>(o,none,e)
  |(o,some f,e)=>(o++(qV b f e).1,(qV b f e).2.1,(qV b f e).2.2)
 |[],b,c,gs=>by rw[aU,qV];rfl
 |x::a,b,c,gs=>by
  rw[bL,qV,qV]
  by_cases g:uM x.lv (qo x.cs c)=true
  .rw[if_pos g,if_pos g]
  .rw[if_neg g,if_neg g]
   dsimp only;rw[Zk a b];rcases qV a _ gs.tail with⟨o,_|f,e⟩
   .rfl
   .rfl
def uj:(l:Nat)->Tr l->Key->List MN
 |0,t,_=>[nX 0 t]
 |l+1,t,k=>nX (l+1) t::match t.ks[qP t.ks k]? with|some x=>uj l x.2 k|none=>[]
def Fz(l:Nat):EY l->List Nat
 | .one t=>om l t
 | .two a _ b=>om l a++om l b
def Ei(S:Nat->View)(l:Nat):EY l->Prop
 | .one t=>vg S l t
 | .two a _ b=>vg S l a/\vg S l b
def wS(S:Nat->View)(o:List MN):Nat->View:=o.foldl (λS x=>qG S x.n (rW x)) S
theorem Sy(S:Nat->View)(a b:List MN):wS S (a++b)=wS (wS S a) b:=fG ..
theorem o_{n:Nat}:∀ {o:List MN} {S:Nat->View},(∀ x∈o,x.n≠n)->wS S o n=S n
 |[],_,_=>rfl
 |x::o,S,h=>(o_ (o:=o) (S:=qG S x.n (rW x)) λa c=>h a (by simp[c])).trans (tF λe=>h x ig e.symm)
structure Lt(l:Nat)(t:Tr l)(gs:List Nat)(o:List MN)(c':Option (Key × V3))(gs':List Nat)(res:EY l):Prop where
 us:∃ us,gs=us++gs'/\us.length<=l+1/\(Fz l res).Perm (us++om l t)
 out:∀ x∈o,x.n∈Fz l res
 hold:∀ S,vg S l t->Ei (wS S o) l res
 car:match res with| .one t'=>c'=none/\t'.n=t.n| .two a k b=>c'=some (k,(0,0,b.n))/\a.n=t.n
theorem M_{l:Nat}{n g:Nat}{ks ks':List (Key × Val l)}{c:Key × V3}{gs:List Nat}(hi:qo (toM l ks) c=toM l ks'):qV [⟨n,l,toM l ks⟩] c (g::gs)=match wU l n ks' (g::gs)with
  |(.one t,r)=>([nX l t],none,r)
  |(.two a k b,r)=>([nX l a,nX l b],some (k,(0,0,b.n)),r):=by
 rw[qV];dsimp only;rw[hi,Xn,Kr];unfold wU
 by_cases c:uu l ks'=true
 .rw[if_pos c,if_pos c];rfl
 .rw[if_neg c,if_neg c]
  dsimp only;have e:(toM l ks').take (yS l ks')=toM l (ks'.take (yS l ks')):=by unfold toM;rw[fA]
  have f:(toM l ks').drop (yS l ks')=toM l (ks'.drop (yS l ks')):=by unfold toM;rw[fB]
  have g:wM (toM l (ks'.drop (yS l ks')))=((ks'.drop (yS l ks')).head?.map Prod.fst).getD []:=by
   unfold wM toM;rw[List.head?_map];cases(ks'.drop (yS l ks')).head?<;>rfl
  rw[e,f,g,Vx]
  rfl
def qj:(l:Nat)->List (Key × Val l)->List Nat
 |0,_=>[]
 |l+1,ks=>ks.flatMap λx=>om l x.2
def zY(S:Nat->View):(l:Nat)->List (Key × Val l)->Prop
 |0,_=>True
 |l+1,ks=>∀ x∈ks,vg S l x.2
theorem zq:∀ {l:Nat} {t:Tr l},om l t=t.n::qj l t.ks
 |0,_=>rfl
 |_+1,_=>rfl
theorem BR{S:Nat->View}:∀ {l:Nat} {t:Tr l},vg S l t↔S t.n=yn l t/\zY S l t.ks
 |0,_=>⟨λa=>⟨a,trivial⟩,λa=>a.1⟩
 |_+1,_=>Iff.rfl
theorem NI:∀ {l:Nat} (a b:List (Key × Val l)),qj l (a++b)=qj l a++qj l b
 |0,_,_=>rfl
 |_+1,_,_=>bR
theorem Uj:∀ {l:Nat} (a:List (Key × Val l)),qj l (ve l a)=qj l a
 |0,_=>rfl
 |_+1,[]=>rfl
 |_+1,_::_=>rfl
theorem Gc{S:Nat->View}:∀ {l:Nat} {a b:List (Key × Val l)},zY S l (a++b)↔zY S l a/\zY S l b
 |0,_,_=>⟨λ_=>⟨trivial,trivial⟩,λ_=>trivial⟩
 |_+1,_,_=>⟨λa=>⟨λx c=>a x (aF _ c),λx c=>a x (aB _ c)⟩,λa x c=>(ay.1 c).elim (a.1 x) (a.2 x)⟩
theorem Zp{S:Nat->View}:∀ {l:Nat} {a:List (Key × Val l)},zY S l a->zY S l (ve l a)
 |0,_,_=>trivial
 |_+1,[],h=>h
 |l+1,x::r,h=>λc a=>by
  rcases ak.1 a with rfl|a
  .exact h x ig
  .exact h c kE
theorem zY.frame{S S':Nat->View}:∀ {l:Nat} {ks:List (Key × Val l)},zY S l ks->(∀ n∈qj l ks,S' n=S n)->zY S' l ks
 |0,_,_,_=>trivial
 |_+1,_,h,he=>λx a=>(h x a).frame λn c=>he n (bG.2 ⟨x,a,c⟩)
theorem Ku{l n g:Nat}{ks':List (Key × Val l)}{gs:List Nat}:
  ∃ us r,(g::gs)=us++r/\us.length<=1/\(wU l n ks' (g::gs)).2=r/\(Fz l (wU l n ks' (g::gs)).1).Perm (us++n::qj l ks')/\
  match (wU l n ks' (g::gs)).1 with
  | .one t=>t.n=n
  | .two a _ _=>a.n=n:=by
 unfold wU
 by_cases c:uu l ks'=true
 .rw[if_pos c]
  refine⟨[],g::gs,rfl,aC _,rfl,?_,rfl⟩;show(om l ⟨n,ks'⟩).Perm _;rw[zq];exact gM _
 .rw[if_neg c]
  dsimp only;obtain⟨m,e⟩:=aa (yS l ks');rw[e];have f:qj l ks'=qj l (ks'.take m)++qj l (ks'.drop m):=by rw[<-NI,bM]
  refine⟨[g],gs,rfl,ax _,rfl,?_,rfl⟩;show(om l ⟨n,ks'.take m⟩++om l ⟨g,ve l (ks'.drop m)⟩).Perm _;rw[zq,zq,Uj,f];have h:(n::qj l (ks'.take m)++g::qj l (ks'.drop m)).Perm (g::(n::qj l (ks'.take m)++qj l (ks'.drop m))):=fU;exact h
theorem DI{l n g:Nat}{ks':List (Key × Val l)}{gs:List Nat}{S:Nat->View}(hk:zY S l ks')(hn:n∉qj l ks')(hg:g∉qj l ks')(hng:n≠g):
  ∃ us r,(g::gs)=us++r/\us.length<=1/\(wU l n ks' (g::gs)).2=r/\(Fz l (wU l n ks' (g::gs)).1).Perm (us++n::qj l ks')/\
  match (wU l n ks' (g::gs)).1 with
  | .one t=>Ei (wS S [nX l t]) l (.one t)/\t.n=n
  | .two a k b=>Ei (wS S [nX l a,nX l b]) l (.two a k b)/\a.n=n:=by
 unfold wU
 by_cases j:uu l ks'=true
 .rw[if_pos j]
  refine⟨[],g::gs,rfl,aC _,rfl,?_,?_,rfl⟩
  .show(om l ⟨n,ks'⟩).Perm _
   rw[zq];exact gM _
  .show vg (qG S n (rW (nX l ⟨n,ks'⟩))) l ⟨n,ks'⟩
   rw[CW];exact BR.2 ⟨uU ..,hk.frame λm f=>tF λe=>hn (e▸f)⟩
 .rw[if_neg j]
  dsimp only;obtain⟨m,f⟩:=aa (yS l ks');rw[f];have o:qj l ks'=qj l (ks'.take m)++qj l (ks'.drop m):=by rw[<-NI,bM]
  have h:=hk;rw[<-bM m ks',Gc]at h;rw[o]at hn hg;refine⟨[g],gs,rfl,ax _,rfl,?_,⟨?_,?_⟩,rfl⟩
  .show(om l ⟨n,ks'.take m⟩++om l ⟨g,ve l (ks'.drop m)⟩).Perm _
   rw[zq,zq,Uj,o];have p:(n::qj l (ks'.take m)++g::qj l (ks'.drop m)).Perm (g::(n::qj l (ks'.take m)++qj l (ks'.drop m))):=fU;exact p
  .show vg (qG (qG S n (rW (nX l ⟨n,ks'.take m⟩))) g (rW (nX l ⟨g,ve l (ks'.drop m)⟩))) l ⟨n,ks'.take m⟩
   rw[CW];refine BR.2 ⟨(tF hng).trans (uU ..),h.1.frame λi c=>(tF λe=>hg ?_).trans (tF λe=>hn ?_)⟩
   .rw[<-e];exact aF _ c
   .rw[<-e];exact aF _ c
  .show vg (qG (qG S n (rW (nX l ⟨n,ks'.take m⟩))) g (rW (nX l ⟨g,ve l (ks'.drop m)⟩))) l ⟨g,ve l (ks'.drop m)⟩
   rw[CW l ⟨g,_⟩];refine BR.2 ⟨uU ..,(Zp h.2).frame λi c=>?_⟩;rw[Uj]at c;refine(tF λe=>hg ?_).trans (tF λe=>hn ?_)
   .rw[<-e];exact aB _ c
   .rw[<-e];exact aB _ c
theorem VW{l:Nat}{t:Tr (l+1)}{lo hi k2:Key}{A B:List (Key × Val (l+1))}{x:Key × Val (l+1)}{a b:Val (l+1)}(h:qJ (l+1) t lo hi)(e:t.ks=A++x::B)(hr:Ty l (Aa (α:=Val (l+1)) lo A x.1) (Ew (α:=Val (l+1)) B hi) (.two a k2 b)):
  qo (A++(x.1,a)::B) (k2,b)=A++(x.1,a)::(k2,b)::B:=by
 obtain⟨o,f,p,q,s⟩:=hr;refine Y_ (x:=(x.1,a)) (λk c=>?_) ?_ λk c=>?_
 .have g:A≠[]:=λh=>by rw[h]at c;cases c
  rw[xR g]at f;exact(Re h.AO e k c).trans f
 .by_cases g:A=[]
  .obtain⟨i,r,m,j⟩:=h.1
   rw[e,g]at m;cases m;show pM x.1 k2;rw[j];exact Nn o.1
  .rw[xR g]at f;exact f
 .cases B with
  |nil=>cases c
  |cons i B=>
   have j:pM k2 i.1:=by
    rcases p with l|l
    .exact absurd l (h.2.2.1 (A++[x]) i B kz ig).1.1
    .exact l
   rcases ak.1 c with rfl|c
   .exact j
   .exact j.trans<|Al h.AO (show t.ks=(A++[x])++i::B by rw[e];simp) k c
theorem Wm{l:Nat}{t:Tr (l+1)}{lo hi k:Key}(h:qJ (l+1) t lo hi)(hk:qR k)(hlo:pW lo k)(hhi:rR k hi):∃ A x B,t.ks=A++x::B/\qP t.ks k=A.length/\t.ks[qP t.ks k]?=some x/\pW (Aa (α:=Val (l+1)) lo A x.1) k/\rR k (Ew (α:=Val (l+1)) B hi)/\
  (∀ m:Val (l+1),t.ks.set (qP t.ks k) (x.1,m)=A++(x.1,m)::B):=by
 obtain⟨A,x,B,e,a,f,g⟩:=Wn h.AO h.1 hk;refine⟨A,x,B,e,a,?_,?_,?_,λm=>?_⟩
 .rw[a,e,bB (ax _),bO];rfl
 .by_cases c:A=[]
  .rw[c];exact hlo
  .rw[xR c];exact f
 .cases B with
  |nil=>exact hhi
  |cons y B=>exact .inr (g y ig)
 .rw[a];conv=>lhs;rw[e]
  rw[dN _ _ (ax _),bO];rfl
theorem Jw:∀ {l:Nat} {t:Tr l} {k lo hi:Key} {v:Nat × Nat} {gs:List Nat},qJ l t lo hi->qR k->pW lo k->rR k hi->v.1<2147483648->v.2<65536->(om l t).Nodup->gs.Nodup->(∀ g∈gs,g∉om l t)->l+1<=gs.length->
  Lt l t gs (qV (uj l t k).reverse (k,(v.1,v.2,0)) gs).1 (qV (uj l t k).reverse (k,(v.1,v.2,0)) gs).2.1 (qV (uj l t k).reverse (k,(v.1,v.2,0)) gs).2.2 (zB l t k v gs).1/\(zB l t k v gs).2=(qV (uj l t k).reverse (k,(v.1,v.2,0)) gs).2.2
 |0,t,k,lo,hi,v,g::gs,F,hk,hlo,hhi,hv1,hv2,hnd,hgn,hgf,hgl=>by
  have hi:=zpL (v3 0) t.ks (k,(v:Val 0));have X:=M_ (n:=t.n) (g:=g) (gs:=gs) (ks:=t.ks) (ks':=qo t.ks (k,(v:Val 0))) (c:=(k,(v.1,v.2,0))) hi;have d7:t.n≠g:=λe=>hgf g ig (by rw[<-e];exact vH)
  have q:=λS=>DI (S:=S) (l:=0) (n:=t.n) (g:=g) (gs:=gs) (ks':=qo t.ks (k,(v:Val 0))) trivial (λF=>by cases F) (λF=>by cases F) d7
  show Lt 0 t (g::gs) (qV [⟨t.n,0,toM 0 t.ks⟩] _ _).1 (qV [⟨t.n,0,toM 0 t.ks⟩] _ _).2.1 (qV [⟨t.n,0,toM 0 t.ks⟩] _ _).2.2 (wU 0 t.n (qo t.ks (k,(v:Val 0))) (g::gs)).1/\(wU 0 t.n (qo t.ks (k,(v:Val 0))) (g::gs)).2=(qV [⟨t.n,0,toM 0 t.ks⟩] _ _).2.2;rw[X];clear X hi;rcases hres:wU 0 t.n (qo t.ks (k,(v:Val 0))) (g::gs)with⟨H,r⟩;rw[hres]at q;dsimp only at q;cases H with
  |one t'=>
   obtain⟨p,d8,I,J,O,P,_,K⟩:=q (λ_=>sJ 0);refine⟨⟨⟨p,by rw[I,O],dB,P⟩,λx L=>?_,λS y=>?_,rfl,K⟩,rfl⟩
   .rw[aJ.1 L];exact vH (t:=t')
   .obtain⟨_,_,_,_,_,_,M,_⟩:=q S
    exact M
  |two a k2 b=>
   obtain⟨p,d8,I,J,O,P,_,K⟩:=q (λ_=>sJ 0);refine⟨⟨⟨p,by rw[I,O],dB,P⟩,λx L=>?_,λS y=>?_,rfl,K⟩,rfl⟩
   .show _∈om 0 a++om 0 b
    simp only[ak,bq,or_false]at L;rcases L with rfl|rfl
    .exact aF _<|vH (t:=a)
    .exact aB _<|vH (t:=b)
   .obtain⟨_,_,_,_,_,_,M,_⟩:=q S
    exact M
 |l+1,t,k,lo,hi,v,gs,F,hk,hlo,hhi,hv1,hv2,hnd,hgn,hgf,hgl=>by
  obtain⟨A,x,B,e,q,L,b6,b7,b8⟩:=Wm F hk hlo hhi;have c4:=F.2.2.2.2 A x B e;have d9:qj (l+1) t.ks=qj (l+1) A++(om l x.2++qj (l+1) B):=by
   rw[e];show(A++x::B).flatMap _=_;rw[bR,bP];rfl
  have D:om (l+1) t=t.n::(qj (l+1) A++(om l x.2++qj (l+1) B)):=by rw[zq,d9]
  rw[D]at hnd;have a2:=cB.1 hnd;have c5:=bU.1 a2.2;have c6:=bU.1 c5.2.1;have e0:∀ g∈gs,g∉om l x.2:=λg a3 i=>hgf g a3 (by rw[D];simp[i])
  obtain⟨G,a4⟩:=Jw (gs:=gs) c4 hk b6 b7 hv1 hv2 c6.1 hgn e0 dB;have a5:=(QI (gs:=gs) c4 hk b6 b7 hv1 hv2).1;have e1:uj (l+1) t k=nX (l+1) t::uj l x.2 k:=by rw[uj,L]
  rw[e1,iU,Zk];rw[zB,L];dsimp only;rcases hpu:qV (uj l x.2 k).reverse (k,v.1,v.2,0) gs with⟨o,f3,f4⟩;rcases hin:zB l x.2 k v gs with⟨H,c7⟩;rw[hpu,hin]at G a4;rw[hin]at a5;dsimp only at G a4 a5;subst a4;obtain⟨p,Q,f5,a6⟩:=G.us;have c8:∀ g∈p,g∈gs:=λg a3=>by rw[Q];exact aF _ a3
  have a7:∀ h∈o,h.n∈p\/h.n∈om l x.2:=λh f=>ay.1 (a6.mem_iff.1 (G.out h f))
  have T:∀ S (m:Nat),m∈om (l+1) t->m∉om l x.2->wS S o m=S m:=λS m i e2=>o_ λh f J=>by
   rcases a7 h f with j|j
   .exact hgf h.n (c8 _ j)<|J▸i
   .exact e2<|J▸j
  have Y:∀ m∈qj (l+1) A,m∈om (l+1) t/\m∉om l x.2:=λm i=>⟨by rw[D];simp[i],λs=>c5.2.2 m i m (by simp[s]) rfl⟩
  have Z:∀ m∈qj (l+1) B,m∈om (l+1) t/\m∉om l x.2:=λm i=>⟨by rw[D];simp[i],λs=>c6.2.2 m s m i rfl⟩
  have c9:t.n∈om (l+1) t/\t.n∉om l x.2:=⟨vH,λs=>a2.1 (by simp[s])⟩;cases H with
  |one t'=>
   obtain⟨rfl,a8⟩:=G.car;dsimp only;have b0:=b8 t';obtain⟨z,a0⟩:∃ z:Key × Val (l+1),z=@Prod.mk Key (Val (l+1)) x.1 t':=⟨_,rfl⟩;rw[b0,<-a0];have d0:(Fz (l+1) (.one ⟨t.n,A++z::B⟩)).Perm (p++om (l+1) t):=by
    show(om (l+1) ⟨t.n,A++z::B⟩).Perm _;have I:om (l+1) ⟨t.n,A++z::B⟩=t.n::(qj (l+1) A++(om l t'++qj (l+1) B)):=by
     rw[zq,NI,a0];rfl
    have e3:(om l t').Perm (p++om l x.2):=a6;rw[I,D];have j:(qj (l+1) A++(om l t'++qj (l+1) B)).Perm (qj (l+1) A++((p++om l x.2)++qj (l+1) B)):=(e3.append_right _).append_left _;have s:(qj (l+1) A++((p++om l x.2)++qj (l+1) B)).Perm (p++(qj (l+1) A++(om l x.2++qj (l+1) B))):=by
     rw[aH];exact iA ..
    exact((j.trans s).cons _).trans fU.symm
   refine⟨⟨⟨p,Q,dB,d0⟩,λh f=>?_,λS y=>?_,rfl,rfl⟩,rfl⟩
   .rw[d0.mem_iff,D]
    rcases a7 h f with j|j
    .simp[j]
    .simp[j]
   .obtain⟨d1,E⟩:=BR.1 y
    rw[e,Gc]at E;have b1:vg S l x.2:=E.2 x ig;have b2:zY S (l+1) B:=λh f=>E.2 h lh
    have a1:=G.hold S b1;show vg (wS S o) (l+1) ⟨t.n,A++z::B⟩;refine BR.2 ⟨?_,Gc.2 ⟨E.1.frame λm i=>T S m (Y m i).1 (Y m i).2,λh f=>?_⟩⟩
    .rw[T S t.n c9.1 c9.2,d1]
     unfold yn;dsimp only;rw[e,bJ,bJ,bi,bi];have:uJ (l+1) z=uJ (l+1) x:=by
      unfold uJ;rw[a0];show u8 x.1.length::(x.1++oH 4 t'.n)=u8 x.1.length::(x.1++oH 4 (show Tr l from x.2).n);rw[a8]
     rw[this]
    .rcases ak.1 f with rfl|f
     .rw[a0];exact a1
     .exact(b2 h f).frame λm i=>T S m (Z m (bG.2 ⟨h,f,i⟩)).1 (Z m (bG.2 ⟨h,f,i⟩)).2
  |two a k2 b=>
   obtain⟨rfl,a8⟩:=G.car;dsimp only;have b0:=b8 a;obtain⟨u,U⟩:∃ z:Key × Val (l+1),z=@Prod.mk Key (Val (l+1)) x.1 a:=⟨_,rfl⟩;obtain⟨C,V⟩:∃ z:Key × Val (l+1),z=@Prod.mk Key (Val (l+1)) k2 b:=⟨_,rfl⟩;have b3:=VW (a:=a) (b:=b) F e a5;rw[b0,<-U,<-V];rw[<-U,<-V]at b3;rw[b3];have e4:(om l a++om l b).Perm (p++om l x.2):=a6;have e5:qj (l+1) (A++u::C::B)=qj (l+1) A++((om l a++om l b)++qj (l+1) B):=by
    rw[NI,U,V,aH];rfl
   have b4:(qj (l+1) (A++u::C::B)).Perm (p++(qj (l+1) A++(om l x.2++qj (l+1) B))):=by
    rw[e5];refine((e4.append_right _).append_left _).trans ?_;rw[aH];exact iA ..
   obtain⟨g,R,e6⟩:∃ g R,c7=g::R:=by
    cases c7 with
    |nil=>rw[Q,aA,aY]at hgl;omega
    |cons g r=>exact⟨g,r,rfl⟩
   subst e6;have d2:g∈gs:=by rw[Q];simp
   have e7:g∉p:=λi=>by
    rw[Q]at hgn;exact(bU.1 hgn).2.2 g i g ig rfl
   have e8:t.n∉qj (l+1) (A++u::C::B):=λi=>by
    rcases ay.1 (b4.mem_iff.1 i)with j|j
    .exact hgf t.n (c8 _ j) vH
    .exact a2.1 j
   have e9:g∉qj (l+1) (A++u::C::B):=λi=>by
    rcases ay.1 (b4.mem_iff.1 i)with j|j
    .exact e7 j
    .exact hgf g d2 (by rw[D];exact aj _ j)
   have f0:t.n≠g:=λJ=>hgf g d2 (by rw[<-J];exact vH)
   have f1:qo (toM (l+1) t.ks) (k2,(0,0,b.n))=toM (l+1) (A++u::C::B):=by
    have j:toM (l+1) t.ks=toM (l+1) (A++u::B):=by
     unfold toM;rw[e,bJ,bJ,bi,bi,U];show _=List.map _ A++(x.1,(0,0,a.n))::List.map _ B;rw[a8];rfl
    have s:=zpL (v3 (l+1)) (A++u::B) C;rw[b3]at s;rw[j];rw[V]at s |-;exact s
   have X:=M_ (l:=l+1) (n:=t.n) (g:=g) (gs:=R) (ks:=t.ks) f1;show Lt (l+1) t gs (o++(qV [⟨t.n,l+1,toM (l+1) t.ks⟩] _ _).1) (qV [⟨t.n,l+1,toM (l+1) t.ks⟩] _ _).2.1 (qV [⟨t.n,l+1,toM (l+1) t.ks⟩] _ _).2.2 _/\_=(qV [⟨t.n,l+1,toM (l+1) t.ks⟩] _ _).2.2;rw[X];have f2:∀ S,vg S (l+1) t->zY (wS S o) (l+1) (A++u::C::B):=λS y=>by
    obtain⟨d1,E⟩:=BR.1 y;rw[e,Gc]at E;have b1:vg S l x.2:=E.2 x ig;have b2:zY S (l+1) B:=λh f=>E.2 h lh
    have a1:=G.hold S b1;refine Gc.2 ⟨E.1.frame λm i=>T S m (Y m i).1 (Y m i).2,λh f=>?_⟩;rcases ak.1 f with rfl|f
    .rw[U];exact a1.1
    .rcases ak.1 f with rfl|f
     .rw[V];exact a1.2
     .exact(b2 h f).frame λm i=>T S m (Z m (bG.2 ⟨h,f,i⟩)).1 (Z m (bG.2 ⟨h,f,i⟩)).2
   have q:=λS y=>DI (S:=wS S o) (l:=l+1) (n:=t.n) (g:=g) (gs:=R) (ks':=A++u::C::B) (f2 S y) e8 e9 f0
   have f6:=q;rcases hres:wU (l+1) t.n (A++u::C::B) (g::R)with⟨H,r⟩;rw[hres]at q;dsimp only at q;have d3:=Ku (l:=l+1) (n:=t.n) (g:=g) (gs:=R) (ks':=A++u::C::B);rw[hres]at d3;obtain⟨N,f7,I,J,O,P,K⟩:=d3;dsimp only at O P K;subst O;have d4:gs=(p++N)++r:=by rw[Q,I,aH]
   have b5:(Fz (l+1) H).Perm ((p++N)++om (l+1) t):=by
    refine P.trans ?_;rw[D];have j:(N++t.n::qj (l+1) (A++u::C::B)).Perm (N++t.n::(p++(qj (l+1) A++(om l x.2++qj (l+1) B)))):=(b4.cons _).append_left _;have s:(N++t.n::(p++(qj (l+1) A++(om l x.2++qj (l+1) B)))).Perm (N++(p++t.n::(qj (l+1) A++(om l x.2++qj (l+1) B)))):=fU.symm.append_left _;refine(j.trans s).trans ?_;rw[aH];exact iA ..
   have d5:(p++N).length<=l+1+1:=by rw[aA];omega
   have d6:∀ h∈o,h.n∈Fz (l+1) H:=λh f=>by
    rw[b5.mem_iff,D];rcases a7 h f with j|j
    .simp[j]
    .simp[j]
   cases H with
   |one t9=>
    refine⟨⟨⟨_,d4,d5,b5⟩,λh f=>?_,λS y=>?_,rfl,K⟩,rfl⟩
    .rcases ay.1 f with f|f
     .exact d6 h f
     .rw[aJ.1 f];exact vH (t:=t9)
    .obtain⟨_,_,_,_,_,_,M,_⟩:=q S y
     dsimp only;rw[Sy];exact M
   |two a9 k9 b9=>
    refine⟨⟨⟨_,d4,d5,b5⟩,λh f=>?_,λS y=>?_,rfl,K⟩,rfl⟩
    .rcases ay.1 f with f|f
     .exact d6 h f
     .show _∈om (l+1) a9++om (l+1) b9
      simp only[ak,bq,or_false]at f;rcases f with rfl|rfl
      .exact aF _<|vH (t:=a9)
      .exact aB _<|vH (t:=b9)
    .obtain⟨_,_,_,_,_,_,M,_⟩:=q S y
     dsimp only;rw[Sy];exact M
def wD:(l:Nat)->Tr l->Prop
 |0,t=>t.ks≠[]
 |l+1,t=>∀ x∈t.ks,wD l x.2
def JJ(l:Nat):EY l->Prop
 | .one t=>wD l t
 | .two a _ b=>wD l a/\wD l b
theorem Ze:∀ {l n:Nat} {ks:List (Key × Val l)},wD l ⟨n,ks⟩->wD l ⟨n,ve l ks⟩
 |0,_,_,h=>h
 |_+1,_,[],h=>h
 |l+1,_,x::r,h=>λc a=>by
  rcases ak.1 a with rfl|a
  .exact h x ig
  .exact h c kE
theorem u_:∀ {l a b:Nat} {L ks:List (Key × Val l)},wD l ⟨a,ks⟩->(∀ x∈L,x∈ks)->L≠[]->wD l ⟨b,L⟩
 |0,_,_,_,_,_,_,h=>h
 |_+1,_,_,_,_,h,hs,_=>λx a=>h x (hs x a)
theorem znb{l n:Nat}{ks:List (Key × Val l)}{gs:List Nat}{lo hi:Key}(h:wP l ks lo hi)(h1:17+4*ks.length+sH l ks<=623)(hf:wD l ⟨n,ks⟩):JJ l (wU l n ks gs).1:=by
 unfold wU
 by_cases a:uu l ks=true
 .rw[if_pos a];exact hf
 .rw[if_neg a]
  obtain⟨L,f,R,e,g,i,_,_⟩:=XI h.len h1 a;dsimp only;have j:ks.take L.length=L:=by rw[e];exact dY
  have k:ks.drop L.length=f::R:=by rw[e];exact dK
  rw[i,j,k];exact⟨u_ hf (λx c=>by rw[e];exact aF _ c) g,Ze (u_ hf (λx c=>by rw[e];exact aB _ c) ig)⟩
theorem zu4{t:Tr 0}{k lo hi:Key}{v:Nat × Nat}(h:qJ 0 t lo hi)(hk:qR k)(hlo:pW lo k)(hhi:rR k hi)(hv1:v.1<2147483648)(hv2:v.2<65536):
  wP 0 (qo t.ks (k,(v:Val 0))) lo hi/\17+4*(qo t.ks (k,(v:Val 0))).length+sH 0 (qo t.ks (k,(v:Val 0)))<=623:=by
 have hp:=(Bq.1 h);obtain⟨A,B,j,l,e,_,m⟩:=ND hp.1.1 (k,(v:Val 0));have o:(∀ a∈A,a∈t.ks)/\(∀ a∈B,a∈t.ks)/\tN A/\tN B/\17+4*(A.length+B.length)+(sH 0 A+sH 0 B)<=512:=by
  have c:=hp.2;unfold uu at c;rw[decide_eq_true_eq]at c;have hr:=hp.1.1;rcases m with⟨_,i⟩|⟨_,a,_,i⟩
  .rw[i]at c hr |-
   rw[aA,xH]at c;have:=dM.1 hr;exact⟨λa f=>aF _ f,λa f=>aB _ f,this.1,this.2.1,c⟩
  .rw[i]at c hr |-
   rw[aA,xH,aD,vG]at c;have:=dM.1 hr;exact⟨λa f=>aF _ f,λa f=>aB _ (aj _ f),this.1,(dL.1 this.2.1).2,dB⟩
 obtain⟨p,q,r,s,u⟩:=o;have y:(uJ 0 (k,(v:Val 0))).length<=107:=IM hk.2;rw[e];refine⟨⟨WU r s j l,λx g=>?_⟩,by rw[aA,xH,aD,vG];omega⟩;rcases ay.1 g with g|g
 .exact hp.1.2 x<|p x g
 .rcases ak.1 g with rfl|g
  .exact⟨hk,hlo,hhi,hv1,hv2⟩
  .exact hp.1.2 x<|q x g
theorem Gb{l:Nat}{t:Tr (l+1)}{lo hi k2:Key}{A B:List (Key × Val (l+1))}{x:Key × Val (l+1)}{a b:Val (l+1)}(h:qJ (l+1) t lo hi)(e:t.ks=A++x::B)(hr:Ty l (Aa (α:=Val (l+1)) lo A x.1) (Ew (α:=Val (l+1)) B hi) (.two a k2 b)):
  wP (l+1) (A++(x.1,a)::(k2,b)::B) lo hi/\17+4*(A++(x.1,a)::(k2,b)::B).length+sH (l+1) (A++(x.1,a)::(k2,b)::B)<=623:=by
 obtain⟨c,g,i,j,k⟩:=hr;have hp:=(Bq.1 h);have m:=Oo (L:=[([],a)]) (R:=[]) (y:=(k2,b)) (JG j) (JG k) c g i;have o:=Tw (x:=x) (m0:=a) (Mr:=[(k2,b)]) (e▸hp.1) m;have f:=hp.2;unfold uu at f;rw[decide_eq_true_eq,e,aA,xH,aD,vG,EQ]at f;have p:(uJ (l+1) (k2,b)).length<=107:=IM c.2;refine⟨o,?_⟩;rw[aA,xH,aD,vG,EQ,aD,vG];dsimp only;omega
def Ju:(l:Nat)->Tr l->Prop
 |0,_=>True
 |l+1,t=>wD (l+1) t
theorem zpO:∀ {l:Nat} {t:Tr l} {k lo hi:Key} {v:Nat × Nat} {gs:List Nat},qJ l t lo hi->qR k->pW lo k->rR k hi->v.1<2147483648->v.2<65536->Ju l t->JJ l (zB l t k v gs).1
 |0,t,k,lo,hi,v,gs,h,hk,hlo,hhi,hv1,hv2,_=>by
  obtain⟨y,z⟩:=zu4 h hk hlo hhi hv1 hv2;refine znb y z ?_;obtain⟨A,B,_,_,e,_,_⟩:=ND h.1 (k,(v:Val 0));show qo t.ks (k,(v:Val 0))≠[];rw[e];simp
 |l+1,t,k,lo,hi,v,gs,h,hk,hlo,hhi,hv1,hv2,hf=>by
  obtain⟨A,x,B,e,G,C,m,o,p⟩:=Wm h hk hlo hhi;have q:=h.2.2.2.2 A x B e;have D:wD l x.2:=hf x kz;have r:∀ f∈A,wD l f.2:=λf c=>hf f (by rw[e];simp[c])
  have s:∀ f∈B,wD l f.2:=λf c=>hf f (by rw[e];simp[c])
  have g:=zpO (gs:=gs) q hk m o hv1 hv2 (by cases l with|zero=>trivial|succ l=>exact D);have i:=(QI (gs:=gs) q hk m o hv1 hv2).1;rw[zB,C];dsimp only;rcases hin:zB l x.2 k v gs with⟨E,H⟩;rw[hin]at g i;cases E with
  |one t'=>
   dsimp only;have j:=p t';rw[j];intro f c;rcases ay.1 c with c|c
   .exact r f c
   .rcases ak.1 c with rfl|c
    .exact g
    .exact s f c
  |two a k2 b=>
   dsimp only;have j:=p a;have F:=VW (a:=a) (b:=b) h e i;have u:=Gb (a:=a) (b:=b) h e i;rw[j,F];refine znb u.1 u.2 λf c=>?_
   rcases ay.1 c with c|c
   .exact r f c
   .rcases ak.1 c with rfl|c
    .exact g.1
    .rcases ak.1 c with rfl|c
     .exact g.2
     .exact s f c
def Tn:(l:Nat)->Tr l->Prop
 |0,_=>True
 |l+1,t=>2<=t.ks.length/\wD (l+1) t
structure Dq(S:Nat->View)(l:Nat)(t:Tr l):Prop where
 snd_:qJ l t [] []
 rt:Tn l t
 nd:(om l t).Nodup
 hold:vg S l t
def vB(path:List MN)(c:Key × V3)(gs:List Nat):List MN × Option Nat × List Nat:=
 match qV path.reverse c gs with
 |(o,none,gs')=>(o,none,gs')
 |(o,some c',gs')=>match path with
  |[]=>(o,none,gs')
  |x::_=>(o++[⟨gs'.headD 0,x.lv+1,[([],(0,0,x.n)),c']⟩],some (gs'.headD 0),gs'.tail)
theorem Xa:∀ {l:Nat} {t:Tr l} {k:Key},∃ r,uj l t k=nX l t::r
 |0,_,_=>⟨_,rfl⟩
 |_+1,_,_=>⟨_,rfl⟩
theorem zs2{l:Nat}{t:Tr l}{k:Key}{v:Nat × Nat}{gs:List Nat}{S:Nat->View}(h:Dq S l t)(hk:qR k)(hv1:v.1<2147483648)(hv2:v.2<65536)(hgn:gs.Nodup)(hgf:∀ g∈gs,g∉om l t)(hgl:l+2<=gs.length):
  ∃ l' t' us,gs=us++(vB (uj l t k) (k,(v.1,v.2,0)) gs).2.2/\us.length<=l+2/\Dq (wS S (vB (uj l t k) (k,(v.1,v.2,0)) gs).1) l' t'/\oO l' t'=uY (oO l t) (k,v)/\(om l' t').Perm (us++om l t)/\
   (∀ x∈(vB (uj l t k) (k,(v.1,v.2,0)) gs).1,x.n∈om l' t')/\
   ((vB (uj l t k) (k,(v.1,v.2,0)) gs).2.1=none/\t'.n=t.n\/(vB (uj l t k) (k,(v.1,v.2,0)) gs).2.1=some t'.n/\t'.n≠t.n):=by
 have X:Ju l t:=by
  cases l with
  |zero=>trivial
  |succ l=>exact h.rt.2
 have q:=QI (gs:=gs) h.snd_ hk (vF k) (.inl rfl) hv1 hv2;have z:=zpO (gs:=gs) h.snd_ hk (vF k) (.inl rfl) hv1 hv2 X;obtain⟨f,E⟩:=Jw (gs:=gs) h.snd_ hk (vF k) (.inl rfl) hv1 hv2 h.nd hgn hgf dB;obtain⟨b5,Y⟩:=Xa (l:=l) (t:=t) (k:=k);unfold vB;rcases hpu:qV (uj l t k).reverse (k,v.1,v.2,0) gs with⟨o,b6,b7⟩;rcases hin:zB l t k v gs with⟨N,O⟩;rw[hpu,hin]at f E;rw[hin]at q z;dsimp only at f E q z;subst E;obtain⟨us,i,b8,D⟩:=f.us;have P:(Fz l N).Nodup:=by
  refine D.symm.nodup<|bU.2 ⟨?_,h.nd,λa Z b hb e=>?_⟩
  .rw[i]at hgn;exact(bU.1 hgn).1
  .exact hgf a (by rw[i];exact aF _ Z)<|e▸hb
 cases N with
 |one t'=>
  obtain⟨rfl,F⟩:=f.car;dsimp only;refine⟨l,t',us,i,dB,⟨q.1,?_,P,f.hold S h.hold⟩,q.2,D,f.out, .inl ⟨rfl,F⟩⟩;cases l with
  |zero=>trivial
  |succ l=>
   refine⟨?_,z⟩;have G:=h.rt.1;obtain⟨A,x,B,e,b9,c,a0,a1,a2⟩:=Wm h.snd_ hk (vF k) (.inl rfl);rw[zB,c]at hin;dsimp only at hin;have a3:=h.snd_.2.2.2.2 A x B e;have Q:=(QI (gs:=gs) a3 hk a0 a1 hv1 hv2).1;rcases hin2:zB l x.2 k v gs with⟨a4,c4⟩;rw[hin2]at hin Q;cases a4 with
   |one t2=>
    dsimp only at hin;have H:=(EY.one.inj (iC hin).1);rw[<-H,bA];exact G
   |two a k2 b=>
    dsimp only at hin;have a5:=a2 a;have a6:=VW (a:=a) (b:=b) h.snd_ e Q;rw[a5,a6]at hin;unfold wU at hin
    split at hin
    .have H:=(EY.one.inj (iC hin).1)
     rw[<-H];rw[e]at G;simp only[aA,aD]at G |-;omega
    .cases(iC hin).1
 |two a k2 b=>
  obtain⟨rfl,F⟩:=f.car;rw[Y];dsimp only;obtain⟨g,T,a7⟩:∃ g T,O=g::T:=by
   cases O with
   |nil=>rw[i,aA,aY]at hgl;omega
   |cons g r=>exact⟨g,r,rfl⟩
  subst a7;obtain⟨U,a8,a9,b0,b1⟩:=q.1;have I:g∉om l a++om l b:=λC=>by
   rcases ay.1 (D.mem_iff.1 (show g∈Fz l (.two a k2 b)from C))with J|J
   .rw[i]at hgn
    exact(bU.1 hgn).2.2 g J g ig rfl
   .exact hgf g (by rw[i];simp) J
  obtain⟨s,j⟩:∃ K:Key × Val (l+1),K=Prod.mk (α:=Key) (β:=Val (l+1)) [] a:=⟨_,rfl⟩;obtain⟨u,p⟩:∃ K:Key × Val (l+1),K=Prod.mk (α:=Key) (β:=Val (l+1)) k2 b:=⟨_,rfl⟩;have b2:wP (l+1) [s,u] [] []:=by
   rw[j,p];exact Oo (L:=[Prod.mk (α:=Key) (β:=Val (l+1)) [] a]) (R:=[]) (y:=Prod.mk (α:=Key) (β:=Val (l+1)) k2 b) (JG b0) (JG b1) U a8 a9
  have M:om (l+1) ⟨g,[s,u]⟩=g::(om l a++om l b):=by
   rw[zq,j,p];show g::(om l a++(om l b++[]))=_;rw[aR]
  have b3:rW ⟨g,(nX l t).lv+1,[([],(0,0,(nX l t).n)),(k2,(0,0,b.n))]⟩=yn (l+1) ⟨g,[s,u]⟩:=by
   rw[<-CW];unfold nX toM;rw[j,p];show rW ⟨g,l+1,[([],(0,0,t.n)),(k2,(0,0,b.n))]⟩=rW ⟨g,l+1,[([],(0,0,a.n)),(k2,(0,0,b.n))]⟩;rw[F]
  refine⟨l+1,⟨g,[s,u]⟩,us++[g],by rw[aH];exact i,by rw[aA];show us.length+1<=_;omega,⟨Bq.2 ⟨b2,?_⟩,⟨ax 2,λx c=>?_⟩,?_,?_⟩,?_,?_,λx c=>?_, .inr ⟨rfl,?_⟩⟩
  .have c1:(uJ (l+1) s).length<=107:=IM (by rw[j];exact aC _)
   have c2:(uJ (l+1) u).length<=107:=IM (by rw[p];exact U.2);unfold uu;rw[decide_eq_true_eq,vG,vG];show 17+4*2+(_+(_+0))<=512;omega
  .simp only[ak,bq,or_false]at c
   rcases c with rfl|rfl
   .rw[j];exact z.1
   .rw[p];exact z.2
  .rw[M];exact cB.2 ⟨I,P⟩
  .rw[Sy]
   have V:=f.hold S h.hold;refine BR.2 ⟨?_,λx c=>?_⟩
   .show qG (wS S o) g (rW ⟨g,(nX l t).lv+1,[([],(0,0,(nX l t).n)),(k2,(0,0,b.n))]⟩) g=_
    rw[uU,b3]
   .simp only[ak,bq,or_false]at c
    rcases c with rfl|rfl
    .rw[j]
     exact V.1.frame λm C=>tF λe=>I (by rw[<-show m=g from e];exact aF _ C)
    .rw[p]
     exact V.2.frame λm C=>tF λe=>I (by rw[<-show m=g from e];exact aB _ C)
  .rw[<-q.2]
   show[s,u].flatMap (λx=>oO l x.2)=oO l a++oO l b;rw[j,p];show oO l a++(oO l b++[])=_;rw[aR]
  .rw[M,aH]
   have b4:(om l a++om l b).Perm (us++om l t):=D;exact(b4.cons g).trans fU.symm
  .rw[M]
   rcases ay.1 c with c|c
   .exact aj _<|f.out x c
   .rw[aJ.1 c];exact aK ..
  .intro e
   exact hgf g (by rw[i];simp) (by show g∈_;rw[show g=t.n from e];exact vH)
def EM(hi hi':Key):Prop:=hi'=[]\/(hi≠[]/\pW hi hi')
theorem rR.weak{k hi hi':Key}(h:rR k hi)(hh:EM hi hi'):rR k hi':=by
 rcases hh with a|⟨a,c⟩
 .exact .inl a
 .rcases h with h|h
  .exact absurd h a
  .exact .inr<|h.le c
theorem EM.refl(h:Key):EM h h:=by
 by_cases e:h=[]
 .exact .inl e
 .exact .inr ⟨e,pW.refl _⟩
theorem qJ.weak:∀ {l:Nat} {t:Tr l} {lo hi lo' hi':Key},qJ l t lo hi->pW lo' lo->EM hi hi'->qJ l t lo' hi'
 |0,_,_,_,_,_,h,h1,h2=>⟨h.1,λx c=>have a:=h.2.1 x c;⟨a.1,h1.trans a.2.1,a.2.2.1.weak h2,a.2.2.2⟩,h.2.2⟩
 |l+1,_,_,_,_,_,h,h1,h2=>⟨h.1,h.2.1,λA x B e f=>have a:=h.2.2.1 A x B e f;⟨a.1,h1.lt a.2.1,a.2.2.weak h2⟩,h.2.2.2.1,λA x B e=>by
  refine(h.2.2.2.2 A x B e).weak ?_ ?_
  .unfold Aa
   split
   .exact h1
   .exact pW.refl _
  .cases B with
   |nil=>exact h2
   |cons y B=>exact EM.refl _⟩
theorem zu6{l:Nat}{A B:List (Key × Val (l+1))}{x:Key × Val (l+1)}{lo hi:Key}(h:wP (l+1) (A++x::B) lo hi)(hne:A++B≠[]):wP (l+1) (if A=[]then ve (l+1) B else A++B) lo hi:=by
 cases B with
 |nil=>
  rw[aR]at hne |-;rw[if_neg hne];obtain⟨k1,k2,k3,k4,_⟩:=NT h hne;obtain⟨g,i,j,k⟩:=k4;have m:EM x.1 hi:=by
   rcases k3 with a|a
   .exact .inl a
   .exact .inr ⟨k1.1,a.pW⟩
  refine⟨g,i,λA1 c B1 e o=>have a:=j A1 c B1 e o;⟨a.1,a.2.1,a.2.2.weak m⟩,λA1 c B1 e=>(k A1 c B1 e).weak (pW.refl _) ?_⟩;cases B1 with
  |nil=>exact m
  |cons f B1=>exact EM.refl _
 |cons c B=>
  have r:=NT (L:=A++[x]) (R:=B) (y:=c) (by rw[aH];exact h) ig;obtain⟨k1,k2,k3,k4,k5⟩:=r;have q:wP (l+1) (([],c.2)::B) c.1 hi:=k5
  by_cases o:A=[]
  .rw[if_pos o]
   obtain⟨g,i,j,k⟩:=q;refine⟨g,i,λA1 f B1 e p=>have a:=j A1 f B1 e p;⟨a.1,k2.trans a.2.1,a.2.2⟩,λA1 f B1 e=>(k A1 f B1 e).weak ?_ (EM.refl _)⟩;unfold Aa
   split
   .exact k2.pW
   .exact pW.refl _
  .rw[if_neg o]
   obtain⟨s,z,C,t,_⟩:=NT h o;have u:pM x.1 c.1:=Al h.2.1 rfl c ig;obtain⟨g,i,j,k⟩:=t;have m:EM x.1 c.1:=.inr ⟨s.1,u.pW⟩;refine Oo ⟨g,i,λA1 f B1 e p=>have a:=j A1 f B1 e p;⟨a.1,a.2.1,a.2.2.weak m⟩,λA1 f B1 e=>(k A1 f B1 e).weak (pW.refl _) ?_⟩ q k1 k2 k3;cases B1 with
   |nil=>exact m
   |cons f B1=>exact EM.refl _
def rY{α:Type}(ks:List (Key × α))(k:Key):List (Key × α):=ks.filter λa=>decide (a.1≠k)
theorem LH{α:Type}(A B:List (Key × α))(k:Key):rY (A++B) k=rY A k++rY B k:=fq ..
theorem Mi{α:Type}{A:List (Key × α)}{k:Key}(h:∀ y∈A,y.1≠k):rY A k=A:=filter_all λy a=>decide_eq_true (h y a)
def yx:(l:Nat)->Tr l->Key->Option (Tr l)
 |0,t,k=>if t.ks.eraseIdx (pY t.ks k)=[]then none else some ⟨t.n,t.ks.eraseIdx (pY t.ks k)⟩
 |l+1,t,k=>match t.ks[qP t.ks k]? with
  |none=>none
  |some x=>match yx l x.2 k with
   |some t'=>some ⟨t.n,t.ks.set (qP t.ks k) (x.1,(t':Val (l+1)))⟩
   |none=>if t.ks.eraseIdx (qP t.ks k)=[]then none else some ⟨t.n,if qP t.ks k=0 then ve (l+1) (t.ks.eraseIdx (qP t.ks k))else t.ks.eraseIdx (qP t.ks k)⟩
theorem OA{α:Type}{x:α}{B:List α}:∀ {A:List α},(A++x::B).eraseIdx A.length=A++B
 |[]=>rfl
 |a::A=>by rw[bL,aD,List.eraseIdx_cons_succ,OA];rfl
theorem UO{α:Type}{ks:List (Key × α)}(hr:tN ks){k:Key}(hm:∃ y∈ks,y.1=k):isK ks k=true/\∃ A y B,ks=A++y::B/\pY ks k=A.length/\y.1=k:=by
 obtain⟨y,a,rfl⟩:=hm;obtain⟨A,B,e⟩:=dG a;have hp:pY ks y.1=A.length:=Zj e (Re hr e) λf c=>by cases c;exact pW.refl _
 refine⟨?_,A,y,B,e,hp,rfl⟩;unfold isK;rw[hp,e,bB (ax _),bO];exact decide_eq_true rfl
theorem SF{l:Nat}{L ks:List (Key × Val l)}(hf:uu l ks=true)(h1:L.length<=ks.length)(h2:sH l L<=sH l ks):uu l L=true:=by
 unfold uu at hf |-;rw[decide_eq_true_eq]at hf |-;omega
theorem beside{l:Nat}{t:Tr (l+1)}{lo hi k:Key}{A B:List (Key × Val (l+1))}{x:Key × Val (l+1)}(h:qJ (l+1) t lo hi)(e:t.ks=A++x::B)(hA:A=[]\/pW x.1 k)(hB:∀ y∈B,pM k y.1):
  (∀ r∈A.flatMap (λy=>oO l y.2),pM r.1 k)/\∀ r∈B.flatMap (λy=>oO l y.2),pM k r.1:=by
 refine⟨λr hr=>?_,λr hr=>?_⟩
 .obtain⟨y,c,hr⟩:=bG.1 hr
  obtain⟨A1,A2,f⟩:=dG c;have g:pW x.1 k:=hA.resolve_left λh=>by rw[h]at c;cases c
  have a:=((h.2.2.2.2 A1 y (A2++x::B) (by rw[e,f];simp)).rows r hr).2.2.1;have i:x.1≠[]:=(h.2.2.1 A x B e (by rw[f];simp)).1.1;cases A2 with
  |nil=>
   rcases a with a|a
   .exact absurd a i
   .exact a.le g
  |cons z A2=>
   rcases a with a|a
   .exact absurd a (h.2.2.1 (A1++[y]) z (A2++x::B) (by rw[e,f];simp) ig).1.1
   .exact a.le<|(Al h.AO (show t.ks=(A1++[y])++z::(A2++x::B) by rw[e,f];simp) x ig).pW.trans g
 .obtain⟨y,c,hr⟩:=bG.1 hr
  obtain⟨B1,B2,f⟩:=dG c;have a:=((h.2.2.2.2 (A++x::B1) y B2 (by rw[e,f];simp)).rows r hr).2.1;rw[xR ig]at a;exact(hB y c).le a
theorem WB{l:Nat}{t:Tr (l+1)}{A B:List (Key × Val (l+1))}{x:Key × Val (l+1)}(e:t.ks=A++x::B):oO (l+1) t=A.flatMap (λy=>oO l y.2)++(oO l x.2++B.flatMap (λy=>oO l y.2)):=by
 show t.ks.flatMap _=_;rw[e,bR,bP]
theorem zR{l:Nat}{t:Tr (l+1)}{lo hi k:Key}(h:qJ (l+1) t lo hi)(hk:qR k)(hlo:pW lo k)(hhi:rR k hi):∃ A x B,t.ks=A++x::B/\qP t.ks k=A.length/\t.ks[qP t.ks k]?=some x/\pW (Aa (α:=Val (l+1)) lo A x.1) k/\rR k (Ew (α:=Val (l+1)) B hi)/\
  (∀ m:Val (l+1),t.ks.set (qP t.ks k) (x.1,m)=A++(x.1,m)::B)/\(∀ r∈A.flatMap (λy=>oO l y.2),pM r.1 k)/\∀ r∈B.flatMap (λy=>oO l y.2),pM k r.1:=by
 obtain⟨A,x,B,e,a,c,f⟩:=Wn h.AO h.1 hk;obtain⟨i,j⟩:=beside h e (.inr c) f;refine⟨A,x,B,e,a,?_,?_,?_,λm=>?_,i,j⟩
 .rw[a,e,bB (ax _),bO];rfl
 .by_cases g:A=[]
  .rw[g];exact hlo
  .rw[xR g];exact c
 .cases B with
  |nil=>exact hhi
  |cons y B=>exact .inr (f y ig)
 .rw[a];conv=>lhs;rw[e]
  rw[dN _ _ (ax _),bO];rfl
theorem Xx:∀ {l:Nat} {t:Tr l} {k lo hi:Key},qJ l t lo hi->qR k->pW lo k->rR k hi->(∃ r∈oO l t,r.1=k)->
  match yx l t k with
  |some t'=>qJ l t' lo hi/\oO l t'=rY (oO l t) k/\t'.n=t.n
  |none=>rY (oO l t) k=[]
 |0,t,k,lo,hi,c,hk,hlo,hhi,hm=>by
  obtain⟨_,A,g,B,e,hp,m⟩:=UO c.1 hm;have z:t.ks.eraseIdx (pY t.ks k)=A++B:=by
   rw[hp]
   conv=>lhs;rw[e]
   exact OA
  have f:∀ h∈A,h.1≠k:=λh s=>m▸(Re c.1 e h s).ne
  have M:∀ h∈B,h.1≠k:=λh s=>m▸(Al c.1 e h s).ne.symm
  have p:rY (oO 0 t) k=A++B:=by
   show rY t.ks k=_;rw[e,LH,Mi f,show g::B=[g]++B from rfl,LH,Mi M];have:rY [g] k=[]:=GN λh s=>by rw[aJ.1 s];exact decide_eq_false (λc=>c m)
   rw[this];rfl
  unfold yx;rw[z]
  by_cases i:A++B=[]
  .rw[if_pos i]
   show rY (oO 0 t) k=[];rw[p];exact i
  .rw[if_neg i]
   have hr:=c.1;have C:=c.2.1;have q:=c.2.2;rw[e]at hr C q;have D:=dM.1 hr;refine⟨⟨dM.2 ⟨D.1,(dL.1 D.2.1).2,λa N b hb=>D.2.2 a N b jX⟩,λx o=>?_,?_⟩,p.symm,rfl⟩
   .rcases ay.1 o with o|o
    .exact C x (by simp[o])
    .exact C x (by simp[o])
   .exact SF q ig (by rw[xH,xH,vG];omega)
 |l+1,t,k,lo,hi,c,hk,hlo,hhi,hm=>by
  obtain⟨A,x,B,e,G,o,O,P,Q,H,I⟩:=zR c hk hlo hhi;have hp:=Bq.1 c;have J:=WB e;have R:∃ r∈oO l x.2,r.1=k:=by
   obtain⟨r,hr,E⟩:=hm;rw[J]at hr;rcases ay.1 hr with hr|hr
   .exact absurd E (H r hr).ne
   .rcases ay.1 hr with hr|hr
    .exact⟨r,hr,E⟩
    .exact absurd E (I r hr).ne.symm
  have p:rY (oO (l+1) t) k=A.flatMap (λg=>oO l g.2)++(rY (oO l x.2) k++B.flatMap (λg=>oO l g.2)):=by
   rw[J,LH,LH,Mi λg m=>(H g m).ne,Mi (A:=B.flatMap _) λg m=>(I g m).ne.symm]
  have j:=Xx (c.2.2.2.2 A x B e) hk O P R;rw[yx,o];dsimp only;cases hdt:yx l x.2 k with
  |some t'=>
   rw[hdt]at j;dsimp only at j |-;have S:=Q t';obtain⟨F,u⟩:∃ F:Key × Val (l+1),F=Prod.mk (α:=Key) (β:=Val (l+1)) x.1 t':=⟨_,rfl⟩;rw[S,<-u];refine⟨Bq.2 ⟨?_,?_⟩,?_,rfl⟩
   .rw[u];exact Tw (Mr:=[]) (e▸hp.1) (JG j.1)
   .rw[u];exact(zpK (A:=A) (B:=B) (x:=x)).trans (by rw[<-e];exact hp.2)
   .rw[p,<-j.2.1]
    refine(WY (n:=t.n) (y:=F)).trans ?_;rw[u]
  |none=>
   rw[hdt]at j;dsimp only at j |-;have z:t.ks.eraseIdx (qP t.ks k)=A++B:=by
    rw[G]
    conv=>lhs;rw[e]
    exact OA
   rw[z]
   by_cases i:A++B=[]
   .rw[if_pos i]
    show rY (oO (l+1) t) k=[];rw[p,j];have K:=jI.1 i;rw[K.1,K.2];rfl
   .rw[if_neg i]
    have L:(qP t.ks k=0)=(A=[]):=by rw[G];exact propext List.length_eq_zero_iff
    have T:(if qP t.ks k=0 then ve (l+1) (A++B)else A++B)=if A=[]then ve (l+1) B else A++B:=by
     by_cases f:A=[]
     .rw[if_pos (L▸f),if_pos f,f];rfl
     .rw[if_neg (λc=>f (L▸c)),if_neg f]
    rw[T];have U:=zu6 (e▸hp.1) i;have q:=hp.2;rw[e]at q;refine⟨Bq.2 ⟨U,?_⟩,?_,rfl⟩
    .show uu (l+1) (if A=[]then ve (l+1) B else A++B)=true
     split
     .rename_i f
      obtain⟨V,X⟩:=ZW B;refine SF q (by rw[V,f];simp) ?_;rw[f];refine ag X ?_;rw[aU,vG];omega
     .exact SF q ig (by rw[xH,xH,vG];omega)
    .show oO (l+1) ⟨t.n,if A=[]then ve (l+1) B else A++B⟩=_
     rw[p,j,aU]
     split
     .rename_i f
      rw[w_,f];rfl
     .show(A++B).flatMap _=_
      rw[bR]
def wX:(l:Nat)->Tr l->Key->List (MN × Nat)
 |0,t,k=>[(nX 0 t,pY t.ks k)]
 |l+1,t,k=>(nX (l+1) t,qP t.ks k)::match t.ks[qP t.ks k]? with|some x=>wX l x.2 k|none=>[]
def yI:List (MN × Nat)->List Nat × Option MN
 |[]=>([],none)
 |(x,i)::up=>if rZ x.lv (x.cs.eraseIdx i)=[]/\up≠[]then(x.n::(yI up).1,(yI up).2)else([],some ⟨x.n,x.lv,rZ x.lv (x.cs.eraseIdx i)⟩)
theorem zu7:∀ {l:Nat} {ks:List (Key × Val (l+1))},(∃ x r,ks=x::r/\x.1=[])->ve (l+1) ks=ks
 |l,_,⟨x,r,rfl,h⟩=>by show([],x.2)::r=x::r;rw[<-h]
theorem zkY{α β:Type}(f:α->β):∀ (l:List α) (k:Nat),(l.map f).eraseIdx k=(l.eraseIdx k).map f
 |[],k=>by cases k<;>rfl
 |x::l,0=>rfl
 |x::l,k+1=>by simp[zkY f l k]
theorem UX{l:Nat}(ks:List (Key × Val l))(i:Nat):(toM l ks).eraseIdx i=toM l (ks.eraseIdx i):=zkY _ _ _
theorem Tu{lv:Nat}{cs:List (Key × V3)}:rZ lv cs=[]↔cs=[]:=by
 unfold rZ
 split
 .exact Iff.rfl
 .cases cs<;>simp
theorem TH{l:Nat}{ks:List (Key × Val l)}:toM l ks=[]↔ks=[]:=by unfold toM;exact jJ
structure Ca(l:Nat)(t:Tr l)(bs:List Nat)(w:MN)(t':Tr l):Prop where
 pg:(bs++om l t').Perm (om l t)
 win:w.n∈om l t'
 hold:∀ S,vg S l t->vg (qG S w.n (rW w)) l t'
 top:(if w.n=t.n then w else nX l t)=nX l t'
def IP(l:Nat)(t:Tr l)(p up:List (MN × Nat)):Option (Tr l)->Prop
 |some t'=>∃ bs w,yI (p++up)=(bs,some w)/\Ca l t bs w t'
 |none=>∃ bs,bs.Perm (om l t)/\(up≠[]->yI (p++up)=(bs++(yI up).1,(yI up).2))
theorem Cb:∀ {l:Nat} {t:Tr l} {k lo hi:Key},qJ l t lo hi->qR k->pW lo k->rR k hi->(∃ r∈oO l t,r.1=k)->(om l t).Nodup->∀ up,IP l t (wX l t k).reverse up (yx l t k)
 |0,t,k,lo,hi,p,hk,hlo,hhi,c,hnd,up=>by
  have o:=UX t.ks (pY t.ks k);show IP 0 t [(⟨t.n,0,toM 0 t.ks⟩,pY t.ks k)] up (yx 0 t k);unfold yx
  by_cases f:t.ks.eraseIdx (pY t.ks k)=[]
  .rw[if_pos f]
   refine⟨[t.n],gM _,λF=>?_⟩;rw[gK,yI,if_pos ⟨Tu.2 (by dsimp only;rw[o];exact TH.2 f),F⟩]
   rfl
  .rw[if_neg f]
   refine⟨[],⟨t.n,0,rZ 0 ((toM 0 t.ks).eraseIdx (pY t.ks k))⟩,?_,gM _,vH (t:=(⟨t.n,t.ks.eraseIdx (pY t.ks k)⟩:Tr 0)),λS u=>?_,?_⟩
   .rw[gK,yI,if_neg λG=>f (TH.1 (by rw[<-o];exact Tu.1 G.1))]
   .show qG S t.n (rW ⟨t.n,0,(toM 0 t.ks).eraseIdx (pY t.ks k)⟩) t.n=yn 0 ⟨t.n,t.ks.eraseIdx (pY t.ks k)⟩
    rw[uU,o,<-CW];rfl
   .rw[if_pos rfl]
    show(⟨t.n,0,(toM 0 t.ks).eraseIdx (pY t.ks k)⟩:MN)=⟨t.n,0,toM 0 (t.ks.eraseIdx (pY t.ks k))⟩;rw[o]
 |l+1,t,k,lo,hi,p,hk,hlo,hhi,c,hnd,up=>by
  obtain⟨A,x,B,e,P,Q,R,T,a5,a6,a7⟩:=zR p hk hlo hhi;have a8:=WB e;have U:∃ r∈oO l x.2,r.1=k:=by
   obtain⟨r,hr,H⟩:=c;rw[a8]at hr;rcases ay.1 hr with hr|hr
   .exact absurd H (a6 r hr).ne
   .rcases ay.1 hr with hr|hr
    .exact⟨r,hr,H⟩
    .exact absurd H (a7 r hr).ne.symm
  have a9:qj (l+1) t.ks=qj (l+1) A++(om l x.2++qj (l+1) B):=by
   rw[e];show(A++x::B).flatMap _=_;rw[bR,bP];rfl
  have y:om (l+1) t=t.n::(qj (l+1) A++(om l x.2++qj (l+1) B)):=by rw[zq,a9]
  rw[y]at hnd;have z:=cB.1 hnd;have V:=bU.1 z.2;have X:=bU.1 V.2.1;have Y:=p.2.2.2.2 A x B e;have b0:wX (l+1) t k=(nX (l+1) t,qP t.ks k)::wX l x.2 k:=by rw[wX,Q]
  have C:=Cb Y hk R T U X.1 ((nX (l+1) t,qP t.ks k)::up);rw[b0,iU,yx,Q];dsimp only;cases hdt:yx l x.2 k with
  |some t'=>
   rw[hdt]at C;obtain⟨bs,w,D,g⟩:=C;dsimp only;have b1:=a5 t';obtain⟨E,s⟩:∃ E:Key × Val (l+1),E=Prod.mk (α:=Key) (β:=Val (l+1)) x.1 t':=⟨_,rfl⟩;rw[b1,<-s];have I:=(Xx Y hk R T U);rw[hdt]at I;have Z:om (l+1) ⟨t.n,A++E::B⟩=t.n::(qj (l+1) A++(om l t'++qj (l+1) B)):=by
    rw[zq,NI,s];rfl
   have J:w.n∈om l x.2:=g.pg.mem_iff.1 (aB _ g.win);have b2:∀ m∈qj (l+1) A,m≠w.n:=λm c h=>V.2.2 m c w.n (by simp[J]) h
   have b3:∀ m∈qj (l+1) B,m≠w.n:=λm c h=>X.2.2 w.n J m c h.symm
   have a0:t.n≠w.n:=λh=>z.1 (by rw[h];simp[J])
   refine⟨bs,w,by rw[aH];exact D,?_,?_,λS u=>?_,?_⟩
   .rw[Z,y]
    have K:(bs++t.n::(qj (l+1) A++(om l t'++qj (l+1) B))).Perm (t.n::(bs++(qj (l+1) A++(om l t'++qj (l+1) B)))):=fU;refine K.trans<|List.Perm.cons _ ?_
    have L:(bs++(qj (l+1) A++(om l t'++qj (l+1) B))).Perm (qj (l+1) A++(bs++(om l t'++qj (l+1) B))):=iA ..;refine L.trans ?_;rw[<-aH bs];exact(g.pg.append_right _).append_left _
   .rw[Z];simp[g.win]
   .obtain⟨a1,i⟩:=BR.1 u
    rw[e,Gc]at i;have b4:vg S l x.2:=i.2 x ig;have M:zY S (l+1) B:=λq j=>i.2 q (by simp[j])
    have b5:=g.hold S b4;refine BR.2 ⟨?_,Gc.2 ⟨i.1.frame λm c=>tF (b2 m c),λq j=>?_⟩⟩
    .show qG S w.n (rW w) t.n=_
     rw[tF a0,a1];unfold yn;dsimp only;rw[e,bJ,bJ,bi,bi];have:uJ (l+1) E=uJ (l+1) x:=by
      unfold uJ;rw[s];show u8 x.1.length::(x.1++oH 4 t'.n)=u8 x.1.length::(x.1++oH 4 (show Tr l from x.2).n);rw[I.2.2]
     rw[this]
    .rcases ak.1 j with rfl|j
     .rw[s];exact b5
     .exact(M q j).frame λm c=>tF (b3 m (bG.2 ⟨q,j,c⟩))
   .rw[if_neg a0.symm]
    unfold nX toM;dsimp only;rw[e,bJ,bJ,bi,bi,s];show(⟨t.n,l+1,List.map _ A++(x.1,(0,0,(show Tr l from x.2).n))::List.map _ B⟩:MN)=⟨t.n,l+1,List.map _ A++(x.1,(0,0,t'.n))::List.map _ B⟩;rw[I.2.2]
  |none=>
   rw[hdt]at C;obtain⟨bs,D,g⟩:=C;replace g:=g ig;dsimp only;have o:t.ks.eraseIdx (qP t.ks k)=A++B:=by
    rw[P]
    conv=>lhs;rw[e]
    exact OA
   have N:(nX (l+1) t).cs.eraseIdx (qP t.ks k)=toM (l+1) (A++B):=by rw[<-o];exact UX _ _
   rw[o]
   by_cases f:A++B=[]
   .rw[if_pos f]
    refine⟨bs++[t.n],?_,λF=>?_⟩
    .rw[y]
     obtain⟨rfl,rfl⟩:=jI.1 f;show(bs++[t.n]).Perm (t.n::([]++(om l x.2++[])));rw[aU,aR];exact List.perm_append_comm.trans<|D.cons _
    .rw[aH,gK,g,yI,if_pos ⟨Tu.2 (by rw[N];exact TH.2 f),F⟩]
     simp[nX]
   .rw[if_neg f]
    have a2:(qP t.ks k=0)=(A=[]):=by rw[P];exact propext List.length_eq_zero_iff
    have b6:(if qP t.ks k=0 then ve (l+1) (A++B)else A++B)=ve (l+1) (A++B):=by
     by_cases O:A=[]
     .rw[if_pos (a2▸O)]
     .rw[if_neg (λp=>O (a2▸p))]
      refine(zu7 ?_).symm;obtain⟨c4,r,a3,b7⟩:=p.1;cases A with
      |nil=>exact absurd rfl O
      |cons a A=>rw[e]at a3;cases a3;exact⟨_,_,rfl,b7⟩
    rw[b6];have a4:om (l+1) ⟨t.n,ve (l+1) (A++B)⟩=t.n::(qj (l+1) A++qj (l+1) B):=by rw[zq,Uj,NI]
    refine⟨bs,⟨t.n,l+1,rZ (l+1) (toM (l+1) (A++B))⟩,?_,?_,?_,λS u=>?_,?_⟩
    .rw[aH,gK,g,yI,if_neg λG=>f (TH.1 (by rw[<-N];exact Tu.1 G.1)),N,aR]
     rfl
    .rw[a4,y]
     have K:(bs++t.n::(qj (l+1) A++qj (l+1) B)).Perm (t.n::(bs++(qj (l+1) A++qj (l+1) B))):=fU;refine K.trans<|List.Perm.cons _ ?_
     have L:(bs++(qj (l+1) A++qj (l+1) B)).Perm (qj (l+1) A++(bs++qj (l+1) B)):=iA ..;exact L.trans<|(D.append_right _).append_left _
    .rw[a4];exact aK ..
    .obtain⟨a1,i⟩:=BR.1 u
     rw[e,Gc]at i;have M:zY S (l+1) B:=λq j=>i.2 q (by simp[j])
     have b8:∀ m∈qj (l+1) A,m≠t.n:=λm c h=>z.1 (by rw[<-h];simp[c])
     have b9:∀ m∈qj (l+1) B,m≠t.n:=λm c h=>z.1 (by rw[<-h];simp[c])
     refine BR.2 ⟨?_,Zp (Gc.2 ⟨i.1.frame λm c=>tF (b8 m c),M.frame λm c=>tF (b9 m c)⟩)⟩;show qG S t.n (rW ⟨t.n,l+1,rZ (l+1) (toM (l+1) (A++B))⟩) t.n=_;rw[uU,Vx,<-CW];rfl
    .rw[if_pos rfl,Vx];rfl
theorem ZT:∀ {l:Nat} {t t':Tr l} {k lo hi:Key},qJ l t lo hi->qR k->pW lo k->rR k hi->wD l t->yx l t k=some t'->wD l t'
 |0,t,t',k,lo,hi,h,hk,hlo,hhi,hf,e=>by
  unfold yx at e
  split at e
  .cases e
  .rename_i i
   cases e;exact i
 |l+1,t,t',k,lo,hi,h,hk,hlo,hhi,hf,e=>by
  obtain⟨A,x,B,f,y,j,m,o,p,z,C⟩:=zR h hk hlo hhi;have q:wD l x.2:=hf x (by rw[f];simp);rw[yx,j]at e;dsimp only at e;cases hdt:yx l x.2 k with
  |some t2=>
   rw[hdt]at e;cases e;have r:=ZT (h.2.2.2.2 A x B f) hk m o q hdt;have s:=p t2;rw[s];intro c a;rcases ay.1 a with a|a
   .exact hf c (by rw[f];simp[a])
   .rcases ak.1 a with rfl|a
    .exact r
    .exact hf c (by rw[f];simp[a])
  |none=>
   rw[hdt]at e;dsimp only at e
   split at e
   .cases e
   .cases e
    have u:∀ c∈t.ks.eraseIdx (qP t.ks k),c∈t.ks:=λc a=>List.mem_of_mem_eraseIdx a
    have g:wD (l+1) ⟨t.n,t.ks.eraseIdx (qP t.ks k)⟩:=λc a=>hf c (u c a)
    show wD (l+1) ⟨t.n,if qP t.ks k=0 then ve (l+1) (t.ks.eraseIdx (qP t.ks k))else t.ks.eraseIdx (qP t.ks k)⟩
    split
    .exact Ze g
    .exact g
def MH:(l:Nat)->Tr l->Key->Tr l
 |0,t,k=>⟨t.n,t.ks.eraseIdx (pY t.ks k)⟩
 |l+1,t,k=>(yx (l+1) t k).getD t
theorem zqZ{l:Nat}{t:Tr l}{k:Key}{S:Nat->View}(h:Dq S l t)(hk:qR k)(hm:∃ r∈oO l t,r.1=k):
  ∃ bs w,yI (wX l t k).reverse=(bs,some w)/\qJ l (MH l t k) [] []/\(l=0\/wD l (MH l t k))/\oO l (MH l t k)=rY (oO l t) k/\(MH l t k).n=t.n/\Ca l t bs w (MH l t k):=by
 cases l with
 |zero=>
  have r:=UX t.ks (pY t.ks k);obtain⟨_,A,m,B,e,hp,o⟩:=UO h.snd_.1 hm;have s:t.ks.eraseIdx (pY t.ks k)=A++B:=by
   rw[hp]
   conv=>lhs;rw[e]
   exact OA
  have y:∀ c∈A,c.1≠k:=λc i=>o▸(Re h.snd_.1 e c i).ne
  have z:∀ c∈B,c.1≠k:=λc i=>o▸(Al h.snd_.1 e c i).ne.symm
  have hr:=h.snd_.1;have g:=h.snd_.2.1;have u:=h.snd_.2.2;rw[e]at hr g u;have p:=dM.1 hr;refine⟨[],⟨t.n,0,rZ 0 ((toM 0 t.ks).eraseIdx (pY t.ks k))⟩,?_,?_, .inl rfl,?_,rfl,⟨gM _,vH (t:=(⟨t.n,t.ks.eraseIdx (pY t.ks k)⟩:Tr 0)),λS H=>?_,?_⟩⟩
  .show yI [(⟨t.n,0,toM 0 t.ks⟩,pY t.ks k)]=_
   rw[yI,if_neg λq=>q.2 rfl]
  .show qJ 0 ⟨t.n,t.ks.eraseIdx (pY t.ks k)⟩ [] []
   rw[s];refine⟨dM.2 ⟨p.1,(dL.1 p.2.1).2,λa C b hb=>p.2.2 a C b jX⟩,λx f=>?_,?_⟩
   .rcases ay.1 f with f|f
    .exact g x lh
    .exact g x lh
   .exact SF u ig (by rw[xH,xH,vG];omega)
  .show t.ks.eraseIdx (pY t.ks k)=rY t.ks k
   rw[s,e,LH,Mi y,show m::B=[m]++B from rfl,LH,Mi z];have:rY [m] k=[]:=GN λc i=>by rw[aJ.1 i];exact decide_eq_false (λh=>h o)
   rw[this];rfl
  .show qG S t.n (rW ⟨t.n,0,(toM 0 t.ks).eraseIdx (pY t.ks k)⟩) t.n=yn 0 ⟨t.n,t.ks.eraseIdx (pY t.ks k)⟩
   rw[uU,r,<-CW];rfl
  .rw[if_pos rfl]
   show(⟨t.n,0,(toM 0 t.ks).eraseIdx (pY t.ks k)⟩:MN)=⟨t.n,0,toM 0 (t.ks.eraseIdx (pY t.ks k))⟩;rw[r]
 |succ l=>
  have j:=Xx h.snd_ hk (vF k) (.inl rfl) hm;have g:=Cb h.snd_ hk (vF k) (.inl rfl) hm h.nd [];cases hd:yx (l+1) t k with
  |none=>
   exfalso;obtain⟨A,x,B,e,D,f,I,J,K,L,M⟩:=zR h.snd_ hk (vF k) (.inl rfl);rw[yx,f]at hd;dsimp only at hd
   split at hd
   .cases hd
   .split at hd
    .rename_i q
     have E:=congrArg List.length q;have N:=h.rt.1;have F:qP t.ks k<t.ks.length:=by rw[D,e];simp
     rw[List.length_eraseIdx,if_pos F,aY]at E;omega
    .cases hd
  |some t1=>
   rw[hd]at j g;dsimp only at j;obtain⟨bs,w,w1,w2⟩:=g;have G:MH (l+1) t k=t1:=by show(yx (l+1) t k).getD t=t1;rw[hd];rfl
   rw[G];refine⟨bs,w,by rw[<-w1,aR],j.1, .inr (ZT h.snd_ hk (vF k) (.inl rfl) h.rt.2 hd),j.2.1,j.2.2,w2⟩
def zn:(l:Nat)->Tr l->Key->Tr 0
 |0,t,_=>t
 |l+1,t,k=>match t.ks[qP t.ks k]? with|some x=>zn l x.2 k|none=>⟨0,[]⟩
theorem Ws:∀ {l:Nat} {t:Tr l} {k lo hi:Key},qJ l t lo hi->qR k->pW lo k->rR k hi->(∃ lo' hi',qJ 0 (zn l t k) lo' hi')/\∀ v,(k,v)∈oO l t↔(k,v)∈(zn l t k).ks
 |0,t,k,lo,hi,h,_,_,_=>⟨⟨lo,hi,h⟩,λv=>Iff.rfl⟩
 |l+1,t,k,lo,hi,h,hk,hlo,hhi=>by
  obtain⟨A,x,B,e,p,c,f,g,q,i,j⟩:=zR h hk hlo hhi;obtain⟨m,o⟩:=Ws (h.2.2.2.2 A x B e) hk f g;rw[zn,c];refine⟨m,λv=>?_⟩;rw[<-o,WB e,ay,ay]
  constructor
  .rintro(a|a|a)
   .exact absurd rfl (i _ a).ne
   .exact a
   .exact absurd rfl (j _ a).ne
  .exact λa=>.inr (.inl a)
theorem Yw{α:Type}{ks:List (Key × α)}(hr:tN ks){k:Key}:isK ks k=true↔∃ y∈ks,y.1=k:=by
 refine⟨λa=>?_,λa=>(UO hr a).1⟩;unfold isK at a
 split at a
 .rename_i y c
  exact⟨y,aO c,of_decide_eq_true a⟩
 .cases a
theorem zs4:∀ {l:Nat} {t:Tr l} {k lo hi:Key},qJ l t lo hi->qR k->pW lo k->rR k hi->(wX l t k).map Prod.fst=uj l t k
 |0,_,_,_,_,_,_,_,_=>rfl
 |l+1,t,k,lo,hi,h,hk,hlo,hhi=>by
  obtain⟨A,x,B,e,g,a,c,f,i,j,m⟩:=zR h hk hlo hhi;rw[wX,uj,a,bi];exact congrArg _<|zs4 (h.2.2.2.2 A x B e) hk c f
abbrev tZ:=MN × Key × Key
def vo{α:Type}:List (Key × α)->Key->Key->List (α × Key × Key)
 |[],_,_=>[]
 |[x],lo,hi=>[(x.2,lo,hi)]
 |x::y::r,lo,hi=>(x.2,lo,y.1)::vo (y::r) y.1 hi
instance(a b:Key):Decidable (pW a b):=inferInstanceAs (Decidable (¬_))
instance(a b:Key):Decidable (rR a b):=inferInstanceAs (Decidable (_\/_))
def tq(dec:tZ->Bool):(l:Nat)->Tr l->Key->Key->List tZ
 |0,t,lo,hi=>[(nX 0 t,lo,hi)]
 |l+1,t,lo,hi=>(nX (l+1) t,lo,hi)::if dec (nX (l+1) t,lo,hi)=true then(vo t.ks lo hi).flatMap (λx=>tq dec l x.1 x.2.1 x.2.2)else[]
theorem SX{α β:Type}(f:α->List β):∀ (ks:List (Key × α)) (lo hi:Key),(vo ks lo hi).flatMap (λx=>f x.1)=ks.flatMap λx=>f x.2
 |[],_,_=>rfl
 |[x],_,_=>rfl
 |x::y::r,lo,hi=>by
  rw[vo,bP,SX f (y::r)];exact(bP (f:=λx:Key × α=>f x.2) (x:=x) (xs:=y::r)).symm
theorem Oi{α:Type}:∀ {ks:List (Key × α)} {lo hi:Key} {v:α} {a b:Key},(v,a,b)∈vo ks lo hi->∃ A x B,ks=A++x::B/\x.2=v/\a=Aa lo A x.1/\b=Ew B hi
 |[x],lo,hi,v,a,b,c=>by
  cases aJ.1 c;exact⟨[],x,[],rfl,rfl,rfl,rfl⟩
 |x::y::r,lo,hi,v,a,b,c=>by
  rw[vo]at c;rcases ak.1 c with c|c
  .cases c;exact⟨[],x,y::r,rfl,rfl,rfl,rfl⟩
  .obtain⟨A,f,B,e,g,h,i⟩:=Oi c
   refine⟨x::A,f,B,by rw[e];rfl,g,?_,i⟩;have j:Aa y.1 A f.1=Aa lo (x::A) f.1:=by
    rw[xR (α:=α) (A:=x::A) ig];cases A with
    |nil=>cases e;rfl
    |cons a A=>rfl
   exact h.trans j
theorem YV:∀ {l:Nat} {t:Tr l} {lo hi:Key},(tq (λ_=>true) l t lo hi).map (λv=>v.1.n)=om l t
 |0,_,_,_=>rfl
 |l+1,t,lo,hi=>by
  rw[tq,if_pos rfl,bi,List.map_flatMap,zq];have a:(vo t.ks lo hi).flatMap (λx=>(tq (λ_=>true) l x.1 x.2.1 x.2.2).map λv=>v.1.n)=(vo t.ks lo hi).flatMap (λx=>om l x.1):=by
   congr 1
   funext x
   exact YV
  rw[a];exact congrArg (List.cons t.n)<|SX (α:=Val (l+1)) (λv=>om l v) t.ks lo hi
def xx{α:Type}(ks:List (Key × α))(lo hi:Key):List (Key × α):=ks.filter λx=>decide (pW lo x.1) && decide (rR x.1 hi)
def xQ(lo hi:Key)(v:tZ):Bool:=!(decide (hi≠[]/\pW hi v.2.1) || decide (v.2.2≠[]/\pW v.2.2 lo))
def Am(lo hi:Key)(v:tZ):List (Key × V3):=if xQ lo hi v=true/\v.1.lv=0 then xx v.1.cs lo hi else[]
theorem zs5{α:Type}{ks:List (Key × α)}{lo hi:Key}(h:∀ x∈ks,¬(pW lo x.1/\rR x.1 hi)):xx ks lo hi=[]:=GN λx c=>by
 have:=h x c
 by_cases a:pW lo x.1
 .rw[decide_eq_true a,decide_eq_false (λe=>this ⟨a,e⟩)];rfl
 .rw[decide_eq_false a];rfl
theorem Jy{l:Nat}{t:Tr l}{a b lo hi:Key}(h:qJ l t a b)(hd:xQ lo hi (nX l t,a,b)=false):xx (oO l t) lo hi=[]:=zs5 λr hr ⟨f,a⟩=>by
 obtain⟨k1,k2,k3,_⟩:=h.rows r hr;unfold xQ at hd;rw[Bool.not_eq_false',jq,decide_eq_true_eq,decide_eq_true_eq]at hd;rcases hd with⟨c,e⟩|⟨c,e⟩
 .rcases a with a|a
  .exact c a
  .exact(e.trans k2) a
 .rcases k3 with k3|k3
  .exact c k3
  .exact f<|k3.le e
def Ar(x:Key × V3):Key × (Nat × Nat):=(x.1,x.2.1,x.2.2.1)
theorem Yz:∀ {l:Nat} {t:Tr l} {a b lo hi:Key},qJ l t a b->((tq (xQ lo hi) l t a b).flatMap (Am lo hi)).map Ar=xx (oO l t) lo hi
 |0,t,a,b,lo,hi,c=>by
  show(Am lo hi (nX 0 t,a,b)++[]).map Ar=_;rw[aR];unfold Am
  by_cases f:xQ lo hi (nX 0 t,a,b)=true
  .rw[if_pos ⟨f,rfl⟩]
   show(xx (toM 0 t.ks) lo hi).map Ar=xx t.ks lo hi;unfold xx toM;rw[List.filter_map,dJ];have g:(Ar ∘ λx:Key × Val 0=>(x.1,v3 0 x.2))=id:=rfl;have h:((λx:Key × V3=>decide (pW lo x.1) && decide (rR x.1 hi)) ∘ λx:Key × Val 0=>(x.1,v3 0 x.2))=λx:Key × Val 0=>decide (pW lo x.1) && decide (rR x.1 hi):=rfl
   rw[g,h];exact List.map_id _
  .rw[if_neg λc=>f c.1,Jy c (by simpa using f)];rfl
 |l+1,t,a,b,lo,hi,c=>by
  rw[tq,bP];have j:Am lo hi (nX (l+1) t,a,b)=[]:=by unfold Am;rw[if_neg λc=>by cases c.2]
  rw[j,aU]
  by_cases f:xQ lo hi (nX (l+1) t,a,b)=true
  .rw[if_pos f,List.flatMap_assoc,List.map_flatMap]
   have k:(vo t.ks a b).flatMap (λx=>((tq (xQ lo hi) l x.1 x.2.1 x.2.2).flatMap (Am lo hi)).map Ar)=(vo t.ks a b).flatMap (λx=>xx (oO l x.1) lo hi):=by
    have m:∀ x∈vo t.ks a b,((tq (xQ lo hi) l x.1 x.2.1 x.2.2).flatMap (Am lo hi)).map Ar=xx (oO l x.1) lo hi:=λx o=>by
     obtain⟨A,p,B,e,g,h,q⟩:=Oi (v:=x.1) (a:=x.2.1) (b:=x.2.2) o;have i:=c.2.2.2.2 A p B e;rw[g,<-h,<-q]at i;exact Yz i
    rw[List.flatMap_def,List.flatMap_def,iq m]
   rw[k];refine(SX (α:=Val (l+1)) (λv=>xx (oO l v) lo hi) t.ks a b).trans ?_;show _=(t.ks.flatMap λx=>oO l x.2).filter _;rw[List.filter_flatMap]
   rfl
  .rw[if_neg f,Jy c (by simpa using f)];rfl
end Go.Proofs.YtpaniebomegnbaaGreat
namespace Coup
open Go Go.RowKit
structure BC(w:World)(ds:List Nat):Prop where
 d:∀ D∈ds,w.heap[D]?=some (.deferred (some []))
 nd:ds.Nodup
namespace BC
variable {w w':World}{ds:List Nat}
theorem lt(h:BC w ds):∀ D∈ds,D<w.heap.size:=λD a=>(aX.1 (h.d D a)).1
theorem nD{M:List Nat}(h:BC w ds)(k:Kp M w w')(hM:∀ D∈ds,D∉M):BC w' ds:=⟨λD a=>(k.block D (h.lt D a) (hM D a)).trans (h.d D a),h.nd⟩
theorem only{g:Nat}(h:BC w ds)(ho:Only g w w')(hg:g∉ds):BC w' ds:=h.nD (Kp.rJ ho) λD a c=>hg (aJ.1 c▸a)
end BC
def YO(ds:List Nat):List Dm:=ds.map Dm.m
section
variable {md:Option Nat->Prop}{P:Program}{n:Nat}{Q:Post}{ρ:Env}{w:World}
theorem zjR{rs:List ResultVar}{R:Value->World->Prop}:∀ {ds:List Nat} {w:World},BC w ds->(∀ w',Kp ds w w'->∃ vs,xA P w' ρ rs vs/\R (pack vs) w')->GV P rs R ρ (YO ds) w
 |[],w,_,h=>h w (Kp.refl _ _)
 |D::ds,w,hm,h=>by
  have c:=cB.1 hm.nd;have e:Only D w (w.putObj D (.deferred none)):=EA _;have f:BC (w.putObj D (.deferred none)) ds:=(show BC w ds from⟨λE g=>hm.d E (aj _ g),c.2⟩).only e c.1;refine⟨hm.d D ig,zjR f λw' a=>h w' ?_⟩;exact((Kp.rJ e).weak λk _ a=>by rw[aJ.1 a];simp).trans (a.weak λk _ a=>by simp[a])
theorem zs6{rs:List ResultVar}{R:Value->World->Prop}(ds:List Nat)(hm:BC w ds)(hms:ρ.ms=YO ds)(h:∀ w',Kp ds w w'->∃ vs,xA P w' ρ rs vs/\R (pack vs) w'):Eb P rs R .ret ρ w:=by
 show GV P rs R ρ ρ.ms w;rw[hms];exact zjR hm h
def JL(P:Program)(t:Nat):Bool:=match P.underlying t with|some (.func _ _ _)=>true|_=>false
theorem zu8{d:Option Nat}{ty:TypeId}{pos:String}{af:Array Edge}{gd:Option (Nat × Bool)}{t t':Nat}{x:Operand}{f:Fn}{a b:Array Value}(ht:JL P t=true)(hx:ev ρ x= .func f a b):(execOp (ev ρ) ⟨d, .binOp .eql t x (.const .nilFunc) t',ty,pos,af,gd⟩).run P w= .ok (.value (.bool false)) w:=by
 unfold JL at ht
 split at ht
 .rename_i c
  have e:(eqGuard .eql t x (.const .nilFunc) (.func f a b) .nilFunc).run P w= .ok () w:=by
   unfold eqGuard;simp
  have g:∀ n,(Op.equalIn (n+1) t (.func f a b) .nilFunc).run P w= .ok false w:=λn=>by
   simp only[Op.equalIn,Sem.run_bind,run_underlying c,Result.andThen_ok]
   rfl
  have h:(binOp .eql t (.func f a b) .nilFunc).run P w= .ok (.bool false) w:=by
   simp only[binOp];simp[Op.equal,Op.maxDepth,g 9999]
  have i:ev ρ (.const .nilFunc)= .nilFunc:=rfl;simp only[execOp,hx,i,Sem.run_bind,e,h,Result.andThen_ok]
  rfl
 .cases ht
end
theorem Two.more{X Y:VE}[hX:nz X][hY:nz Y]{lo:Nat}{L M N:List Nat}{w w':World}(h:Two X Y lo L w)(k:Kp M w w')(hM:∀ b∈M,b<lo\/b∈L)(hN:∀ b∈N,b∈L\/w.heap.size<=b)(hN':∀ b∈N,b<w'.heap.size):Two X Y lo (N++L) w':=by
 have g:∀ b,b<w.heap.size->b∉L->b∉N++L:=λb hb c a=>(ay.1 a).elim (λa=>(hN b a).elim c λl=>absurd hb (bW.2 l)) c
 obtain⟨⟨B,C,i,j,e,f⟩,m,o⟩:=h;refine⟨⟨B,C,?_,?_,λb hb=>⟨(e b hb).1,(e b hb).2.1,g b (hX.lt i b hb) (e b hb).2.2⟩,λb hb=>⟨(f b hb).1,g b (hY.lt j b hb) (f b hb).2⟩⟩,ag m k.size,λb hb=>?_⟩
 .exact hX.nD i k λb hb a=>(hM b a).elim (λc=>absurd (e b hb).1 (dW.2 c)) (e b hb).2.2
 .exact hY.nD j k λb hb a=>(hM b a).elim (λc=>absurd (f b hb).1 (dW.2 c)) (f b hb).2
 .rcases ay.1 hb with hb|hb
  .exact hN' b hb
  .exact ae (o b hb) k.size
section
variable {P:Program}{ρ:Env}{w:World}{d:Option Nat}{ty:TypeId}{pos:String}{af:Array Edge}{gd:Option (Nat × Bool)}{K:Value->World->Prop}
theorem zne:∀ (l:List UInt8) (a:Addr) (acc:ByteArray),(∀ j x,l[j]?=some x->w.cell? (a.add j)=some (.int .u8 (x.toNat:Int)))->(Extern.Bytes.loadBytes a l.length acc).run P w= .ok ⟨acc.data++l.toArray⟩ w
 |[],a,acc,_=>by simp[Extern.Bytes.loadBytes]
 |x::l,a,acc,h=>by
  have f:w.cell? a=some (.int .u8 (x.toNat:Int)):=by simpa [Addr.add]using h 0 x rfl
  have g:=zne l (a.add 1) (acc.push x) (λj i k=>by
   have e:(a.add 1).add j=a.add (j+1):=by
    unfold Addr.add
    by_cases c:j=0
    .subst c;simp
    .simp[c];omega
   rw[e];exact h (j+1) i (by simpa using k))
  have m:((x.toNat:Int).toNat).toUInt8=x:=by simp
  simp only[aD,Extern.Bytes.loadBytes,Sem.run_bind,run_load,f,Result.andThen,m];rw[g]
  congr 1
  apply ByteArray.ext;simp[ByteArray.push]
theorem zpR{p:Option Addr}{c:Nat}{l:List UInt8}(h:nM w p l.length 1 (bv l)):(Extern.Bytes.bytesOf (.slice p l.length c)).run P w= .ok ⟨l.toArray⟩ w:=by
 cases p with
 |none=>
  have f:l=[]:=by
   cases l with
   |nil=>rfl
   |cons x l=>
    obtain⟨g,i,e,_⟩:=h.some ig;cases e
  subst f
  rfl
 |some a=>
  show(Extern.Bytes.loadBytes a l.length .empty).run P w=_;rw[zne]
  .congr 1
   apply ByteArray.ext;simp
  .intro j x c
   have k:=(aL.1 c).1;obtain⟨g,i,e,_⟩:=h.some dB;cases e;rw[Addr.add_lit];exact h.cell j (by unfold bv;rw[aV,c];rfl)
theorem Lb {f:FuncId} {fn:Func} {x y:Operand} {ats:Array Nat} (hf:P.funcs[f]?=some fn) (hname:(fn.name == "runtime.NumGoroutine")=false)
  (hb:fn.body.isNone=true) (hn:Extern.findNext fn=none) (he:Extern.find fn=some Extern.BytealgCompare.compare) {p q:Option Addr} {c e:Nat} {a b:List UInt8}
  (hx:ev ρ x= .slice p a.length c) (hy:ev ρ y= .slice q b.length e) (ha:nM w p a.length 1 (bv a)) (hb2:nM w q b.length 1 (bv b)):
  (execOp (ev ρ) ⟨d, .call ⟨.value (.func f),#[x,y],ats⟩,ty,pos,af,gd⟩).run P w= .ok (.value (VB (Lib.compareBytes a b))) w:=by
 have f:=run_callFunc_extern hf hname hb hn he #[.slice p a.length c, .slice q b.length e] w;have g:(Extern.BytealgCompare.compare #[.slice p a.length c, .slice q b.length e]).run P w= .ok (VB (Lib.compareBytes a b)) w:=by
  change Sem.run P (do pure (goInt (Extern.BytealgCompare.cmp (<-Extern.Bytes.bytesOf (.slice p a.length c)) (<-Extern.Bytes.bytesOf (.slice q b.length e))))) w=_
  simp only[Sem.run_bind,zpR ha,zpR hb2,Sem.run_pure,Result.andThen];rw[Lib.cmp_eq]
  rfl
 rw[g,Result.andThen_ok]at f;have h:(#[x,y]:Array Operand).map (ev ρ)=#[.slice p a.length c, .slice q b.length e]:=by simp[hx,hy]
 simp[execOp,resolve,h,ev,Deferred.ofValue,invoke,f,Result.andThen]
theorem NG {t e sz:Nat} {x:Operand} {lo hi mx:Option Operand} {p pk:Option Addr} {len cap:Nat} (l h m k c:Nat) (hpk:(if m=l then p else p.map (·.add (l*sz)))=pk) (ht:Df P t e sz=true) (hx:ev ρ x= .slice p len cap)
  (hl:ob ρ lo 0 l) (hh:ob ρ hi len h) (hm:ob ρ mx cap m) (hmh:mx.isSome=true->hi.isSome=true) (h1:l<=h) (h2:h<=m) (h3:m<=cap) (hk:h - l=k) (hc:m - l=c):
  (execOp (ev ρ) ⟨d, .slice t x lo hi mx,ty,pos,af,gd⟩).run P w= .ok (.value (.slice pk k c)) w:=by
 rw[Oj l h m ht hx hl hh hm hmh h1 h2 h3,hpk,hk,hc]
def Vs(P:Program)(tS e:Nat)(size:Nat):Bool:=match P.underlying tS with|some (.slice e')=>decide (e'=e) && (match P.info? e with|some j=>decide (j.size=size)|none=>false)|_=>false
theorem zs7{tS e size:Nat}(h:Vs P tS e size=true):P.underlying tS=some (.slice e)/\∃ j,P.info? e=some j/\j.size=size:=by
 unfold Vs at h
 split at h
 .rename_i f c
  rw[aN,decide_eq_true_eq]at h;obtain⟨rfl,a⟩:=h
  split at a
  .rename_i j e
   exact⟨c,j,e,of_decide_eq_true a⟩
  .cases a
 .cases h
theorem zu9 {f:FuncId} {fn:Func} {x y:Operand} {ats:Array Nat} {tS tR e size:Nat} (hf:P.funcs[f]?=some fn) (hname:(fn.name == "runtime.NumGoroutine")=false)
  (hb:fn.body.isNone=true) (hn:Extern.findNext fn=none) (he:Extern.find fn=some (Extern.SlicesOverlaps.overlaps #[tS,tS] #[tR])) (ht:Vs P tS e size=true)
  {g o g2 o2 la ca lb cb t1 t2 k2:Nat} {l1:List Value} (hx:ev ρ x= .slice (some ⟨g,o,none⟩) la ca) (hy:ev ρ y= .slice (some ⟨g2,o2,none⟩) lb cb)
  (hr:row w g l1 t1) (hs:w.shape? g2=some (t2,k2)) (hk:k2≠0) (hne:g≠g2):
  (execOp (ev ρ) ⟨d, .call ⟨.value (.func f),#[x,y],ats⟩,ty,pos,af,gd⟩).run P w= .ok (.value (.bool false)) w:=by
 have c:=run_callFunc_extern hf hname hb hn he #[.slice (some ⟨g,o,none⟩) la ca, .slice (some ⟨g2,o2,none⟩) lb cb] w;obtain⟨f,j,h,i⟩:=zs7 ht;have k:∀ w:World,(Go.sizeOf e).run P w= .ok size w:=λw=>by simp[Go.sizeOf,typeInfo,h,i,Result.andThen]
 have a:=hr;unfold row at a;rw[Lib.run_overlaps_apart w tS tR e f size k ⟨g,o,none⟩ ⟨g2,o2,none⟩ la ca lb cb hne t1 t2 l1.length k2 hr.shape hs hk (by simp[World.frozen?,a]) (by simp[World.frozen?,a]),Result.andThen_ok]at c;have l:(#[x,y]:Array Operand).map (ev ρ)=#[.slice (some ⟨g,o,none⟩) la ca, .slice (some ⟨g2,o2,none⟩) lb cb]:=by simp[hx,hy]
 simp[execOp,resolve,l,ev,Deferred.ofValue,invoke,c,Result.andThen]
end
end Coup
namespace Go.Proofs.YtpaniebomegnbaaGreat
open Go Go.RowKit Coup
theorem zpS:∀ (a b:Key),Lib.compareBytes a b=sU a b
 |[],[]=>rfl
 |[],_::_=>rfl
 |_::_,[]=>rfl
 |x::a,y::b=>by rw[Lib.compareBytes,sU,zpS a b]
theorem Ik{pa pb:Option Addr}{ca cb:Nat}{a b:Key}(w:World)(ha:nM w pa a.length 1 (bv a))(hb:nM w pb b.length 1 (bv b)):
  CQ 39 [.slice pa a.length ca, .slice pb b.length cb] w (λv w'=>v=VB (sU a b)/\VD w w'):=by
 have c:=Below.refl w.heap.size w;refine nZ (rs:=[.tmp 4]) (n:=8) Tryz.func39 rfl rfl Tryz.ntmps39 dA rfl<|ny<|oG<|ng<|ng<|mZ (Lb Tryz.func104 dA dA dA dA rfl rfl ha hb)<|nA<|nk<|nY<|ou [_] ⟨rfl,trivial⟩ ?_
 exact⟨congrArg (Value.int .i64) (zpS a b),c⟩
def pV(p:Option Addr)(cp:Nat)(c:Key × V3):List Value:=[.slice p c.1.length cp,VB (c.2.1:Int),VB (c.2.2.1:Int),VB (c.2.2.2:Int)]
def sV(w:World)(bl:List Nat)(xs:List Value)(c:Key × V3):Prop:=∃ p cp,xs=pV p cp c/\nM w p c.1.length 1 (bv c.1)/\(∀ g o,p=some ⟨g,o,none⟩->g∈bl)/\c.1.length<=cp
structure rD(w:World)(bl:List Nat)(vs:List Value)(cs:List (Key × V3)):Prop where
 len:vs.length=cs.length*4
 at_:∀ i c,cs[i]?=some c->sV w bl ((vs.drop (i*4)).take 4) c
section
variable {w w':World}{bl bl':List Nat}{vs xs:List Value}{cs:List (Key × V3)}{c:Key × V3}
theorem sV.nD{M:List Nat}(h:sV w bl xs c)(k:Kp M w w')(hM:∀ b∈bl,b∉M):sV w' bl xs c:=by
 obtain⟨p,c,f,i,a,j⟩:=h;exact⟨p,c,f,i.nD k λg o e=>hM g (a g o e),a,j⟩
theorem sV.mono(h:sV w bl xs c)(hb:∀ b∈bl,b∈bl'):sV w bl' xs c:=by
 obtain⟨p,a,c,f,i,j⟩:=h;exact⟨p,a,c,f,λg o e=>hb g (i g o e),j⟩
theorem sV.new(h:sV w bl xs c)(hb:VD w w'):sV w' bl xs c:=h.nD (M:=[]) (Kp.of_below hb) ig
namespace rD
theorem nil(w:World)(bl:List Nat):rD w bl [] []:=⟨rfl,λi c a=>by cases a⟩
theorem nD{M:List Nat}(h:rD w bl vs cs)(k:Kp M w w')(hM:∀ b∈bl,b∉M):rD w' bl vs cs:=⟨h.len,λi c a=>(h.at_ i c a).nD k hM⟩
theorem mono(h:rD w bl vs cs)(hb:∀ b∈bl,b∈bl'):rD w bl' vs cs:=⟨h.len,λi c a=>(h.at_ i c a).mono hb⟩
theorem new(h:rD w bl vs cs)(hb:VD w w'):rD w' bl vs cs:=h.nD (M:=[]) (Kp.of_below hb) ig
end rD
theorem BM{g o n i:Nat}(h:nM w (some ⟨g,o,none⟩) n 4 vs)(hc:rD w bl vs cs)(hi:cs[i]?=some c):Ld Tryz.prog w 90 ⟨g,o+i*4,none⟩ (.agg ((vs.drop (i*4)).take 4).toArray):=
 Ld.zu (P:=Tryz.prog) (t:=90) (j:=i*4) (k:=4) h dA dA (by rw[hc.len];have:=(aL.1 hi).1;omega)
end
theorem zs8{bl:List Nat}{xs:List Value}{c:Key × V3}{pk:Option Addr}{ck:Nat}{k:Key}(w:World)(hc:sV w bl xs c)(hk:nM w pk k.length 1 (bv k)):
  CQ 106 [.agg xs.toArray, .slice pk k.length ck] w (λv w'=>v=VB (sU c.1 k)/\VD w w'):=by
 obtain⟨p,e,rfl,hp,_,_⟩:=hc;have a:=Below.refl w.heap.size w;refine nZ (rs:=[.tmp 4]) (n:=9) Tryz.func106 rfl rfl Tryz.ntmps106 dA rfl<|ny<|nK<|qi (pV p e c) rfl<|λi w2 j f g=>?_
 replace a:=a.acc g;refine oG<|mZ (nG 0)<|mZ (nH f)<|ng<|nP (Ik w2 (hp.new a) (hk.new a)) ?_
 rintro _ k ⟨rfl,h⟩;replace a:=a.acc h;refine lZ ?_;exact⟨rfl,a⟩
theorem CL{α:Type}{ks:List (Key × α)}{k:Key}(hr:tN ks){i:Nat}{x:Key × α}(h:ks[i]?=some x):sU x.1 k<0↔i<pY ks k:=by
 obtain⟨A,B,e,hp,f,g⟩:=VO ks k;rw[hp];subst e
 constructor
 .intro a
  refine Nat.lt_of_not_le λl=>?_
  rw[bB l]at h;cases B with
  |nil=>cases h
  |cons y B=>
   have c:=g y rfl;cases hj:i - A.length with
   |zero=>rw[hj]at h;cases h;exact c a
   |succ j=>
    rw[hj]at h;have m:x∈B:=aO h;have o:=Al hr rfl x m;exact c<|o.trans a
 .intro a
  rw[bF a]at h;exact f x<|aO h
theorem LC(i j:Nat):Int.fdiv ((i:Int)+(j:Int)) (2 ^ (min (1:Int).toNat IntKind.u64.bits))=(((i+j) / 2:Nat):Int):=by
 show Int.fdiv _ (2 ^ 1)=_;rw[gY _ iT];omega
theorem zs9{bl:List Nat}{vs:List Value}{cs:List (Key × V3)}{p pk:Option Addr}{n c ck:Nat}{k:Key}(w:World)(hn:n=cs.length)(hn2:n<=1000)(h:nM w p n 4 vs)(hc:rD w bl vs cs)(hr:tN cs)(hk:nM w pk k.length 1 (bv k)):
   CQ 105 [.slice p n c, .slice pk k.length ck, .func (.func 106) #[] #[]] w (λv w'=>v= .tuple #[VB (pY cs k:Int), .bool (isK cs k)]/\VD w w'):=by
 have a:=Below.refl w.heap.size w;have J:maxLen=9223372036854775807:=by decide
 have K:=h.max;have t:=Xp cs k;refine nZ (rs:=[.tmp 6, .tmp 7]) (n:=49) Tryz.func105 rfl rfl Tryz.ntmps105 dA rfl<|ny<|nA<|oG<|ng<|mZ (oV (e:=90) (sz:=4) dA rfl rfl)<|oG<|ng<|nA<|nA<|nk<|nI<|pE ?_
 refine qY (α:=Nat × Nat) (0,n) (λl=>[(9,VB (l.1:Nat)),(10,VB (l.2:Nat)),(8,VB (n:Nat)),(0, .slice p n c),(1, .slice pk k.length ck),(2, .func (.func 106) #[] #[])]) (λl w'=>l.1<=pY cs k/\pY cs k<=l.2/\l.2<=n/\VD w w') (λl=>l.2 - l.1)
   VF ⟨aC _,by rw[hn];exact t,ax _,a⟩ ?_
 rintro⟨i,j⟩ f s ⟨u,y,z,a⟩;dsimp only at u y z;refine nI<|ny<|ng<|ng<|mZ (pI rfl rfl)<|nk<|oZ rfl (λA=>?_)<|λA=>?_
 ·
  refine nU<|nJ<|pE<|nI ?_
  have L:i<j:=by omega
  refine nO<|ng<|ng<|mZ (oJ rfl rfl (Coup.nV dB))<|mZ (rP (k:=.u64) dA dA rfl (wu64 dB))<|mZ (xm rfl rfl dB (LC i j))<|mZ (rP (k:=.i64) dA dA rfl (Coup.nV dB))<|nA<|nk<|nI ?_
  have g:∃ m,cs[(i+j) / 2]?=some m:=⟨_,aG dB⟩;obtain⟨m,g⟩:=g;have o:=h.some dB;obtain⟨B,C,rfl,D⟩:=o;refine nO<|ng<|ng<|ng<|mZ (qZ (e:=90) (sz:=4) dA rfl rfl ((i+j) / 2) dB dB)<|mZ (oK rfl (BM (h.new a) (hc.new a) g))<|ng<|qA rfl (uH rfl rfl rfl) (zs8 s ((hc.at_ _ _ g).new a) (hk.new a)) ?_
  rintro _ M ⟨rfl,E⟩;replace a:=a.acc E;refine mZ (pI rfl rfl)<|nk<|oZ rfl (λq=>?_)<|λq=>?_
  ·
   refine nO<|ng<|mZ (oJ rfl rfl (Coup.nV dB))<|nA<|oI<|pO ?_
   have F:=(CL hr g).1 q;refine oM ⟨((i+j) / 2+1,j),by dsimp only;omega,VF,by dsimp only;omega,by dsimp only;omega,by dsimp only;omega,a⟩
  ·
   have F:¬(i+j) / 2<pY cs k:=λG=>q ((CL hr g).2 G)
   refine nO<|ng<|nA<|oI<|pO<|oM ⟨(i,(i+j) / 2),by dsimp only;omega,VF,by dsimp only;omega,by dsimp only;omega,by dsimp only;omega,a⟩
 ·
  obtain rfl:i=j:=by omega
  obtain rfl:i=pY cs k:=by omega
  refine qL<|qK<|rq<|qO<|nJ<|ny<|ng<|ng<|ng<|mZ (pI rfl rfl)<|ng<|sZ 39 rfl (λH=>?_)<|λH=>?_
  ·
   refine nE<|ng<|nE<|ng<|nE<|ng<|nE ?_
   have g:∃ m,cs[pY cs k]?=some m:=⟨_,aG dB⟩;obtain⟨m,g⟩:=g;have o:=h.some dB;obtain⟨B,C,rfl,D⟩:=o;refine mZ (qZ (e:=90) (sz:=4) dA rfl rfl (pY cs k) dB dB)<|nE<|mZ (oK rfl (BM (h.new a) (hc.new a) g))<|nE<|ng<|nE<|qA rfl (uH rfl rfl rfl) (zs8 s ((hc.at_ _ _ g).new a) (hk.new a)) ?_
   rintro _ N ⟨rfl,I⟩;replace a:=a.acc I;refine nE<|mZ (qB rfl rfl)<|mZ (pK rfl)<|nA<|nA<|nk<|nY<|ou [_,_] ⟨rfl,rfl,trivial⟩ ?_;have r:isK cs k=decide (sU m.1 k=0):=by
    unfold isK;rw[g];exact decide_eq_decide.2 ⟨λe=>by rw[e];exact XM k,Vl⟩
   exact⟨by rw[r];rfl,a⟩
  ·
   refine nN<|nN<|nN<|nN<|nN<|nN<|nN<|nN<|mZ (oP rfl)<|nA<|nA<|oI<|nJ<|nY<|ou [_,_] ⟨rfl,rfl,trivial⟩ ?_
   have r:isK cs k=false:=by
    unfold isK;rw[bK dB]
   exact⟨by rw[r];rfl,a⟩
theorem ZE(n:Nat):IntKind.u8.wrap (n:Int)=((u8 n).toNat:Int):=by
 rw[IntKind.wrap_u8];unfold u8;rw[eU];omega
theorem LY(n:Nat):[Value.int .u8 (IntKind.u8.wrap ((n:Int).fdiv (2 ^ (min (8:Int).toNat IntKind.i64.bits)))), .int .u8 (IntKind.u8.wrap (n:Int))]=bv (oH 2 n):=by
 have a:=congrArg (List.drop 2) (SS n);exact a
theorem FY(n:Nat):[Value.int .u8 (IntKind.u8.wrap ((n:Int).fdiv (2 ^ (min (24:Int).toNat IntKind.i64.bits)))), .int .u8 (IntKind.u8.wrap ((n:Int).fdiv (2 ^ (min (16:Int).toNat IntKind.i64.bits)))), .int .u8 (IntKind.u8.wrap ((n:Int).fdiv (2 ^ (min (8:Int).toNat IntKind.i64.bits)))), .int .u8 (IntKind.u8.wrap (n:Int))]=bv (oH 4 n):=SS n
theorem zW{bl:List Nat}{xs:List Value}{c:Key × V3}{lv:Nat}(w:World)(hc:sV w bl xs c)(hok:c.1.length<=300):
   CQ 135 [.agg xs.toArray,VB (lv:Int)] w (λv w'=>og w' w.heap.size 5 1 v (qh lv c).length (bv (qh lv c))/\VD w w'):=by
 obtain⟨p,E,rfl,hp,_,_⟩:=hc;have a:=Below.refl w.heap.size w;have X:maxLen=9223372036854775807:=by decide
 have F:=ZE c.1.length;have Y:=ax w.heap.size;obtain⟨n,j⟩:∃ n,(if lv=0 then c.2.1 else c.2.2.2)=n:=⟨_,rfl⟩;have G:=FY n;have H:=LY c.2.2.1;refine nZ (rs:=[.tmp 4]) (n:=51) Tryz.func135 rfl rfl Tryz.ntmps135 dA rfl<|ny<|nK<|qi (pV p E c) rfl<|λI w2 Z f J=>?_
 replace a:=a.acc J;refine oG<|mZ (nG 0)<|mZ (nH f)<|mZ (oV (e:=5) (sz:=1) dA rfl rfl)<|mZ (rP (k:=.u8) dA dA rfl rfl) ?_
 have a0:=f.lt;refine nK<|tT (e:=5) (.int .u8 (IntKind.u8.wrap (c.1.length:Int))) ([.int .u8 (IntKind.u8.wrap (c.1.length:Int))]) ([Value.int .u8 0]) 1 dA dA rfl rfl rfl ⟨iT,iT⟩<|λK a1 a2 l u=>?_
 replace f:=f.new u;replace a:=a.acc u;refine mZ (nG 0)<|mZ (nH f) ?_
 rw[show[Value.int .u8 (IntKind.u8.wrap (c.1.length:Int))]=bv [u8 c.1.length] by rw[F];rfl]at l;have a3:=a.size;have o:=l.owns (base:=K) (m:=1) (sz:=1) (ax _) rfl dB;have L:=hp.new a;have a4:=l.lt;refine nK<|tu (e:=5) (sz:=1) (bytes:=1) (z:=Value.int .u8 0) dA rfl dA rfl iT rfl o rfl L (uf _) jB dB (λy=>dB)<|λM N h A a5=>?_
 replace f:=f.own o A dB;replace a:=a.own o A dB;refine oG<|mZ (nG 3)<|mZ (nH f)<|nA<|nk<|wO (λ_:Unit=>[(6,VB (n:Int)),(5,M),(1,VB (lv:Int)),(2,VA I)]) (λ_ w'=>N=w') ?_ ?_
 ·
  refine ny<|ng<|mZ (qB rfl rfl)<|nk<|oZ rfl (λq=>?_)<|λq=>?_
  ·
   refine nO<|mZ (nG 1)<|mZ (nG 0)<|mZ (nH f)<|nA<|oI<|oM ⟨(),⟨by rw[<-j,if_pos dB];rfl,rfl,rfl,rfl,rfl⟩,rfl⟩
  ·
   refine nU<|oM ⟨(),⟨by rw[<-j,if_neg dB];rfl,rfl,rfl,rfl,rfl⟩,rfl⟩
 ·
  rintro _ a6 a7 rfl;refine ny<|ng<|ng<|mZ (xm rfl rfl dB rfl)<|mZ (rP (k:=.u8) dA dA rfl rfl)<|ng<|mZ (xm rfl rfl dB rfl)<|mZ (rP (k:=.u8) dA dA rfl rfl)<|ng<|mZ (xm rfl rfl dB rfl)<|mZ (rP (k:=.u8) dA dA rfl rfl)<|ng<|mZ (rP (k:=.u8) dA dA rfl rfl)<|nK<|Jp (e:=5) [(0, .int .u8 (IntKind.u8.wrap ((n:Int).fdiv (2 ^ (min (24:Int).toNat IntKind.i64.bits))))),(1, .int .u8 (IntKind.u8.wrap ((n:Int).fdiv (2 ^ (min (16:Int).toNat IntKind.i64.bits))))),(2, .int .u8 (IntKind.u8.wrap ((n:Int).fdiv (2 ^ (min (8:Int).toNat IntKind.i64.bits))))),(3, .int .u8 (IntKind.u8.wrap (n:Int)))] [.int .u8 0] 1 dA dA rfl dB dB (by intro i O;rcases i with _|_|_|_|i<;>first |(simp[Value.cells];done)|(exfalso;simp only[aD,aY]at O;omega)) kY<|λP Q a8 r s=>?_
  replace f:=f.new s;replace h:=h.new s;replace a:=a.acc s;replace r:row Q P (bv (oH 4 n)) 5:=by rw[<-G];exact r
  have R:=r.tY (m:=4) (sz:=1) (by rw[oL,rT]) dB;refine nK<|tu (e:=5) (sz:=1) (bytes:=1) (z:=Value.int .u8 0) dA rfl dA rfl iT rfl h rfl R (uf _) jB dB (λy=>dB)<|λa9 b0 g B b1=>?_
  replace f:=f.own h B dB;replace a:=a.own h B dB;refine nA<|nk<|nI<|ny<|ng<|mZ (qB rfl rfl)<|nk<|oZ rfl (λq=>?_)<|λq=>?_
  ·
   refine nO<|ng<|mZ (nG 1)<|mZ (nG 1)<|mZ (nH f)<|mZ (xm rfl rfl dB rfl)<|mZ (rP (k:=.u8) dA dA rfl rfl)<|mZ (nG 1)<|mZ (nG 1)<|mZ (nH f)<|mZ (rP (k:=.u8) dA dA rfl rfl)<|nK<|Jc (e:=5) (.int .u8 (IntKind.u8.wrap ((c.2.2.1:Int).fdiv (2 ^ (min (8:Int).toNat IntKind.i64.bits))))) (.int .u8 (IntKind.u8.wrap (c.2.2.1:Int))) ([.int .u8 (IntKind.u8.wrap ((c.2.2.1:Int).fdiv (2 ^ (min (8:Int).toNat IntKind.i64.bits))))]) ([.int .u8 (IntKind.u8.wrap (c.2.2.1:Int))]) ([Value.int .u8 0]) 1 dA dA rfl rfl rfl rfl iw iw ⟨iT,iT⟩<|λS T b2 t C=>?_
   replace g:=g.new C;replace a:=a.acc C;replace t:row T S (bv (oH 2 c.2.2.1)) 5:=by rw[<-H];exact t
   have U:=t.tY (m:=2) (sz:=1) (by rw[oL,rT]) dB;refine nK<|tu (e:=5) (sz:=1) (bytes:=1) (z:=Value.int .u8 0) dA rfl dA rfl iT rfl g rfl U (uf _) jB dB (λy=>dB)<|λb3 b4 D V b5=>?_
   replace a:=a.own g V dB;refine oG<|ng<|nA<|nk<|nY<|ou [_] ⟨rfl,trivial⟩<|⟨?_,a⟩
   rw[<-wR,<-wR,<-wR]at D;have e:qh lv c=[u8 c.1.length]++c.1++oH 4 n++oH 2 c.2.2.1:=by
    unfold qh;rw[if_pos dB,<-j,if_pos dB];simp
   rw[e,show([u8 c.1.length]++c.1++oH 4 n++oH 2 c.2.2.1).length=1+c.1.length+4+2 by simp[rT];omega];exact og.mono D dB
  ·
   refine nU<|nJ<|ny<|ng<|nA<|nk<|nY<|ou [_] ⟨rfl,trivial⟩<|⟨?_,a⟩
   rw[<-wR,<-wR]at g;have e:qh lv c=[u8 c.1.length]++c.1++oH 4 n:=by
    unfold qh;rw[if_neg dB,<-j,if_neg dB];simp
   rw[e,show([u8 c.1.length]++c.1++oH 4 n).length=1+c.1.length+4 by simp[rT];omega];exact og.mono g dB
def oQ(x:MN)(p:Option Addr)(cp:Nat):List Value:=[VB (x.n:Int),VB (x.lv:Int), .slice p x.cs.length cp]
def qC(w:World)(bl:List Nat)(xs:List Value)(x:MN):Prop:=∃ p cp vs,xs=oQ x p cp/\nM w p x.cs.length 4 vs/\rD w bl vs x.cs/\(∀ g o,p=some ⟨g,o,none⟩->g∈bl)/\x.cs.length<=cp
section
variable {w w':World}{bl bl':List Nat}{xs:List Value}{x:MN}
theorem qC.nD{M:List Nat}(h:qC w bl xs x)(k:Kp M w w')(hM:∀ b∈bl,b∉M):qC w' bl xs x:=by
 obtain⟨p,c,vs,f,i,j,a,l⟩:=h;exact⟨p,c,vs,f,i.nD k λg o e=>hM g (a g o e),j.nD k hM,a,l⟩
theorem qC.mono(h:qC w bl xs x)(hb:∀ b∈bl,b∈bl'):qC w bl' xs x:=by
 obtain⟨p,a,vs,c,f,i,j,k⟩:=h;exact⟨p,a,vs,c,f,i.mono hb,λg o e=>hb g (j g o e),k⟩
theorem qC.new(h:qC w bl xs x)(hb:VD w w'):qC w' bl xs x:=h.nD (M:=[]) (Kp.of_below hb) ig
end
def pv(lv:Nat)(cs:List (Key × V3)):View:=⟨3,0,some [u8 lv]::cs.map λc=>some (qh lv c)⟩
theorem Ac(lv:Nat)(c:Key × V3):(qh lv c).length=1+c.1.length+if lv=0 then 6 else 4:=by
 unfold qh;rw[aD,aA]
 split
 .rw[aA,rT,rT];omega
 .rw[rT];omega
theorem ztb(lv:Nat):∀ cs:List (Key × V3),pU (cs.map λc=>some (qh lv c))=(cs.map λc=>(qh lv c).length).sum
 |[]=>rfl
 |c::cs=>by rw[bi,pU,ztb lv cs,bi,dh];rfl
theorem Md(lv:Nat)(cs:List (Key × V3)):rG (pv lv cs)=17+4*cs.length+(cs.map λc=>(qh lv c).length).sum:=by
 unfold rG pv;dsimp only;rw[pU,ztb,aD,aP];show 12+4*(cs.length+1)+(1+_)=_;omega
theorem Oh(x:MN):uM x.lv x.cs=decide (rG (pv x.lv x.cs)<=512):=by
 unfold uM;rw[Md]
theorem GG(lv:Nat)(cs:List (Key × V3)):xw (pv lv cs).slots=(pv lv cs).slots.length:=by
 unfold xw;rw[List.findIdx_eq_length];intro s a;unfold pv at a;rcases ak.1 a with rfl|a
 .rfl
 .obtain⟨c,_,rfl⟩:=bg.1 a
  rfl
theorem ztc(lv:Nat)(cs:List (Key × V3))(c:Key × V3):xZ (pv lv cs) (xw (pv lv cs).slots) (qh lv c)=pv lv (cs++[c]):=by
 rw[GG];unfold xZ Bv;rw[if_pos rfl];unfold pv;dsimp only;rw[bJ]
 rfl
theorem GK{lv:Nat}{cs:List (Key × V3)}(hc:∀ c∈cs,c.1.length<=300)(hs:rG (pv lv cs)<=512):Good (pv lv cs):=by
 refine⟨(show 3<=4 by omega),(show 0<2147483648 by omega),hs,λr hr=>?_,λf=>?_⟩
 .unfold pv at hr
  rcases ak.1 hr with e|hr
  .cases e;show 1<=400;omega
  .obtain⟨c,g,e⟩:=bg.1 hr
   cases e;rw[Ac];have:=hc c g
   split<;>omega
 .have a:=List.mem_of_getLast? f
  unfold pv at a;rcases ak.1 a with e|a
  .cases e
  .obtain⟨c,_,e⟩:=bg.1 a
   cases e
theorem Cm{lv:Nat}{cs:List (Key × V3)}{c:Key × V3}(hc:c.1.length<=300):yQ (pv lv cs) (qh lv c)=if 512<rG (pv lv (cs++[c]))then 8 else 0:=by
 have a:=Ac lv c;have e:¬400<(qh lv c).length:=by rw[a];split<;>omega
 unfold yQ Cs;rw[if_neg e,ztc]
theorem ztd(lv:Nat)(a b:List (Key × V3)):rG (pv lv a)<=rG (pv lv (a++b)):=by
 rw[Md,Md,aA,bJ,fT];omega
theorem Fq{lv:Nat}{cs:List (Key × V3)}{c:Key × V3}{v:Value}{base:Nat}(w:World)(hcs:∀ c∈cs,c.1.length<=300)(hs:rG (pv lv cs)<=512)(hc:c.1.length<=300)(hv:og w base 5 1 v (qh lv c).length (bv (qh lv c))):
  CQ 134 [.agg (bv (oW (pv lv cs))).toArray,v] w (λu w'=>(∃ k:Nat,u= .tuple #[.agg (bv (if 512<rG (pv lv (cs++[c]))then uN else oW (pv lv (cs++[c])))).toArray,VB (k:Int),VB (if 512<rG (pv lv (cs++[c]))then 8 else 0)])/\VD w w'):=by
 obtain⟨p,f,rfl⟩:=hv.form;refine(PP (pv lv cs) p f (qh lv c) w (GK hcs hs) hv.sl).to λu w' ⟨a,g⟩=>⟨?_,g⟩
 rw[Cm hc]at a;unfold Cc at a;rw[Cm hc,ztc]at a
 by_cases e:512<rG (pv lv (cs++[c]))
 .rw[if_pos e,if_pos e]
  rw[if_pos e,if_neg iT]at a;exact⟨_,a⟩
 .rw[if_neg e,if_neg e]
  rw[if_neg e,if_pos rfl]at a;exact⟨_,a⟩
theorem zt(p:Option Addr)(cp:Nat)(c:Key × V3):∀ u∈pV p cp c,u.oneCell'=true:=by
 intro u a;simp only[pV,ak,bq,or_false]at a;rcases a with rfl|rfl|rfl|rfl<;>rfl
theorem rD.ld{w:World}{bl:List Nat}{vs:List Value}{cs:List (Key × V3)}{c:Key × V3}{p:Option Addr}{n i:Nat}(hc:rD w bl vs cs)(h:nM w p n 4 vs)(hn:n=cs.length)(hi:cs[i]?=some c):∃ g o q qc,p=some ⟨g,o,none⟩/\sV w bl (pV q qc c) c/\∀ w',VD w w'->Ld Tryz.prog w' 90 ⟨g,o+i*4,none⟩ (.agg (pV q qc c).toArray):=by
 have l:=(aL.1 hi).1;obtain⟨g,o,rfl,m⟩:=h.some dB;obtain⟨q,qc,e,f,j,k⟩:=hc.at_ i c hi;refine⟨g,o,q,qc,rfl,⟨q,qc,rfl,f,j,k⟩,λw' a=>?_⟩;have:=BM (h.new a) (hc.new a) hi;rw[e]at this;exact this
theorem Ai{bl:List Nat}{xs:List Value}{x:MN}(w:World)(h:qC w bl xs x)(hl:x.lv<256)(hcs:∀ c∈x.cs,c.1.length<=300):
   CQ 70 [.agg xs.toArray] w (λv w'=>v= .tuple #[.agg (bv (if uM x.lv x.cs=true then oW (rW x)else uN)).toArray, .bool (uM x.lv x.cs)]/\VD w w'):=by
 obtain⟨p,E,vs,rfl,d1,e9,_,_⟩:=h;have a:=Below.refl w.heap.size w;have i7:maxLen=9223372036854775807:=by decide
 have i8:=d1.max;have f0:=ZE x.lv;have f1:=NH;obtain⟨R,a4⟩:=aa (oW ⟨3,0,[]⟩);obtain⟨pg,F⟩:∃ pg:List (Key × V3)->List UInt8,∀ cs,oW (pv x.lv cs)=pg cs:=⟨_,λ_=>rfl⟩;have f2:∀ w',CQ 133 [VB 3] w' (λv w2=>v= .tuple #[.agg (bv R).toArray,VB 0]/\VD w' w2):=λw'=>by
   have:=Rn 3 w';rw[if_pos iT]at this;rw[<-a4];exact this
 have i9:(bv R).length=512:=by rw[<-a4];exact vk (AJ iT)
 have f3:∀ w' (g:Nat),row w' g (bv [u8 x.lv]) 5->CQ 134 [.agg (bv R).toArray, .slice (some ⟨g,0,none⟩) 1 1] w' (λv w2=>v= .tuple #[.agg (bv (pg [])).toArray,VB 0,VB 0]/\VD w' w2):=λw' g f4=>by
   have:=CE 3 iT (some ⟨g,0,none⟩) 1 [u8 x.lv] w' (f4.tY (m:=1) (sz:=1) rfl dB) (show 1<=400 by omega);rw[<-a4,<-F];exact this
 have f5:∀ w' (cs:List (Key × V3)) (c:Key × V3) (v:Value) (base:Nat),(∀ c∈cs,c.1.length<=300)->rG (pv x.lv cs)<=512->c.1.length<=300->og w' base 5 1 v (qh x.lv c).length (bv (qh x.lv c))->
     CQ 134 [.agg (bv (pg cs)).toArray,v] w' (λu w2=>(∃ k:Nat,u= .tuple #[.agg (bv (if 512<rG (pv x.lv (cs++[c]))then uN else pg (cs++[c]))).toArray,VB (k:Int),VB (if 512<rG (pv x.lv (cs++[c]))then 8 else 0)])/\VD w' w2):=λw' cs c v base a5 f6 f7 a6=>by
   have:=Fq w' a5 f6 f7 a6;rw[F,F]at this;exact this
 have d2:rG (pv x.lv [])<=512:=by rw[Md];show 17+4*0+0<=512;omega
 have f8:=Oh x;have a7:∀ k,rG (pv x.lv (x.cs.take k))<=512->(bv (pg (x.cs.take k))).length=512:=λk f9=>by rw[<-F];exact vk (GK (λc a8=>hcs c (fH a8)) f9)
 have g0:rW x=pv x.lv x.cs:=rfl;rw[g0,F,f8];have g1:=a7 0 d2;rw[dz]at g1;refine nZ (rs:=[.cell 2 121, .tmp 3]) (n:=48) Tryz.func70 rfl rfl Tryz.ntmps70 dA rfl<|ny<|nK<|qi (oQ x p E) rfl<|λC w1 j0 l g2=>?_
 replace a:=a.acc g2;refine nK<|oD (List.replicate 512 (Value.int .u8 0)) dA<|λB w2 g3 j d3=>?_
 have d4:=ag a.size g3;replace l:=l.new d3;replace a:=a.acc d3;rw[AR]at j;refine oG<|nP (f2 w2) ?_
 rintro _ j1 ⟨rfl,a9⟩;replace l:=l.new a9;replace j:=j.new a9;replace a:=a.acc a9;refine ng<|mZ (nW rfl rfl)<|mZ (nW rfl rfl)<|nK<|oD (List.replicate 512 (Value.int .u8 0)) dA<|λz j2 b0 o b1=>?_
 have b2:=ag a.size b0;have b3:C<z:=ae l.lt b0;have b4:B<z:=ae j.lt b0;replace l:=l.new b1;replace j:=j.new b1;replace a:=a.acc b1;rw[AR]at o;refine nT<|oC 512 (bv R) o<|λj3 o b5=>?_
 replace l:=l.only b5 (ai b3);replace j:=j.only b5 (ai b4);replace a:=b5.below a b2;refine oG<|mZ (pz 512 o)<|mZ (nG 1)<|mZ (nH l)<|mZ (rP (k:=.u8) dA dA rfl rfl)<|nK<|tT (e:=5) (.int .u8 (IntKind.u8.wrap (x.lv:Int))) ([.int .u8 (IntKind.u8.wrap (x.lv:Int))]) ([Value.int .u8 0]) 1 dA dA rfl rfl rfl ⟨iT,iT⟩<|λg4 g5 j4 d5 S=>?_
 replace l:=l.new S;replace j:=j.new S;replace o:=o.new S;replace a:=a.acc S;rw[show[Value.int .u8 (IntKind.u8.wrap (x.lv:Int))]=bv [u8 x.lv] by rw[f0];rfl]at d5;refine nP (f3 g5 g4 d5) ?_;rintro _ j5 ⟨rfl,T⟩;replace l:=l.new T;replace j:=j.new T;replace o:=o.new T;replace a:=a.acc T;refine ng<|mZ (nW rfl rfl)<|mZ (nW rfl rfl)<|mZ (nW rfl rfl)<|nT<|oC 512 (bv (pg [])) o<|λj6 o b6=>?_
 replace l:=l.only b6 (ai b3);replace j:=j.only b6 (ai b4);replace a:=b6.below a b2;refine nk<|nI<|ny<|mZ (nG 2)<|mZ (nH l)<|mZ (oV (e:=90) (sz:=4) dA rfl rfl)<|ng<|nk<|pE ?_
 refine qY (α:=Nat) 0 (λk=>[(28,VB (k:Nat)),(27,VB (x.cs.length:Nat)),(26, .slice p x.cs.length E),(1,VA C),(2,VA B),(4,VA z)])
   (λk w'=>k<=x.cs.length/\rG (pv x.lv (x.cs.take k))<=512/\row w' C (oQ x p E) 87/\row w' B (bv uN) 121/\row w' z (bv (pg (x.cs.take k))) 121/\VD w w') (λk=>x.cs.length - k)
   VF ⟨aC _,d2,l,j,o,a⟩ ?_
 have j7:B<z:=by omega
 clear l j o a;rintro i f j8 ⟨j9,U,l,j,o,a⟩;have g6:=a7 i U;refine ny<|mZ (pI rfl rfl)<|nk<|nI<|oZ rfl (λg7=>?_)<|λg7=>?_
 ·
  refine lN ?_;have b7:∃ c,x.cs[i]?=some c:=⟨_,aG dB⟩;obtain⟨c,b8⟩:=b7;have b7:=e9.ld d1 rfl b8;obtain⟨d6,d7,b9,c4,rfl,d8,g8⟩:=b7;have k0:=zt b9 c4 c;have k7:(pV b9 c4 c).length=4:=rfl;have g9:x.cs.take i++[c]=x.cs.take (i+1):=by rw[bf,b8];rfl
  have c5:c.1.length<=300:=hcs c (aO b8);have h0:∀ c∈x.cs.take i,c.1.length<=300:=λc a8=>hcs c (fH a8)
  obtain⟨Z,V⟩:=aa ((if 512<rG (pv x.lv (x.cs.take (i+1)))then uN else pg (x.cs.take (i+1))));have k8:(bv Z).length=512:=by rw[<-V];split;exact f1;exact a7 _ dB
  have X:=λw' v base a6=>f5 w' (x.cs.take i) c v base h0 U c5 a6
  simp only[g9,V]at X;refine nO<|mZ (qZ (e:=90) (sz:=4) dA rfl rfl (i) dB dB)<|mZ (oK rfl (g8 _ a))<|nK<|oD ([VC,VB 0,VB 0,VB 0]) dA<|λc6 k9 Y G a0=>?_
  have h1:=ag a.size Y;have h2:C<c6:=ae l.lt Y;have h3:B<c6:=ae j.lt Y;have h4:z<c6:=ae o.lt Y;replace l:=l.new a0;replace j:=j.new a0;replace o:=o.new a0;replace a:=a.acc a0;refine nT<|oC 4 (pV b9 c4 c) G<|λl0 G a1=>?_
  replace l:=l.only a1 (ai h2);replace j:=j.only a1 (ai h3);replace o:=o.only a1 (ai h4);replace a:=a1.below a h1;refine nk<|wO (λr:Nat=>[(8,VA r),(10,VB (if 512<rG (pv x.lv (x.cs.take (i+1)))then 8 else 0)),(28,VB (i:Nat)),(27,VB (x.cs.length:Nat)),(26, .slice (some ⟨d6,d7,none⟩) x.cs.length E),(1,VA C),(2,VA B),(4,VA z)]) (λr w'=>row w' r (bv Z) 121/\row w' C (oQ x (some ⟨d6,d7,none⟩) E) 87/\row w' B (bv uN) 121/\row w' z (bv (pg (x.cs.take i))) 121/\VD w w'/\z<r) ?_ ?_
  ·
   refine qH [] dA ?_;intro h5 H c7;replace l:=l.new H;replace j:=j.new H;replace o:=o.new H;replace G:=G.new H;replace a:=a.acc H;have h6:=l;have h7:=o;have h8:=G;refine nR 0 (λw' I=>pz 512 (h7.kq I))<|nR 1 (λw' I=>pz 4 (h8.kq I))<|nu 2 (nG 1)<|nR 3 (λw' I=>nH (h6.kq I))<|zw 4 10 dA ?_ ?_
   ·
    refine qw rfl rfl (oz dA rfl) (zW h5 (d8.new a) c5) ?_;rintro _ c8 ⟨D,A⟩;have a2:=c7.add0 A;refine⟨a2,?_⟩;replace l:=l.new A;replace j:=j.new A;replace o:=o.new A;replace a:=a.acc A;refine zw 5 10 dA ?_ ?_
    ·
     refine qw rfl rfl (oz dA rfl) (X c8 _ _ D) ?_;rintro _ d9 ⟨⟨e0,rfl⟩,s⟩;have c9:=a2.add0 s;refine⟨c9,?_⟩;replace l:=l.new s;replace j:=j.new s;replace o:=o.new s;replace a:=a.acc s;refine nu 6 (nS)<|nu 7 (nW rfl rfl)<|nu 8 (nW rfl rfl)<|nu 9 (nW rfl rfl)<|oh 10 dA ?_
     have e1:=c9.size;have e2:=o.lt;refine rf rfl rfl<|oD (List.replicate 512 (Value.int .u8 0)) dA<|λr a3 y q t=>?_
     have e3:=c9.add0 t;refine⟨e3,?_⟩;have J:=ag a.size y;have K:C<r:=ae l.lt y;have L:B<r:=ae j.lt y;have M:z<r:=ae o.lt y;replace l:=l.new t;replace j:=j.new t;replace o:=o.new t;replace a:=a.acc t;rw[AR]at q;refine oh 11 dA<|rA rfl rfl<|oC 512 (bv Z) q<|λl1 q N=>?_
     have h9:=e3.aq N;refine⟨h9,?_⟩;replace l:=l.only N (ai K);replace j:=j.only N (ai L);replace o:=o.only N (ai M);replace a:=N.below a J;refine nu 12 (rO)<|nu 13 (rO)<|pq dA<|oM ⟨r,VF,q,l,j,o,a,dB⟩
    ·
     have e1:=a2.size;have e2:=o.lt;refine rf rfl rfl<|oD (List.replicate 512 (Value.int .u8 0)) dA<|λr a3 y q t=>?_
     have e4:=a2.add0 t;refine⟨e4,?_⟩;have J:=ag a.size y;have K:C<r:=ae l.lt y;have L:B<r:=ae j.lt y;have M:z<r:=ae o.lt y;replace l:=l.new t;replace j:=j.new t;replace o:=o.new t;replace D:=D.new t;replace a:=a.acc t;rw[AR]at q;refine oh 5 dA<|qw rfl rfl (oz dA rfl) (X a3 _ _ D) ?_
     rintro _ d9 ⟨⟨e0,rfl⟩,s⟩;have e5:=e4.add0 s;refine⟨e5,?_⟩;replace l:=l.new s;replace j:=j.new s;replace o:=o.new s;replace q:=q.new s;replace a:=a.acc s;refine nu 6 (nS)<|nu 7 (nW rfl rfl)<|nu 8 (nW rfl rfl)<|nu 9 (nW rfl rfl)<|oh 11 dA<|rA rfl rfl<|oC 512 (bv Z) q<|λl2 q O=>?_
     have i0:=e5.aq O;refine⟨i0,?_⟩;replace l:=l.only O (ai K);replace j:=j.only O (ai L);replace o:=o.only O (ai M);replace a:=O.below a J;refine nu 12 (rO)<|nu 13 (rO)<|pq dA<|oM ⟨r,VF,q,l,j,o,a,dB⟩
   ·
    have e1:=c7.size;have e2:=o.lt;refine rf rfl rfl<|oD (List.replicate 512 (Value.int .u8 0)) dA<|λr a3 y q t=>?_
    have e6:=c7.add0 t;refine⟨e6,?_⟩;have J:=ag a.size y;have K:C<r:=ae l.lt y;have L:B<r:=ae j.lt y;have M:z<r:=ae o.lt y;replace l:=l.new t;replace j:=j.new t;replace o:=o.new t;replace a:=a.acc t;rw[AR]at q;refine oh 4 dA<|qw rfl rfl (oz dA rfl) (zW a3 (d8.new a) c5) ?_
    rintro _ c8 ⟨D,A⟩;have e7:=e6.add0 A;refine⟨e7,?_⟩;replace l:=l.new A;replace j:=j.new A;replace o:=o.new A;replace q:=q.new A;replace a:=a.acc A;refine oh 5 dA<|qw rfl rfl (oz dA rfl) (X c8 _ _ D) ?_;rintro _ d9 ⟨⟨e0,rfl⟩,s⟩;have e8:=e7.add0 s;refine⟨e8,?_⟩;replace l:=l.new s;replace j:=j.new s;replace o:=o.new s;replace q:=q.new s;replace a:=a.acc s;refine nu 6 (nS)<|nu 7 (nW rfl rfl)<|nu 8 (nW rfl rfl)<|nu 9 (nW rfl rfl)<|oh 11 dA<|rA rfl rfl<|oC 512 (bv Z) q<|λl3 q P=>?_
    have i1:=e8.aq P;refine⟨i1,?_⟩;replace l:=l.only P (ai K);replace j:=j.only P (ai L);replace o:=o.only P (ai M);replace a:=P.below a J;refine nu 12 (rO)<|nu 13 (rO)<|pq dA<|oM ⟨r,VF,q,l,j,o,a,dB⟩
  ·
   clear l j o a;rintro r l4 l5 ⟨q,l,j,o,a,l6⟩;refine nI<|ny<|ng<|mZ (pJ rfl rfl)<|nk<|oZ rfl (λQ=>?_)<|λQ=>?_
   ·
    refine ny<|mZ (BF (bv uN) lC)<|nT<|oC 512 (bv uN) j<|λl7 j i2=>?_
    replace a:=i2.below a d4;refine nA<|nk<|nY<|qy<|sS<|qy<|zH<|sS<|qy<|ou [_,_] ⟨⟨_,rfl,Ld.qI (k:=512) j dA dA gp⟩,rfl,trivial⟩ ?_
    have i3:¬rG (pv x.lv x.cs)<=512:=λl8=>by
      have a5:=ztd x.lv (x.cs.take (i+1)) (x.cs.drop (i+1));rw[bM]at a5;rw[if_neg dB]at Q;exact absurd rfl Q
    rw[decide_eq_false i3];exact⟨rfl,a⟩
   ·
    have i4:rG (pv x.lv (x.cs.take (i+1)))<=512:=Nat.le_of_not_lt λi5=>by
      rw[if_pos i5]at Q;exact Q iT
    rw[if_neg dB]at V;subst V;refine nU<|nJ<|nO<|mZ (pz 512 q)<|nT<|zmf 512 (bv (pg (x.cs.take (i+1)))) rfl rfl o dA (by first |assumption|(simp;done)|(simp[oL, *];done)) (by first |assumption|(simp;done)|(simp[oL, *];done)|rfl) (by first |exact uf _|assumption|(simp[Value.oneCell'];done))<|λl9 o d0=>?_
    replace l:=l.only d0 (ai b3);replace j:=j.only d0 (ai b4);replace a:=d0.below a b2;refine oI<|pO<|nJ<|nO<|mZ (oJ rfl rfl (Coup.nV dB))<|ng<|oI<|oM ⟨i+1,dB,VF,dB,i4,l,j,o,a⟩
 ·
  obtain rfl:i=x.cs.length:=by omega
  rw[dF]at U o g6;rw[decide_eq_true U,if_pos rfl];refine qL<|qK<|rq<|qO<|nJ<|ny<|mZ (pz 512 o)<|nT<|oC 512 (bv (pg x.cs)) j<|λm0 j i6=>?_
  replace a:=i6.below a d4;refine nA<|nk<|nY<|ou [_,_] ⟨⟨_,rfl,Ld.qI (k:=512) j dA dA gp⟩,rfl,trivial⟩ ?_
  exact⟨rfl,a⟩
end Go.Proofs.YtpaniebomegnbaaGreat
