import Derived.Test.YtpaniebomegnbaaGreatM6
import Derived.Lib.Bytealg
import Derived.Lib.Overlaps
import Derived.Lib.UnsafeStr
set_option maxHeartbeats 8000000
set_option maxRecDepth 20000
namespace Go.Proofs.YtpaniebomegnbaaGreat
open Go Go.RowKit Coup
theorem GZ.congr{q N:Nat}{G G' V:Nat->Pg}{k:Nat}{w:World}{B:List Nat}(h:GZ q N G V k w B)(he:∀ n,n<N->G n=G' n):GZ q N G' V k w B:=by
 obtain⟨P,a,e⟩:=h;exact⟨P,⟨a.i,a.n,λn c=>(a.g n c).trans (he n c),a.s,λn b c hb=>(he n c)▸a.c n b c hb⟩,e⟩
theorem WL{X X' Y:World->List Nat->Prop}{lo:Nat}{L:List Nat}{w:World}(h:Two X Y lo L w)(he:∀ B,X w B->X' w B):Two X' Y lo L w:=by
 obtain⟨⟨B,C,a,c,e,f⟩,g,i⟩:=h;exact⟨⟨B,C,he B a,c,e,f⟩,g,i⟩
section
variable {Y:World->List Nat->Prop}[hYT:mW Y]{q jb mw N lo:Nat}{L:List Nat}{G0 G V:Nat->Pg}{k:Nat}{F:sG}{w:World}
theorem PD(a b c:Value)(w:World):CallsDIn Fence.wide 8 Tryz.prog 191 [a,b,c].toArray .returning w (λen u' w'=>u'= .returning/\pX (λ_ w'=>Below w.heap.size w w') en w'):=by
 have a:=Below.refl w.heap.size w;refine g_ (fn:=Tryz.f191) (rs:=[]) (n:=36) (x:=.nilIface) (u:=.returning) (u2:=.returning) Tryz.func191 rfl rfl Tryz.ntmps191 dA rfl rfl rfl (λe cs f=>.inr ⟨CV e cs f,rfl,rfl⟩)<|mR<|mP<|mO (zqf (z:=.agg #[.int .i64 0]) dA rfl kv)<|mP<|mO (nJ rfl rfl)<|mO (nJ rfl rfl)<|nz<|nU ([Value.int .i64 0]) dA<|λk l g c h=>?_
 have i:=ag a.size g;replace a:=a.acc h;refine nH<|nT 1 ([.int .i64 0]) c<|λm c j=>?_
 replace a:=j.below a i;refine mV<|mQ<|oU<|mR<|mP<|mV<|mQ<|tC rfl (rfl)<|mR<|mP<|mO (ztZ dA rfl)<|mV<|mQ<|tC rfl (rfl)<|nL<|pW<|SK [] trivial ?_
 exact a
theorem Pb (e:Int) (ga gb ge:Nat) (v0:Value) (h:Two (JZ q jb mw N G0 G V k F) Y lo L w) (hx1:row w ga [.pointer (some ⟨jb,0,none⟩)] 126) (hx2:row w gb [.pointer (some ⟨q,0,none⟩)] 35) (hx3:row w ge [v0] 46)
   (ha:ga∈L) (hb:gb∈L) (he:ge∈L) (hab:ge≠ga/\ge≠gb) (hlo:lo<=ge) {L2:List Nat} (hL2:∀ b∈L2,b∈L) (h2:ge∉L2):
   CallsDIn Fence.wide 8 Tryz.prog 191 [.pointer (some ⟨ga,0,none⟩), .pointer (some ⟨gb,0,none⟩), .pointer (some ⟨ge,0,none⟩)].toArray (.panicking (pe (xw e))) w (λen u' w'=>u'= .panicking [{v:=xw e,recovered:=true}]/\pX (λ_ w'=>Two (GZ q N G0 V k) Y lo L w'/\row w' ge [.int .i64 e] 46/\mX lo L2 w w') en w'):=by
 have d5:=(Eg h).1;obtain⟨c,h⟩:=uU h;have a:=mX.refl lo L2 w;have y:=h.wN;have z:=h.map;have R:=h.was;have d6:=h.ne;have X:=h.jl;have a4:=h.ml;have hp:=h.p;have d7:=(Bo hp).2.2;have d8:jb∉L2:=λM=>X.2 (hL2 _ M)
 have d9:=hx1.lt;have e0:=hx2.lt;have e1:=hx3.lt;have e2:jb≠ge:=λe=>X.2 (e▸he)
 have e3:mw≠ge:=λe=>a4.2 (e▸he)
 have e4:=hp.lo;have e5:∀ b∈L,b<w.heap.size:=λb hb=>hp.lt b jP
 refine g_ (fn:=Tryz.f191) (rs:=[]) (n:=36) (x:=xw e) (u:=.panicking (pe (xw e))) (u2:=.panicking [{v:=xw e,recovered:=true}]) Tryz.func191 rfl rfl Tryz.ntmps191 dA rfl rfl rfl (λa5 cs h=>.inl (CK _ a5 cs h))<|mR<|mP<|mO (XY dA rfl)<|mP<|mO (nJ rfl rfl)<|mO (nJ rfl rfl)<|nz<|nU ([Value.int .i64 0]) dA<|λg e6 A f o=>?_
 have a6:ga<g:=ae hx1.lt A;have a7:gb<g:=ae hx2.lt A;have a8:ge<g:=ae hx3.lt A;have a9:jb<g:=ae y.lt A;have b0:mw<g:=ae z.lt A;replace hp:=hp.nA o A f.lt;replace a:=a.new o;replace hx1:=hx1.new o;replace hx2:=hx2.new o;replace hx3:=hx3.new o;replace y:=y.new o;replace z:=z.new o;refine nH<|nT 1 ([.int .i64 e]) f<|λe7 f p=>?_
 replace hp:=hp.only p eG;replace a:=a.oq p;replace hx1:=hx1.only p (ai a6);replace hx2:=hx2.only p (ai a7);replace hx3:=hx3.only p (ai a8);replace y:=y.only p (ai a9);replace z:=z.only p (ai b0);refine mV<|mQ<|oU<|mR<|mP<|mV<|mQ<|uC rfl (rfl)<|ng<|mR<|mO (mZ hx1)<|mO (nW rfl)<|mO (nk 6)<|mO (mZ y) ?_
 have e8:=hx2.lt;have e9:=hx3.lt;have f0:=f.lt;have f1:=a.size;refine nz<|zr5 (k:=3) (e:=121) dA dA z rfl<|λr b1 cnt b2 t F=>?_
 replace hp:=hp.nA F b2 t.lt;replace a:=a.new F;replace hx2:=hx2.new F;replace hx3:=hx3.new F;replace f:=f.new F;refine mQ<|oU ?_
 have f2:=t.ne;have f3:=f.lt;obtain⟨L3,Z⟩:=aa (r::g::jb::mw::L);have b3:Two (GZ q N G V k) Y lo L3 b1:=by rw[<-Z];exact hp
 have b4:r∈L3/\g∈L3/\mw∈L3/\∀ b∈L,b∈L3:=by rw[<-Z];exact⟨ig,ig,ig,λb hb=>by simp[hb]⟩
 obtain⟨a0,f4,b5,H⟩:=b4;have b6:∀ b∈L2,b∈L3:=λb hb=>H b (hL2 b hb)
 have f5:=H _ ha;have f6:=H _ hb;have f7:=H _ he;refine qZ (α:=Nat × (Nat->Pg) × (Nat->Bool)) (cnt,G,λi=>(ru c i).isSome) (λ_=>[(1, .pointer (some ⟨gb,0,none⟩)),(2, .pointer (some ⟨ge,0,none⟩)),(4, .pointer (some ⟨g,0,none⟩)),(20, .pointer (some ⟨r,0,none⟩))])
   (λs w'=>zC Tryz.prog 3 w' mw r N (ru c) s.2.2 s.1/\(∀ n,n<N->s.2.2 n=false->s.2.1 n=G0 n)/\Two (GZ q N s.2.1 V k) Y lo L3 w'/\row w' gb [.pointer (some ⟨q,0,none⟩)] 35/\row w' ge [v0] 46/\row w' g [.int .i64 e] 207/\mX lo L2 w w') (λs=>s.1)
   ⟨rfl,rfl,rfl,rfl,rfl⟩ ⟨t,λn C m=>?_,b3,hx2,hx3,f,a⟩ ?_
 · refine(R.no n C ?_)
   dsimp only at m;cases hc:c n with
   |none=>rfl
   |some x=>unfold ru at m;rw[hc]at m;cases m
 clear hx2 hx3 f a t;rintro⟨f8,a1,left⟩ f9 g0 ⟨t,S,hp,hx2,hx3,f,a⟩;dsimp only at t S hp |-;refine mR<|nz<|zt1 dA t rfl (λb7=>?_)<|λi v g1 b8 b9 g2 I l c4 J c5=>?_
 ·
  refine mO (nJ rfl rfl)<|mQ<|ng<|tC rfl (rfl)<|qP<|qL<|rf<|qX<|ny ?_
  have T:=(WL hp λB c6=>GZ.congr c6 (G':=G0) λn C=>S n C (b7 n C));refine nM<|mO (nk 0)<|mO (mZ f)<|nH<|oW hx3<|λg3 hx3 a2=>?_
  replace a:=a.oq a2;replace T:=T.only a2 eG;refine oH<|pW<|SK [] trivial ?_
  exact⟨T.weak H,hx3,a⟩
 ·
  obtain⟨x,M,c7⟩:∃ x,c i=some x/\v= .agg (bv x).toArray:=by
    unfold ru at I;cases hc:c i with
    |none=>rw[hc]at I;cases I
    |some x=>rw[hc]at I;exact⟨x,rfl,(bX I).symm⟩
  subst c7;have a3:=R.len i x M;have g4:(bv x).length=512:=by rw[oh];exact a3
  have c8:=(R.yes i x M).2;have c9:=λL' w' (d0:Two (GZ q N a1 V k) Y lo L' w')=>Cm d0 i b9 a3
  replace hp:=hp.only J (.inr a0);replace hx2:=hx2.only J (λe=>by have:=l.lt;omega);replace hx3:=hx3.only J eu;replace f:=f.only J eu;replace a:=a.only J kJ;have g5:=l.lt;have g6:=l.map.lt;refine mO (nJ rfl rfl)<|mQ<|ng<|uC rfl (rfl)<|nL<|ny<|oU<|mR<|mO (zt2 rfl c5)<|mO (nJ rfl rfl)<|mO (nJ rfl rfl)<|nz<|nU (List.replicate 512 (Value.int .u8 0)) dA<|λU g7 O P D=>?_
  have d1:gb<U:=ae hx2.lt O;have d2:ge<U:=ae hx3.lt O;have d3:g<U:=ae f.lt O;replace hp:=hp.nA D O P.lt;replace a:=a.new D;replace hx2:=hx2.new D;replace hx3:=hx3.new D;replace f:=f.new D;replace l:=l.new D;refine mV<|nH<|nT 512 (bv x) P<|λd4 P E=>?_
  replace hp:=hp.only E eG;replace a:=a.oq E;replace hx2:=hx2.only E (ai d1);replace hx3:=hx3.only E (ai d2);replace f:=f.only E (ai d3);replace l:=l.only E eu;refine mQ<|nM<|mO (mZ hx2)<|mP<|mO (oI 512 P)<|nD (c9 _ d4 hp) ?_
  rintro _ g8 ⟨rfl,hp,K⟩;replace l:=l.nu K.kp ⟨pG (.inr (by simp[b5])),pG (.inr (by simp[a0]))⟩;replace a:=a.ll K (λb hb=>aj _ (b6 b hb));replace hx2:=hx2.kl K;replace hx3:=hx3.kl K;replace f:=f.kl K;refine oH<|pW<|oO ⟨(b8,tQ a1 i x,λj=>left j && !decide (j=i)),c4,⟨rfl,rfl,rfl,rfl,rfl⟩,l,λn C m=>?_,hp.weak (λb hb=>by simp[hb]),hx2,hx3,f,a⟩;dsimp only at m |-;unfold tQ
  by_cases Q:n=i
  · rw[if_pos Q,Q,c8]
  · rw[if_neg Q]
    refine S n C ?_;rw[decide_eq_false Q]at m;simpa using m
end
theorem UB{P:Program}{f:FuncId}{args:Array Value}{w:World}{A:Value->World->Prop}(h:Calls P f args w (sM A λ_ _=>False)):Calls P f args w (pX A):=
 h.mono λe w' h=>by
  cases e with
  |returned v=>exact⟨v,rfl,h⟩
  |panicked c=>exact h.elim
  |outgrown=>exact h.elim
structure HR(N:Nat)(G:Nat->Pg)(H:HS)(fl:List Nat):Prop where
 ok:qO N H fl
 g0:G 0=oG (yg H.F)
 s:∀ n,1<=n->n<H.F.fresh->G n=oG (H.S n)
 z:∀ n,H.F.fresh<=n->n<N->G n=uB
theorem ES(F:sG):∀ v∈wF F,Value.oneCell' v=true:=λv a=>by
 simp only[wF,ak,bu,or_false]at a;rcases a with rfl|rfl|rfl|rfl|rfl<;>rfl
theorem FT.nil{N:Nat}{G:Nat->Pg}:FT N G G xx:=⟨(λn x a=>nomatch a),λn _ _=>rfl,(λn x a=>nomatch a)⟩
def fi(F:sG):List Int:=[(F.fresh:Int),(F.free:Int),(F.many:Int),(F.records:Int),(F.root:Int)]
theorem KA{F F':sG}(h:fi F=fi F'):F=F':=by
 simp only[fi,ja,and_true]at h;obtain⟨a,c,e,f,g⟩:=h;cases F;cases F';simp only[sG.mk.injEq]at*;omega
section
variable {ρ:Env}{w:World}{rs:List ResultVar}{A:Value->World->Prop}{B:List PanicEntry->World->Prop}
theorem Xm{a b c:Value}(hms:ρ.ms=[.fn 191 [a,b,c] []])(h:∀ w',Below w.heap.size w w'->∃ vs,xK Tryz.prog w' ρ rs vs/\A (pack vs) w'):JK Tryz.prog rs A B .ret ρ w:=by
 show Ay Tryz.prog rs A B ρ ρ.ms .returning w;rw[hms];refine⟨ig,dA,(PD a b c w).mono ?_⟩;rintro e f w' ⟨rfl,v,rfl,hb⟩;exact h w' hb
theorem zt3 {Y:World->List Nat->Prop} [mW Y] {q jb mw N lo:Nat} {L:List Nat} {G0 G V:Nat->Pg} {k:Nat} {F:sG} (e:Int) (ga gb ge:Nat) (v0:Value) (hms:ρ.ms=[.fn 191 [.pointer (some ⟨ga,0,none⟩), .pointer (some ⟨gb,0,none⟩), .pointer (some ⟨ge,0,none⟩)] []])
  (h:Two (JZ q jb mw N G0 G V k F) Y lo L w) (ra:row w ga [.pointer (some ⟨jb,0,none⟩)] 126) (rb:row w gb [.pointer (some ⟨q,0,none⟩)] 35) (re:row w ge [v0] 46)
  (ha:ga∈L) (hb:gb∈L) (he:ge∈L) (hab:ge≠ga/\ge≠gb) (hlo:lo<=ge) {L2:List Nat} (hL2:∀ b∈L2,b∈L) (h2:ge∉L2)
  (hA:∀ w',Two (GZ q N G0 V k) Y lo L w'->row w' ge [.int .i64 e] 46->mX lo L2 w w'->∃ vs,xK Tryz.prog w' ρ rs vs/\A (pack vs) w'):JK Tryz.prog rs A B (.panic (pe (xw e))) ρ w:=by
 show Ay Tryz.prog rs A B ρ ρ.ms (.panicking (pe (xw e))) w;rw[hms];refine⟨ig,dA,(Pb e ga gb ge v0 h ra rb re ha hb he hab hlo hL2 h2).mono ?_⟩;rintro g i w' ⟨rfl,v,rfl,a,c,f⟩;exact hA w' a c f
end
section
variable {Y:World->List Nat->Prop}[hYT:mW Y]{q N lo:Nat}{L:List Nat}{G V:Nat->Pg}{k:Nat}{H:HS}{fl:List Nat}{w:World}
theorem IG (h:Two (GZ q N G V k) Y lo L w) (hR:HR N G H fl) (kf:Nat) (caps:List Value) (hcan:vv Tryz.prog kf=true)
   (A:HS->List Nat->(World->List Nat->Prop)->Prop) (E:Int->(World->List Nat->Prop)->Prop) (hAT:∀ H' fl' Y',A H' fl' Y'->mW Y') (hET:∀ e Y',E e Y'->mW Y') (hAF:∀ H' fl' Y',A H' fl' Y'->H.F.fresh<=H'.F.fresh)
   (hdo:∀ jb mw L' w',(∀ b∈L,b∈L')->mX lo L w w'->JH q jb mw N G V k H fl Y lo L' w'->Calls Tryz.prog kf (.pointer (some ⟨jb,0,none⟩)::caps).toArray w'
     (sM (λ_ w2=>∃ H' fl' Y',A H' fl' Y'/\JH q jb mw N G V k H' fl' Y' lo L' w2/\mX lo L' w' w2) (λc w2=>∃ e Y',E e Y'/\c=pe (xw e)/\JF q jb mw N G V k Y' lo L' w2/\mX lo L' w' w2))):
   CQ 130 [.pointer (some ⟨q,0,none⟩), .func (.func kf) #[] caps.toArray] w (λv w'=>(∃ H' fl' Y' G',A H' fl' Y'/\v= .int .i64 0/\HR N G' H' fl'/\Two (GZ q N G' V k) Y' lo L w'/\mX lo L w w')\/
     (∃ e Y',E e Y'/\v= .int .i64 e/\Two (GZ q N G V k) Y' lo L w'/\mX lo L w w')):=by
 have h0:=Bo h;have h1:=h0.1;have h2:=hR.ok.fst h1;have d2:=λL' w' (a8:Two (GZ q N G V k) Y lo L' w')=>Fz a8 0 eu
 have e4:=λL' w' (a8:Two (GZ q N G V k) Y lo L' w')=>Jd a8
 have c6:=λw'=>zqh H.F N h2 w'
 have e5:=uO (Nw H.F);rw[hR.g0]at d2;obtain⟨Q,h3⟩:=aa (oG (yg H.F));simp only[h3]at d2 c6 e5;have l5:=ES H.F;have l6:(wF H.F).length=5:=rfl;have d3:∀ b∈L,b<w.heap.size:=h.lt;have l7:=h.lo;have f:=mX.refl lo L w;refine UB<|vQ (fn:=Tryz.f130) (rs:=[.cell 4 46]) (n:=48) Tryz.func130 rfl rfl Tryz.ntmps130 dA rfl<|mR<|nz<|oV ([_]) rfl<|λz w2 h4 i e6=>?_
 have l8:=f.size;replace h:=h.nA e6 h4 i.lt;replace f:=f.new e6;refine nz<|nU ([Value.int .i64 0]) dA<|λv h5 e7 a d4=>?_
 have h6:z<v:=ae i.lt e7;replace h:=h.nA d4 e7 a.lt;replace f:=f.new d4;replace i:=i.new d4;refine pV<|mO (mZ i)<|nD (d2 _ h5 h) ?_
 rintro _ l9 ⟨rfl,h,d5⟩;replace f:=f.lq d5;replace i:=i.kl d5;replace a:=a.kl d5;refine mP<|mO (nJ rfl rfl)<|mO (nJ rfl rfl)<|nz<|nU (List.replicate 512 (Value.int .u8 0)) dA<|λM m0 d6 l c7=>?_
 have h7:z<M:=ae i.lt d6;have e8:v<M:=ae a.lt d6;replace h:=h.nA c7 d6 l.lt;replace f:=f.new c7;replace i:=i.new c7;replace a:=a.new c7;refine nH<|nT 512 (bv Q) l<|λm1 l c8=>?_
 replace h:=h.only c8 eG;replace f:=f.oq c8;replace i:=i.only c8 (ai h7);replace a:=a.only c8 (ai e8);refine nH<|oW a<|λm2 a c9=>?_
 replace h:=h.only c9 eG;replace f:=f.oq c9;replace i:=i.only c9 (ai h6);replace l:=l.only c9 (bA e8);refine mQ<|ng<|mR<|mO (mZ a)<|mO (oD rfl rfl)<|mQ<|pJ rfl (iT)<|nL<|ny<|xO (α:=Nat) (λm=>[(1, .func (.func kf) #[] caps.toArray),(2, .pointer (some ⟨z,0,none⟩)),(4, .pointer (some ⟨v,0,none⟩)),(6, .pointer (some ⟨m,0,none⟩)),(7, .bool true)]) (λm w'=>row w' m (wF H.F) 128/\Two (GZ q N G V k) Y lo (m::M::v::z::L) w'/\row w' z [.pointer (some ⟨q,0,none⟩)] 35/\row w' v [.int .i64 0] 46/\mX lo L w w'/\M<w'.heap.size) ?_ ?_
 ·
  refine qz [] dA ?_;intro h8 a9 d7;replace h:=h.new a9;replace f:=f.new a9;replace i:=i.new a9;replace a:=a.new a9;replace l:=l.new a9;have m3:=h;have m4:=f;have h9:=i;have m5:=a;have i0:=l;refine nI 0 (λw' C=>ou rfl (Ld.qp (k:=512) (i0.kq C) dA dA e5))<|nI 1 (λw' C=>mZ (h9.kq C))<|yP 2 7 dA ?_ ?_
  ·
   refine qf rfl rfl (nX dA rfl) (e4 _ h8 h) ?_;rintro _ d8 ⟨rfl,y⟩;have d0:=d7.add0 y;refine⟨d0,?_⟩;replace h:=h.new y;replace f:=f.new y;replace i:=i.new y;replace a:=a.new y;replace l:=l.new y;refine yP 3 7 dA ?_ ?_
   ·
    refine qf rfl rfl (nX dA rfl) (c6 d8) ?_;rintro _ e9 ⟨rfl,p⟩;have d9:=d0.add0 p;refine⟨d9,?_⟩;replace h:=h.new p;replace f:=f.new p;replace i:=i.new p;replace a:=a.new p;replace l:=l.new p;refine mU 4 (nK)<|mU 5 (nJ rfl rfl)<|mU 6 (nJ rfl rfl)<|nS 7 dA<|qJ rfl rfl<|nU ([Value.int .i64 0,Value.int .i64 0,Value.int .i64 0,Value.int .i64 0,Value.int .i64 0]) dA<|λm b0 t j r=>?_
    have f0:=d9.add0 r;refine⟨f0,?_⟩;have m6:=ag d9.size t;have b1:z<m:=ae i.lt t;have b2:v<m:=ae a.lt t;have b3:M<m:=ae l.lt t;replace h:=h.nA r t j.lt;replace f:=f.new r;replace i:=i.new r;replace a:=a.new r;replace l:=l.new r;refine nS 8 dA<|qR rfl rfl<|nT 5 (wF H.F) j<|λm7 j a2=>?_
    have i1:=f0.aq a2;refine⟨i1,?_⟩;replace h:=h.only a2 eG;replace f:=f.oq a2;replace i:=i.only a2 (ai b1);replace a:=a.only a2 (ai b2);replace l:=l.only a2 (ai b3);refine mU 9 (rA)<|oL dA<|oO ⟨m,⟨rfl,rfl,rfl,rfl,rfl,rfl⟩,j,h.weak (λb hb=>hb),i,a,f,l.lt⟩
   ·
    refine qJ rfl rfl<|nU ([Value.int .i64 0,Value.int .i64 0,Value.int .i64 0,Value.int .i64 0,Value.int .i64 0]) dA<|λm b0 t j r=>?_
    have f1:=d0.add0 r;refine⟨f1,?_⟩;have m8:=ag d0.size t;have b1:z<m:=ae i.lt t;have b2:v<m:=ae a.lt t;have b3:M<m:=ae l.lt t;replace h:=h.nA r t j.lt;replace f:=f.new r;replace i:=i.new r;replace a:=a.new r;replace l:=l.new r;refine nS 3 dA<|qf rfl rfl (nX dA rfl) (c6 b0) ?_
    rintro _ e9 ⟨rfl,p⟩;have f2:=f1.add0 p;refine⟨f2,?_⟩;replace h:=h.new p;replace f:=f.new p;replace i:=i.new p;replace a:=a.new p;replace l:=l.new p;replace j:=j.new p;refine mU 4 (nK)<|mU 5 (nJ rfl rfl)<|mU 6 (nJ rfl rfl)<|nS 8 dA<|qR rfl rfl<|nT 5 (wF H.F) j<|λm9 j a3=>?_
    have i2:=f2.aq a3;refine⟨i2,?_⟩;replace h:=h.only a3 eG;replace f:=f.oq a3;replace i:=i.only a3 (ai b1);replace a:=a.only a3 (ai b2);replace l:=l.only a3 (ai b3);refine mU 9 (rA)<|oL dA<|oO ⟨m,⟨rfl,rfl,rfl,rfl,rfl,rfl⟩,j,h.weak (λb hb=>hb),i,a,f,l.lt⟩
  ·
   refine qJ rfl rfl<|nU ([Value.int .i64 0,Value.int .i64 0,Value.int .i64 0,Value.int .i64 0,Value.int .i64 0]) dA<|λm b0 t j r=>?_
   have f3:=d7.add0 r;refine⟨f3,?_⟩;have n0:=ag d7.size t;have b1:z<m:=ae i.lt t;have b2:v<m:=ae a.lt t;have b3:M<m:=ae l.lt t;replace h:=h.nA r t j.lt;replace f:=f.new r;replace i:=i.new r;replace a:=a.new r;replace l:=l.new r;refine nS 2 dA<|qf rfl rfl (nX dA rfl) (e4 _ b0 h) ?_
   rintro _ d8 ⟨rfl,y⟩;have f4:=f3.add0 y;refine⟨f4,?_⟩;replace h:=h.new y;replace f:=f.new y;replace i:=i.new y;replace a:=a.new y;replace l:=l.new y;replace j:=j.new y;refine nS 3 dA<|qf rfl rfl (nX dA rfl) (c6 d8) ?_;rintro _ e9 ⟨rfl,p⟩;have f5:=f4.add0 p;refine⟨f5,?_⟩;replace h:=h.new p;replace f:=f.new p;replace i:=i.new p;replace a:=a.new p;replace l:=l.new p;replace j:=j.new p;refine mU 4 (nK)<|mU 5 (nJ rfl rfl)<|mU 6 (nJ rfl rfl)<|nS 8 dA<|qR rfl rfl<|nT 5 (wF H.F) j<|λn1 j a4=>?_
   have i3:=f5.aq a4;refine⟨i3,?_⟩;replace h:=h.only a4 eG;replace f:=f.oq a4;replace i:=i.only a4 (ai b1);replace a:=a.only a4 (ai b2);replace l:=l.only a4 (ai b3);refine mU 9 (rA)<|oL dA<|oO ⟨m,⟨rfl,rfl,rfl,rfl,rfl,rfl⟩,j,h.weak (λb hb=>hb),i,a,f,l.lt⟩
 ·
  rintro m n2 b0 ⟨j,h,i,a,f,n3⟩;have n4:=i.lt;have n5:=a.lt;have n6:=j.lt;refine ng<|mR<|mP<|mO (sD rfl)<|mQ<|Gb rfl (rfl)<|nL<|ny<|mR<|mO (ou rfl (Ld.qp (k:=5) j dA dA rfl))<|mO (mZ i)<|nz<|Og (k:=3) N<|λI n7 i4 E b4=>?_
  replace h:=h.nA b4 i4 E.lt;replace f:=f.new b4;replace i:=i.new b4;replace a:=a.new b4;replace j:=j.new b4;refine mO (Ik (.agg (wF H.F).toArray) (.pointer (some ⟨q,0,none⟩)) (.map (some I)) (jV H.F q I) rfl rfl rfl dA) ?_;have n8:=E.lt;refine nz<|oV (jV H.F q I) rfl<|λF i5 b5 J a5=>?_
  have n9:z<F:=ae i.lt b5;have o0:v<F:=ae a.lt b5;have o1:m<F:=ae j.lt b5;have o2:I<F:=ae E.lt b5;replace h:=h.nA a5 b5 J.lt;replace f:=f.new a5;replace i:=i.new a5;replace a:=a.new a5;replace j:=j.new a5;replace E:=E.new a5;replace J:row i5 F (jV H.F q I) 131:=J;have o3:=J.lt;refine nz<|nU ([Value.pointer none]) dA<|λO o4 a6 s T=>?_
  have i6:z<O:=ae i.lt a6;have i7:v<O:=ae a.lt a6;have i8:m<O:=ae j.lt a6;have i9:I<O:=ae E.lt a6;have j0:F<O:=ae J.lt a6;replace h:=h.nA T a6 s.lt;replace f:=f.new T;replace i:=i.new T;replace a:=a.new T;replace j:=j.new T;replace E:=E.new T;replace J:=J.new T;refine nH<|oW s<|λf6 s U=>?_
  replace h:=h.only U eG;replace f:=f.oq U;replace i:=i.only U (ai i6);replace a:=a.only U (ai i7);replace j:=j.only U (ai i8);replace E:=E.only U (ai i9);replace J:=J.only U (ai j0);refine mQ<|ng ?_
  have o5:=s.lt;have o6:=f.size;have e0:∃ P,(∀ b∈L,b∈P)/\O∈P/\m∈P/\v∈P/\z∈P/\JH q F I N G V k H fl Y lo P f6:=⟨O::m::M::v::z::L,λb hb=>by simp[hb],ig,ig,ig,ig,hR.ok,G,⟨hR.s,rfl,λ_ _=>rfl⟩,Rp (c:=xx) (h.weak λb hb=>by
    simp only[ak]at hb |-;rcases hb with h|h|h|h|h|h|h|h<;>simp[h]) J E FT.nil eu ⟨eu,λD=>by
    simp only[ak]at D;rcases D with h|h|h|h|h|h
    · omega
    · omega
    · omega
    · omega
    · omega
    · have:=d3 _ h;omega⟩ ⟨eu,λD=>by
    simp only[ak]at D;rcases D with h|h|h|h|h|h
    · omega
    · omega
    · omega
    · omega
    · omega
    · have:=d3 _ h;omega⟩⟩
  obtain⟨P,R,f7,o7,f8,f9,e0⟩:=e0;have j1:v∉L:=λD=>by have:=d3 _ D;omega
  refine nM<|mO (sV)<|WC (λ_ h=>h) rfl rfl<|pV<|mP<|mO (mZ s)<|vG rfl (uA hcan rfl rfl) (hdo F I _ f6 R f e0) ((λc w' ⟨e,b6,g0,j2,⟨G2,F2,u⟩,d1⟩=>by subst j2;haveI:=hET _ _ g0;exact zt3 e O z v _ rfl u (s.kl d1 (.inr f7)) (i.kl d1 (.inr f9)) (a.kl d1 (.inr f8)) f7 f9 f8 ⟨eu,eu⟩ eu R j1 (λo8 j3 j4 j5=>⟨[_],⟨⟨_,rfl,Ld.qN j4 dA rfl⟩,trivial⟩, .inr ⟨e,b6,g0,rfl,j3.weak R,(f.ll d1 R).ll j5 (λb hb=>hb)⟩⟩))) ?_
  rintro _ o9 ⟨H2,g1,b6,b7,j6,b8⟩
  haveI:=hAT _ _ _ b7
  replace f:=f.ll b8 R;replace i:=i.kl b8;replace a:=a.kl b8;replace j:=j.kl b8;replace s:=s.kl b8;refine mQ<|ng<|ng ?_
  obtain⟨e1,G2,b9,u⟩:=j6;have c4:=uU u;obtain⟨c2,g2⟩:=c4;have K:=g2.row;have g3:∀ w',row w' F (jV H2.F q I) 131->Ld Tryz.prog w' 128 ⟨F,0,none⟩ (.agg (wF H2.F).toArray):=λw' hr=>Ld.AR (k:=5) hr dA dA (by show 0+5<=7;omega)
  have j7:=λw'=>VF H2.F w'
  have j8:=Ad (yg H2.F) (Nw H2.F).size;have j9:=λL' w' (a8:Two (JZ q F I N G G2 V k H2.F) b6 lo L' w')=>PH a8 0 eu (oG (yg H2.F)) j8
  have p0:=g2.jl.1;refine qz [] dA ?_;intro p1 X p2;replace f:=f.new X;replace i:=i.new X;replace a:=a.new X;replace j:=j.new X;replace s:=s.new X;replace u:=u.new X;replace K:=K.new X;have p3:=f;have p4:=i;have p5:=a;have k0:=j;have k7:=s;have p6:=u;have k8:=K;refine nI 0 (λw' C=>mZ (k7.kq C))<|mU 1 (nW rfl)<|mU 2 (nk 0)<|nI 3 (λw' C=>ou rfl (g3 _ (k8.nu C (by first |(simp;done)|(simp;omega)|(simp[*];done)|exact pG (Or.inl eu)|exact pG (Or.inr ig)|exact λg D=>ag eu (vI D).1|(intro b o e;cases e;exact pG (Or.inl eu))|(intro b D;have:=(hu.lt b (ah.1 D)).1;omega)|(intro b o e;cases e;intro D;have:=(hu.lt _ (ah.1 D)).1;omega)|assumption))))<|nI 4 (λw' C=>ou rfl (Ld.qp (k:=5) (k0.kq C) dA dA rfl))<|mU 5 (GY (n:=5) (A:=fi H2.F) (B:=fi H.F) dA rfl rfl rfl rfl)<|oL dA<|ny<|xm rfl (λg4=>?_)<|λg4=>?_
  ·
   refine vK lo P dA ?_;intro k9 Z l0 g5;replace f:=f.new Z;replace i:=i.new Z;replace a:=a.new Z;replace j:=j.new Z;replace s:=s.new Z;replace u:=u.new Z;replace K:=K.new Z;have p7:=f;have p8:=i;have p9:=a;have q0:=j;have g6:=s;have q1:=u;have q2:=K;refine nI 0 (λw' C=>mZ (g6.kL C))<|nI 1 (λw' C=>mZ (g6.kL C))<|mU 2 (nW rfl)<|mU 3 (nk 0)<|nS 4 dA<|Ap rfl rfl (ou rfl (g3 _ K)) g5<|nS 5 dA<|qf rfl rfl (nX dA rfl) (j7 k9) ?_
   rintro _ l1 ⟨rfl,S⟩;have g7:=g5.add0 S;refine⟨g7,?_⟩;replace f:=f.new S;replace i:=i.new S;replace a:=a.new S;replace j:=j.new S;replace s:=s.new S;replace u:=u.new S;replace K:=K.new S;refine nS 6 dA<|qf rfl rfl (nX dA rfl) (j9 _ l1 u) ?_;rintro _ q3 ⟨e2,a7⟩;replace f:=f.ll a7 R;have l2:=g7.uK l0 a7.wk;refine⟨l2,?_⟩;replace i:=i.kl a7;replace a:=a.kl a7;replace j:=j.kl a7;replace s:=s.kl a7;refine oL dA<|ny<|mR<|nH<|oW a<|λq4 a g8=>?_
   replace f:=f.oq g8;replace e2:=e2.only g8 eG;refine mQ<|nQ<|Xm rfl ?_
   have c4:=uU e2;obtain⟨c3,e3⟩:=c4;rintro l3 a0;refine⟨[.int .i64 0],⟨⟨_,rfl,Ld.qN (a.new a0) dA rfl⟩,trivial⟩, .inl ⟨H2,g1,b6,_,b7,rfl,⟨e1,if_pos rfl,λn a1 c5=>?_,λn a1 c5=>?_⟩,(e3.p.new a0).weak λb hb=>by simp[R b hb],f.new a0⟩⟩
   · exact(if_neg eu).trans (b9.s n a1 c5)
   · exact(if_neg (by have:=e1.f1;omega)).trans ((b9.u n a1).trans (hR.z n (ag (hAF _ _ _ b7) a1) c5))
  ·
   refine nL<|ny<|mR<|nH<|oW a<|λq5 a g9=>?_
   replace f:=f.oq g9;replace u:=u.only g9 eG;refine mQ<|nQ<|Xm rfl ?_
   have l4:H2.F=H.F:=KA (by simpa using g4);have c4:=uU u;obtain⟨c3,e3⟩:=c4;rintro l3 a0;exact⟨[.int .i64 0],⟨⟨_,rfl,Ld.qN (a.new a0) dA rfl⟩,trivial⟩, .inl ⟨H2,g1,b6,_,b7,rfl,⟨e1,by rw[b9.z0,hR.g0,l4],b9.s,λn a1 c5=>(b9.u n a1).trans (hR.z n (ag (hAF _ _ _ b7) a1) c5)⟩,(e3.p.new a0).weak λb hb=>by simp[R b hb],f.new a0⟩⟩
end
def qY(Y:World->List Nat->Prop)(g:Nat)(l:List Value)(t:TypeId):World->List Nat->Prop:=λw C=>∃ C1,C=g::C1/\Y w C1/\row w g l t/\g∉C1
instance(Y:World->List Nat->Prop)[hY:mW Y](g:Nat)(l:List Value)(t:TypeId):mW (qY Y g l t):=
 ⟨fun {w w' B M} ⟨C1,e,a,c,f⟩ k h=>by
  subst e;exact⟨C1,rfl,hY.nu a k λb hb=>h b jP,c.nu k (h g ig),f⟩,fun {w B} ⟨C1,e,a,c,f⟩ b hb=>by
  subst e;rcases ak.1 hb with rfl|hb
  .exact c.lt
  .exact hY.lt a b hb⟩
section
variable {X Y:World->List Nat->Prop}[hX:mW X][hYT:mW Y]{lo g:Nat}{L:List Nat}{w w':World}{l l':List Value}{t:TypeId}
theorem Wq(h:Two X Y lo L w)(hb:Below w.heap.size w w')(hr:row w' g l t)(hg:w.heap.size<=g):Two X (qY Y g l t) lo L w':=by
 have i:=h.new hb;obtain⟨⟨B,C,j,l,f,m⟩,p,o⟩:=h;have k:=Kp.of_below (M:=[]) hb;refine⟨⟨B,g::C,hX.nu j k λb _ a=>(by cases a),⟨C,rfl,hYT.nu l k λb _ a=>(by cases a),hr,λa=>?_⟩,λb c=>⟨(f b c).1,λa=>?_,(f b c).2.2⟩,λb c=>?_⟩,i.lo,i.lt⟩
 .have:=hYT.lt l g a;omega
 .rcases ak.1 a with e|a
  .have:=hX.lt j b c;omega
  .exact(f b c).2.1 a
 .rcases ak.1 c with rfl|c
  .exact⟨eu,λa=>by have:=o _ a;omega⟩
  .exact m b c
omit hX hYT in
theorem zZ(h:Two X (qY Y g l t) lo L w):row w g l t/\lo<=g/\g∉L:=by
 obtain⟨⟨B,C,_,⟨C1,rfl,_,a,_⟩,_,c⟩,_,_⟩:=h;have:=c g ig;exact⟨a,this.1,this.2⟩
theorem Eu(h:Two X (qY Y g l t) lo L w)(hr:row w' g l' t)(ho:Only g w w'):Two X (qY Y g l' t) lo L w':=by
 obtain⟨⟨B,C,f,⟨C1,rfl,i,o,c⟩,e,j⟩,l,m⟩:=h;have k:=Kp.rC ho;refine⟨⟨B,g::C1,hX.nu f k λb hb a=>?_,⟨C1,rfl,hYT.nu i k λb hb a=>c (aM.1 a▸hb),hr,c⟩,e,j⟩,ag l k.size,λb hb=>ae (m b hb) k.size⟩;exact(e b hb).2.1 (aM.1 a▸by simp)
omit hX hYT in
theorem NI(h:Two X (qY Y g l t) lo L w):Two X Y lo (g::L) w:=by
 obtain⟨⟨B,C,f,⟨C1,rfl,g,i,j⟩,c,e⟩,k,l⟩:=h;refine⟨⟨B,C1,f,g,λb hb=>⟨(c b hb).1,λa=>(c b hb).2.1 kr,λa=>?_⟩,λb hb=>⟨(e b jP).1,λa=>?_⟩⟩,k,λb hb=>?_⟩
 .rcases ak.1 a with rfl|a
  .exact(c _ hb).2.1 ig
  .exact(c b hb).2.2 a
 .rcases ak.1 a with rfl|a
  .exact j hb
  .exact(e b jP).2 a
 .rcases ak.1 hb with rfl|hb
  .exact i.lt
  .exact l b hb
end
section
variable {Y:World->List Nat->Prop}[hYT:mW Y]{q jb mw N lo g:Nat}{L:List Nat}{G0 V:Nat->Pg}{k:Nat}{H:HS}{fl:List Nat}{w w':World}{l l':List Value}{t:TypeId}
omit hYT in
theorem JH.cell(h:JH q jb mw N G0 V k H fl (qY Y g l t) lo L w):row w g l t/\lo<=g/\g∉L:=let ⟨_,_,h2⟩:=h.ex;zZ h2
theorem JH.rP(h:JH q jb mw N G0 V k H fl (qY Y g l t) lo L w)(hr:row w' g l' t)(ho:Only g w w'):JH q jb mw N G0 V k H fl (qY Y g l' t) lo L w':=let ⟨G,h1,h2⟩:=h.ex;⟨h.ok,G,h1,Eu h2 hr ho⟩
def nG(H:HS):Nat->Pg:=λn=>if n=0 then oG (yg H.F)else if n<H.F.fresh then oG (H.S n)else uB
omit hYT in
theorem qO.hr{N:Nat}{H:HS}{fl:List Nat}(h:qO N H fl):HR N (nG H) H fl:=by
 refine⟨h,if_pos rfl,λn c a=>?_,λn c a=>?_⟩
 .unfold nG;rw[if_neg eu,if_pos a]
 .have:=h.f1
  unfold nG;rw[if_neg eu,if_neg eu]
omit hYT in
theorem HR.eq{N:Nat}{G:Nat->Pg}{H:HS}{fl:List Nat}(h:HR N G H fl){n:Nat}(hn:n<N):G n=nG H n:=by
 unfold nG
 split
 .rename_i e;rw[e];exact h.g0
 .split
  .exact h.s n eu kF
  .exact h.z n eu hn
omit hYT in
theorem HR.two{N:Nat}{G:Nat->Pg}{H:HS}{fl:List Nat}(h:HR N G H fl)(h2:Two (GZ q N G V k) Y lo L w):Two (GZ q N (nG H) V k) Y lo L w:=WL h2 λ_ a=>GZ.congr a λ_ c=>h.eq c
theorem MR (hb:Nat) (h:Two (GZ q N (nG H) V k) Y lo L w) (hH:qO N H fl) (hr:row w hb [.pointer (some ⟨q,0,none⟩)] 201) (kf:Nat) (caps:List Value) (hcan:vv Tryz.prog kf=true)
  (A:HS->List Nat->(World->List Nat->Prop)->Prop) (E:Int->(World->List Nat->Prop)->Prop) (hAT:∀ H' fl' Y',A H' fl' Y'->mW Y') (hET:∀ e Y',E e Y'->mW Y') (hAF:∀ H' fl' Y',A H' fl' Y'->H.F.fresh<=H'.F.fresh)
  (hdo:∀ jb mw L' w',(∀ b∈L,b∈L')->mX lo L w w'->JH q jb mw N (nG H) V k H fl Y lo L' w'->Calls Tryz.prog kf (.pointer (some ⟨jb,0,none⟩)::caps).toArray w'
   (sM (λ_ w2=>∃ H' fl' Y',A H' fl' Y'/\JH q jb mw N (nG H) V k H' fl' Y' lo L' w2/\mX lo L' w' w2) (λc w2=>∃ e Y',E e Y'/\c=pe (xw e)/\JF q jb mw N (nG H) V k Y' lo L' w2/\mX lo L' w' w2))):
  CQ 72 [.pointer (some ⟨hb,0,none⟩), .func (.func kf) #[] caps.toArray] w (λv w'=>(∃ H' fl' Y',A H' fl' Y'/\qO N H' fl'/\v= .int .i64 0/\Two (GZ q N (nG H') V k) Y' lo L w'/\mX lo L w w')\/
   (∃ e Y',E e Y'/\v= .int .i64 e/\Two (GZ q N (nG H) V k) Y' lo L w'/\mX lo L w w')):=by
 have c:=OD h;have f:=(IG h hH.hr kf caps hcan A E hAT hET hAF hdo).to λv w' g=>(show(∃ H' fl' Y',A H' fl' Y'/\qO N H' fl'/\v= .int .i64 0/\Two (GZ q N (nG H') V k) Y' lo L w'/\mX lo L w w')\/
   (∃ e Y',E e Y'/\v= .int .i64 e/\Two (GZ q N (nG H) V k) Y' lo L w'/\mX lo L w w')from g.imp (fun⟨H',fl',Y',G',i,j,a,l,m⟩=>⟨H',fl',Y',i,a.ok,j,a.two l,m⟩) id)
 refine nP (fn:=Tryz.f72) (rs:=[.tmp 4]) (n:=25) Tryz.func72 rfl rfl Tryz.ntmps72 dA rfl<|mR<|mV<|mQ<|ng<|mR<|mP<|mO (xJ dA rfl rfl)<|mP<|BZ 7 (.bool false) (rfl)<|mY<|mP<|mY<|mO (nW rfl)<|mY<|mO (nk 0)<|mY<|mO (mZ hr)<|mY<|mO (xJ dA rfl rfl)<|mO (oo rfl)<|mQ<|tC rfl (rfl)<|nL<|ny<|ng<|mR<|mP<|mO (nW rfl)<|mO (nk 0)<|mO (mZ hr)<|nD c ?_
 rintro _ _ ⟨rfl,rfl⟩;refine mQ<|tC rfl (rfl)<|nL<|ny<|mR<|mP<|mO (nW rfl)<|mO (nk 0)<|mO (mZ hr)<|mP<|nD (f) ?_;rintro _ p o;refine lQ ?_;exact o
end
section
variable {Y:World->List Nat->Prop}[hYT:mW Y]{q jb mw N lo:Nat}{L:List Nat}{G G0 V:Nat->Pg}{k:Nat}{H:HS}{fl:List Nat}{w:World}
theorem JC(g:Nat)(v0:Value)(h:JH q jb mw N G0 V k H fl (qY Y g [v0] 3) lo L w):Calls Tryz.prog 116 [.pointer (some ⟨jb,0,none⟩), .pointer (some ⟨g,0,none⟩)].toArray w
  (sM (λ_ w'=>∃ n H' fl',uZ N H 3=some (n,H')/\GM N H fl 3 n H' fl'/\JH q jb mw N G0 V k H' fl' (qY Y g [.int .i64 (n:Int)] 3) lo L w'/\mX lo L w w') (λc w'=>uZ N H 3=none/\c=pe (xw 8)/\JF q jb mw N G0 V k (qY Y g [v0] 3) lo L w'/\mX lo L w w')):=by
 have a:=mX.refl lo L w;have i:=NR h 3 eu;refine vQ (fn:=Tryz.f116) (rs:=[]) (n:=5) Tryz.func116 rfl rfl Tryz.ntmps116 dA rfl<|nM<|mP<|vG rfl (nX dA rfl) (i) ((λc w' h=>vP h)) ?_
 rintro _ q ⟨n,H2,j,k,l,rfl,f,m⟩;replace a:=a.lq m;have o:=f.cell;obtain⟨e,r,s⟩:=o;refine nH<|oW e<|λt e g=>?_
 replace a:=a.oq g;have p:=f.rP e g;refine oH<|Ei [] trivial ?_
 exact⟨n,H2,j,k,l,p,a⟩
theorem Ij(hb:Nat)(h:Two (GZ q N (nG H) V k) Y lo L w)(hH:qO N H fl)(hr:row w hb [.pointer (some ⟨q,0,none⟩)] 201)(hbL:hb<lo\/hb∈L):
  CQ 60 [.pointer (some ⟨hb,0,none⟩)] w (λv w'=>((∃ n H' fl',uZ N H 3=some (n,H')/\GM N H fl 3 n H' fl'/\v= .tuple #[.int .i64 (n:Int), .int .i64 0]/\Two (GZ q N (nG H') V k) Y lo L w')\/
   (uZ N H 3=none/\v= .tuple #[.int .i64 0, .int .i64 8]/\Two (GZ q N (nG H) V k) Y lo L w'))/\mX lo L w w'):=by
 have j:=mX.refl lo L w;have y:∀ g W,row W hb [.pointer (some ⟨q,0,none⟩)] 201->Two (GZ q N (nG H) V k) (qY Y g [.int .i64 0] 3) lo L W->Calls Tryz.prog 72 [.pointer (some ⟨hb,0,none⟩), .func (.func 116) #[] [.pointer (some ⟨g,0,none⟩)].toArray].toArray W
   (pX λv w'=>∃ (e:Int) (n:Nat) (H':HS),v= .int .i64 e/\Two (GZ q N (nG H') V k) (qY Y g [.int .i64 (n:Int)] 3) lo L w'/\mX lo L W w'/\((∃ fl',e=0/\uZ N H 3=some (n,H')/\GM N H fl 3 n H' fl')\/(e=8/\n=0/\uZ N H 3=none/\H'=H))):=λg W hr h=>by
  refine(MR hb h hH hr 116 [.pointer (some ⟨g,0,none⟩)] dA (λH' fl' Y'=>∃ n,uZ N H 3=some (n,H')/\GM N H fl 3 n H' fl'/\Y'=qY Y g [.int .i64 (n:Int)] 3) (λe Y'=>uZ N H 3=none/\e=8/\Y'=qY Y g [.int .i64 0] 3)
   (λH' fl' Y' ⟨n,_,_,e⟩=>by subst e;infer_instance) (λe Y' ⟨_,_,z⟩=>by subst z;infer_instance) (λH' fl' Y' ⟨_,_,a,_⟩=>a.grow) λjb mw L' w' I J A=>?_).to λv w' h=>?_
  .exact(JC g _ A).zM (λv w2 ⟨n,H',fl',f,a,i,m⟩=>⟨H',fl',_,⟨n,f,a,rfl⟩,i,m⟩) λc w2 ⟨f,a,i,m⟩=>⟨8,_,⟨f,rfl,rfl⟩,a,i,m⟩
  .rcases h with⟨H',fl',Y',⟨n,f,a,rfl⟩,m,i,o,r⟩|⟨e,Y',⟨f,rfl,rfl⟩,i,o,r⟩
   .exact⟨0,n,H',i,o,r, .inl ⟨fl',rfl,f,a⟩⟩
   .exact⟨8,0,H,i,o,r, .inr ⟨rfl,rfl,f,rfl⟩⟩
 refine nP (fn:=Tryz.f60) (rs:=[.cell 2 3, .tmp 3]) (n:=9) Tryz.func60 rfl rfl Tryz.ntmps60 dA rfl<|mR<|nz<|nU ([Value.int .i64 0]) dA<|λB w2 C D s=>?_
 replace j:=j.new s;replace hr:=hr.new s;refine nV<|mP<|mO (sV) ?_
 have a:=Wq (l:=[.int .i64 0]) (t:=3) h s D C;have K:=h.lo;have M:=h.lt;refine nD (y B w2 hr a) ?_;rintro _ O ⟨e,n,H2,rfl,i,E,F⟩;replace j:=j.ll E (λb hb=>hb);refine mV<|mQ<|ng ?_
 have G:=zZ i;obtain⟨p,P,Q⟩:=G;refine nM<|mO (mZ p)<|mP<|nH<|oW p<|λR p u=>?_
 replace j:=j.oq u;have m:=Eu i p u;refine mV<|mQ<|nQ<|nR [_,_] ⟨⟨_,rfl,Ld.qN p dA rfl⟩,rfl,trivial⟩ ?_
 have o:=(NI m).weak (L2:=L) λb hb=>by simp[hb]
 refine⟨?_,j⟩;rcases F with⟨fl',rfl,f,a⟩|⟨rfl,rfl,f,rfl⟩
 .exact .inl ⟨n,H2,fl',f,a,rfl,o⟩
 .exact .inr ⟨f,rfl,o⟩
def uo(N:Nat)(H:HS):Nat:=N - H.F.fresh+H.F.many
theorem KU(g:Nat)(v0:Value)(h:JH q jb mw N G0 V k H fl (qY Y g [v0] 3) lo L w):Calls Tryz.prog 76 [.pointer (some ⟨jb,0,none⟩), .pointer (some ⟨g,0,none⟩)].toArray w
  (pX λ_ w'=>JH q jb mw N G0 V k H fl (qY Y g [.int .i64 (uo N H:Int)] 3) lo L w'/\mX lo L w w'):=by
 have a:=mX.refl lo L w;have J:=h.n48.1;have K:=h.ok.fN;have M:=h.ok.many;have v:=h.cell;obtain⟨f,O,P⟩:=v;obtain⟨y,G,z,t⟩:=h;obtain⟨c,o⟩:=uU t;have p:=o.wN;have Q:jb≠g:=λe=>by
  have A:=zZ o.p;exact A.2.2 kw
 have B:=λL' w' (C:Two (GZ q N G V k) (qY Y g [v0] 3) lo L' w')=>Jd C
 have hp:=o.p;have i:JH q jb mw N G0 V k H fl (qY Y g [v0] 3) lo L w:=⟨y,G,z,t⟩;unfold uo;refine nP (fn:=Tryz.f76) (rs:=[]) (n:=20) Tryz.func76 rfl rfl Tryz.ntmps76 dA rfl<|qz [g] dA ?_
 intro D j E;replace a:=a.new j;replace f:=f.new j;replace p:=p.new j;replace hp:=hp.new j;replace i:=i.new j;have r:=p;refine mU 0 (nK)<|mU 1 (nW rfl)<|mU 2 (nk 5)<|nI 3 (λw' l=>mZ (r.kq l))<|mU 5 (nK)<|mU 6 (nW rfl)<|mU 7 (nk 0)<|mU 8 (nk 0)<|nI 9 (λw' l=>mZ (r.kq l))<|mU 11 (nK)<|mU 12 (nW rfl)<|mU 13 (nk 0)<|mU 14 (nk 2)<|nI 15 (λw' l=>mZ (r.kq l))<|nS 4 dA<|qf rfl rfl (nX dA rfl) (B _ D hp) ?_
 rintro _ R ⟨rfl,m⟩;have u:=E.add0 m;refine⟨u,?_⟩;replace a:=a.new m;replace f:=f.new m;replace i:=i.new m;refine mU 10 (vE rfl rfl (show IntKind.i64.wrap ((N:Int) - (H.F.fresh:Int))=((N - H.F.fresh:Nat):Int) by rw[nN eu];omega))<|mU 16 (om rfl rfl (show IntKind.i64.wrap (((N - H.F.fresh:Nat):Int)+(H.F.many:Int))=((N - H.F.fresh+H.F.many:Nat):Int) by rw[nN eu];omega))<|nS 17 dA<|qR rfl rfl<|oW f<|λS f s=>?_
 have F:=u.aq s;refine⟨F,?_⟩;replace a:=a.oq s;have I:=i.rP f s;refine oL dA<|zI [] trivial ?_
 exact⟨I,a⟩
theorem Qc(hb:Nat)(h:Two (GZ q N (nG H) V k) Y lo L w)(hH:qO N H fl)(hr:row w hb [.pointer (some ⟨q,0,none⟩)] 201)(hbL:hb<lo\/hb∈L):
  CQ 23 [.pointer (some ⟨hb,0,none⟩)] w (λv w'=>v= .int .i64 (uo N H:Int)/\Two (GZ q N (nG H) V k) Y lo L w'/\mX lo L w w'):=by
 have a:=mX.refl lo L w;have p:∀ g W,row W hb [.pointer (some ⟨q,0,none⟩)] 201->Two (GZ q N (nG H) V k) (qY Y g [.int .i64 0] 3) lo L W->Calls Tryz.prog 72 [.pointer (some ⟨hb,0,none⟩), .func (.func 76) #[] [.pointer (some ⟨g,0,none⟩)].toArray].toArray W
   (pX λv w'=>Two (GZ q N (nG H) V k) (qY Y g [.int .i64 (uo N H:Int)] 3) lo L w'/\mX lo L W w'):=λg W hr h=>by
  refine(MR hb h hH hr 76 [.pointer (some ⟨g,0,none⟩)] dA (λH' j Y'=>H'=H/\Y'=qY Y g [.int .i64 (uo N H:Int)] 3) (λe Y'=>False)
   (λH' j Y' ⟨_,e⟩=>by subst e;infer_instance) (λe Y' h=>h.elim) (λH' j Y' ⟨e,_⟩=>by rw[e];exact ax _) λjb mw L' w' E F r=>?_).to λv w' h=>?_
  .exact(KU g _ r).toP λv w2 ⟨c,i⟩=>⟨H,fl,_,⟨rfl,rfl⟩,c,i⟩
  .rcases h with⟨H',j,Y',⟨rfl,rfl⟩,i,c,s,u⟩|⟨e,Y',h,_⟩
   .exact⟨s,u⟩
   .exact h.elim
 refine nP (fn:=Tryz.f23) (rs:=[.cell 2 3]) (n:=7) Tryz.func23 rfl rfl Tryz.ntmps23 dA rfl<|mR<|nz<|nU ([Value.int .i64 0]) dA<|λy w2 z A m=>?_
 replace a:=a.new m;replace hr:=hr.new m;refine pV<|mP<|mO (sV) ?_
 have B:=Wq (l:=[.int .i64 0]) (t:=3) h m A z;have G:=h.lo;have I:=h.lt;refine nD (p y w2 hr B) ?_;rintro _ J ⟨c,C⟩;replace a:=a.ll C (λb hb=>hb);refine mQ<|ng ?_
 have D:=zZ c;obtain⟨f,K,M⟩:=D;refine nM<|mO (mZ f)<|nH<|oW f<|λO f o=>?_
 replace a:=a.oq o;have i:=Eu c f o;refine mQ<|nQ<|nR [_] ⟨⟨_,rfl,Ld.qN f dA rfl⟩,trivial⟩ ?_
 exact⟨rfl,(NI i).weak λb hb=>by simp[hb],a⟩
theorem KO(g:Nat)(v0:Value)(h:JH q jb mw N G0 V k H fl (qY Y g [v0] 3) lo L w):Calls Tryz.prog 111 [.pointer (some ⟨jb,0,none⟩), .pointer (some ⟨g,0,none⟩)].toArray w
  (pX λ_ w'=>JH q jb mw N G0 V k H fl (qY Y g [.int .i64 (H.F.root:Int)] 3) lo L w'/\mX lo L w w'):=by
 have a:=mX.refl lo L w;have j:=h.cell;obtain⟨e,t,u⟩:=j;obtain⟨l,G,m,f⟩:=h;obtain⟨c,o⟩:=uU f;have p:=o.wN;have r:JH q jb mw N G0 V k H fl (qY Y g [v0] 3) lo L w:=⟨l,G,m,f⟩;refine nP (fn:=Tryz.f111) (rs:=[]) (n:=8) Tryz.func111 rfl rfl Tryz.ntmps111 dA rfl<|nM<|mP<|mO (nW rfl)<|mO (nk 0)<|mO (nk 4)<|mO (mZ p)<|nH<|oW e<|λv e i=>?_
 replace a:=a.oq i;have s:=r.rP e i;refine lS ?_;exact⟨s,a⟩
theorem IJ(hb:Nat)(h:Two (GZ q N (nG H) V k) Y lo L w)(hH:qO N H fl)(hr:row w hb [.pointer (some ⟨q,0,none⟩)] 201)(hbL:hb<lo\/hb∈L):
  CQ 51 [.pointer (some ⟨hb,0,none⟩)] w (λv w'=>v= .int .i64 (H.F.root:Int)/\Two (GZ q N (nG H) V k) Y lo L w'/\mX lo L w w'):=by
 have a:=mX.refl lo L w;have p:∀ g W,row W hb [.pointer (some ⟨q,0,none⟩)] 201->Two (GZ q N (nG H) V k) (qY Y g [.int .i64 0] 3) lo L W->Calls Tryz.prog 72 [.pointer (some ⟨hb,0,none⟩), .func (.func 111) #[] [.pointer (some ⟨g,0,none⟩)].toArray].toArray W
   (pX λv w'=>Two (GZ q N (nG H) V k) (qY Y g [.int .i64 (H.F.root:Int)] 3) lo L w'/\mX lo L W w'):=λg W hr h=>by
  refine(MR hb h hH hr 111 [.pointer (some ⟨g,0,none⟩)] dA (λH' j Y'=>H'=H/\Y'=qY Y g [.int .i64 (H.F.root:Int)] 3) (λe Y'=>False)
   (λH' j Y' ⟨_,e⟩=>by subst e;infer_instance) (λe Y' h=>h.elim) (λH' j Y' ⟨e,_⟩=>by rw[e];exact ax _) λjb mw L' w' E F r=>?_).to λv w' h=>?_
  .exact(KO g _ r).toP λv w2 ⟨c,i⟩=>⟨H,fl,_,⟨rfl,rfl⟩,c,i⟩
  .rcases h with⟨H',j,Y',⟨rfl,rfl⟩,i,c,s,u⟩|⟨e,Y',h,_⟩
   .exact⟨s,u⟩
   .exact h.elim
 refine nP (fn:=Tryz.f51) (rs:=[.cell 2 3]) (n:=7) Tryz.func51 rfl rfl Tryz.ntmps51 dA rfl<|mR<|nz<|nU ([Value.int .i64 0]) dA<|λy w2 z A m=>?_
 replace a:=a.new m;replace hr:=hr.new m;refine pV<|mP<|mO (sV) ?_
 have B:=Wq (l:=[.int .i64 0]) (t:=3) h m A z;have G:=h.lo;have I:=h.lt;refine nD (p y w2 hr B) ?_;rintro _ J ⟨c,C⟩;replace a:=a.ll C (λb hb=>hb);refine mQ<|ng ?_
 have D:=zZ c;obtain⟨f,K,M⟩:=D;refine nM<|mO (mZ f)<|nH<|oW f<|λO f o=>?_
 replace a:=a.oq o;have i:=Eu c f o;refine mQ<|nQ<|nR [_] ⟨⟨_,rfl,Ld.qN f dA rfl⟩,trivial⟩ ?_
 exact⟨rfl,(NI i).weak λb hb=>by simp[hb],a⟩
end
abbrev Key:=List UInt8
def tY:Key->Key->Int
 |[],[]=>0
 |[],_::_=>-1
 |_::_,[]=>1
 |a::s,b::t=>if a<b then -1 else if b<a then 1 else tY s t
theorem Ws:∀ a,tY a a=0
 |[]=>rfl
 |a::s=>by rw[tY,if_neg ig,if_neg ig];exact Ws s
theorem Vl{a b:UInt8}(h:¬a<b)(k:¬b<a):a=b:=UInt8.le_antisymm (UInt8.not_lt.1 k) (UInt8.not_lt.1 h)
theorem Wi:∀ {a b:Key},tY a b=0->a=b
 |[],[],_=>rfl
 |[],_::_,h=>by simp[tY]at h
 |_::_,[],h=>by simp[tY]at h
 |a::s,b::t,h=>by
  rw[tY]at h
  split at h
  .cases h
  .split at h
   .cases h
   .rename_i c e
    rw[Vl c e,Wi h]
theorem Ui:∀ (a b:Key),tY b a=- tY a b
 |[],[]=>rfl
 |[],_::_=>rfl
 |_::_,[]=>rfl
 |a::s,b::t=>by
  rw[tY,tY]
  by_cases c:a<b
  .rw[if_pos c,if_neg (λf=>by have:=UInt8.lt_asymm c f;exact this),if_pos c];rfl
  .by_cases e:b<a
   .rw[if_pos e,if_neg c,if_pos e]
   .rw[if_neg e,if_neg c,if_neg c,if_neg e];exact Ui s t
theorem YG:∀ (a b:Key),tY a b=-1\/tY a b=0\/tY a b=1
 |[],[]=>.inr (.inl rfl)
 |[],_::_=>.inl rfl
 |_::_,[]=>.inr (.inr rfl)
 |a::s,b::t=>by
  rw[tY]
  split
  .exact .inl rfl
  .split
   .exact .inr<|.inr rfl
   .exact YG s t
def pR(a b:Key):Prop:=tY a b<0
instance(a b:Key):Decidable (pR a b):=inferInstanceAs (Decidable (_<_))
theorem pR.trans:∀ {a b c:Key},pR a b->pR b c->pR a c
 |[],[],_,h,_=>absurd h iT
 |[],_::_,[],_,h=>absurd h kZ
 |[],_::_,_::_,_,_=>by show(-1:Int)<0;decide
 |_::_,[],_,h,_=>absurd h kZ
 |_::_,_::_,[],_,h=>absurd h kZ
 |a::s,b::t,c::u,h,k=>by
  unfold pR at h k |-;rw[tY]at h k |-
  by_cases f:a<b
  .by_cases k1:b<c
   .rw[if_pos (UInt8.lt_trans f k1)];decide
   .by_cases k2:c<b
    .rw[if_neg k1,if_pos k2]at k;exact absurd k iT
    .rw[<-Vl k1 k2,if_pos f];decide
  .by_cases g:b<a
   .rw[if_neg f,if_pos g]at h;exact absurd h iT
   .have e:=Vl f g
    subst e
    by_cases k1:a<c
    .rw[if_pos k1];decide
    .by_cases k2:c<a
     .rw[if_neg k1,if_pos k2]at k;exact absurd k iT
     .rw[if_neg f,if_neg g]at h
      rw[if_neg k1,if_neg k2]at k |-;exact pR.trans (a:=s) h k
theorem pR.irrefl(a:Key):¬pR a a:=λa=>by unfold pR at a;rw[Ws]at a;exact absurd a iT
theorem pR.asymm{a b:Key}(h:pR a b):¬pR b a:=λk=>pR.irrefl a (h.trans k)
theorem pR.ne{a b:Key}(h:pR a b):a≠b:=λe=>pR.irrefl b (e▸h)
theorem NU{a b:Key}(h:¬pR a b)(k:a≠b):pR b a:=by
 unfold pR at h |-;rw[Ui a b];rcases YG a b with e|e|e
 .rw[e]at h;exact absurd iT h
 .exact absurd (Wi e) k
 .rw[e];decide
theorem Na{b:Key}(h:b≠[]):pR [] b:=by
 cases b with
 |nil=>exact absurd rfl h
 |cons x t=>show(-1:Int)<0;decide
theorem zqk(a:Key):¬pR a []:=by
 cases a with
 |nil=>exact pR.irrefl _
 |cons x t=>show¬((1:Int)<0);decide
def qa(a b:Key):Prop:=¬pR b a
theorem qa.refl(a:Key):qa a a:=pR.irrefl a
theorem qa.lt{a b c:Key}(h:qa a b)(k:pR b c):pR a c:=by
 by_cases e:a=b
 .rw[e];exact k
 .exact(NU h (λc=>e c.symm)).trans k
theorem pR.le{a b c:Key}(h:pR a b)(k:qa b c):pR a c:=by
 by_cases e:b=c
 .rw[<-e];exact h
 .exact h.trans<|NU k<|λa=>e a.symm
theorem pR.qa{a b:Key}(h:pR a b):qa a b:=h.asymm
theorem qa.trans{a b c:Key}(h:qa a b)(k:qa b c):qa a c:=λc=>by
 by_cases e:a=b
 .exact k<|e▸c
 .exact k<|c.trans<|NU h<|λf=>e f.symm
theorem uT(a:Key):qa [] a:=zqk a
def rO(k hi:Key):Prop:=hi=[]\/pR k hi
structure VN (α:Type) where
 n:Nat
 ks:List (Key × α)
def Val:Nat->Type
 |0=>Nat × Nat
 |l+1=>VN (Val l)
abbrev Tr(l:Nat):=VN (Val l)
def Iq:(l:Nat)->Val l->List UInt8
 |0,v=>nZ 4 v.1++nZ 2 v.2
 |_+1,v=>nZ 4 v.n
def uy(l:Nat)(x:Key × Val l):List UInt8:=u8 x.1.length::(x.1++Iq l x.2)
def xM(l:Nat)(t:Tr l):View:=⟨3,0,some [u8 l]::t.ks.map λx=>some (uy l x)⟩
def Kz(l:Nat):Nat:=if l=0 then 6 else 4
theorem zr8:∀ {l:Nat} (v:Val l),(Iq l v).length=Kz l
 |0,v=>by show(nZ 4 v.1++nZ 2 v.2).length=6;rw[aA,ry,ry]
 |l+1,v=>by show(nZ 4 v.n).length=4;rw[ry]
theorem DV{l:Nat}(x:Key × Val l):(uy l x).length=1+x.1.length+Kz l:=by
 unfold uy;rw[aD,aA,zr8];omega
def rV(l:Nat)(ks:List (Key × Val l)):Nat:=(ks.map λx=>(uy l x).length).sum
theorem xn{l:Nat}(a b:List (Key × Val l)):rV l (a++b)=rV l a+rV l b:=by unfold rV;rw[bK,fM]
theorem uW{l:Nat}(x:Key × Val l)(b:List (Key × Val l)):rV l (x::b)=(uy l x).length+rV l b:=by unfold rV;rw[aZ,cZ]
def tX(l:Nat)(ks:List (Key × Val l)):Bool:=decide (17+4*ks.length+rV l ks<=512)
def oC:(l:Nat)->Tr l->List (Key × (Nat × Nat))
 |0,t=>t.ks
 |l+1,t=>t.ks.flatMap λx=>oC l x.2
def og:(l:Nat)->Tr l->List Nat
 |0,t=>[t.n]
 |l+1,t=>t.n::t.ks.flatMap λx=>og l x.2
def uM(S:Nat->View):(l:Nat)->Tr l->Prop
 |0,t=>S t.n=xM 0 t
 |l+1,t=>S t.n=xM (l+1) t/\∀ x∈t.ks,uM S l x.2
theorem uM.top{S:Nat->View}:∀ {l:Nat} {t:Tr l},uM S l t->S t.n=xM l t
 |0,_,h=>h
 |_+1,_,h=>h.1
theorem vN:∀ {l:Nat} {t:Tr l},t.n∈og l t
 |0,_=>aM.2 rfl
 |_+1,_=>aK ..
theorem uM.frame{S S':Nat->View}:∀ {l:Nat} {t:Tr l},uM S l t->(∀ n∈og l t,S' n=S n)->uM S' l t
 |0,t,h,he=>(he t.n vN).trans h
 |l+1,t,h,he=>⟨(he t.n vN).trans h.1,λx a=>(h.2 x a).frame λn c=>he n (aj _ (bR.2 ⟨x,a,c⟩))⟩
theorem Vz{α:Type}:∀ {A A2 B B2:List α} {x y:α},A++x::B=A2++y::B2->
  (∃ C,A=A2++y::C/\B2=C++x::B)\/(A=A2/\x=y/\B=B2)\/(∃ C,B=C++y::B2/\A2=A++x::C)
 |[],[],B,B2,x,y,h=>by cases h;exact .inr (.inl ⟨rfl,rfl,rfl⟩)
 |[],a::A2,B,B2,x,y,h=>by cases h;exact .inr (.inr ⟨A2,rfl,rfl⟩)
 |a::A,[],B,B2,x,y,h=>by cases h;exact .inl ⟨A,rfl,rfl⟩
 |a::A,b::A2,B,B2,x,y,h=>by
  obtain⟨f,g⟩:=gZ h;subst f;rcases Vz g with⟨C,c,e⟩|⟨c,e,i⟩|⟨C,c,e⟩
  .exact .inl ⟨C,by rw[c];rfl,e⟩
  .exact .inr<|.inl ⟨by rw[c],e,i⟩
  .exact .inr<|.inr ⟨C,c,by rw[e];rfl⟩
theorem XI{α:Type}{R:α->α->Prop}:∀ {l:List α},(∀ A a C b D,l=A++a::(C++b::D)->R a b)->l.Pairwise R
 |[],_=>.nil
 |x::l,h=>.cons (λb hb=>by
  obtain⟨C,D,e⟩:=dH hb;exact h [] x C b D kQ) (XI λA a C b D e=>h (x::A) a C b D kQ)
def zD{α:Type}(lo:Key)(A:List (Key × α))(k:Key):Key:=if A=[]then lo else k
def Eb{α:Type}(B:List (Key × α))(hi:Key):Key:=match B with|[]=>hi|y::_=>y.1
theorem xL{α:Type}{lo k:Key}{A:List (Key × α)}(h:A≠[]):zD lo A k=k:=if_neg h
def qD(k:Key):Prop:=k≠[]/\k.length<=100
def uH{α:Type}(ks:List (Key × α)):Prop:=ks.Pairwise λa b=>pR a.1 b.1
def qA:(l:Nat)->Tr l->Key->Key->Prop
 |0,t,lo,hi=>uH t.ks/\(∀ x∈t.ks,qD x.1/\qa lo x.1/\rO x.1 hi/\x.2.1<2147483648/\x.2.2<65536)/\tX 0 t.ks=true
 |l+1,t,lo,hi=>(∃ x r,t.ks=x::r/\x.1=[])/\uH t.ks/\(∀ (A:List (Key × Val (l+1))) (x:Key × Val (l+1)) (B:List (Key × Val (l+1))),t.ks=A++x::B->A≠[]->qD x.1/\pR lo x.1/\rO x.1 hi)/\tX (l+1) t.ks=true/\
  ∀ (A:List (Key × Val (l+1))) (x:Key × Val (l+1)) (B:List (Key × Val (l+1))),t.ks=A++x::B->qA l x.2 (zD (α:=Val (l+1)) lo A x.1) (Eb (α:=Val (l+1)) B hi)
theorem qA.fit:∀ {l:Nat} {t:Tr l} {lo hi:Key},qA l t lo hi->tX l t.ks=true
 |0,_,_,_,h=>h.2.2
 |_+1,_,_,_,h=>h.2.2.2.1
theorem qA.AB:∀ {l:Nat} {t:Tr l} {lo hi:Key},qA l t lo hi->uH t.ks
 |0,_,_,_,h=>h.1
 |_+1,_,_,_,h=>h.2.1
theorem zO{α:Type}{ks A B:List (Key × α)}{x:Key × α}(h:uH ks)(e:ks=A++x::B):∀ y∈B,pR x.1 y.1:=λy a=>by
 subst e;exact(eB.1 (dI.1 h).2.1).1 y a
theorem QE{α:Type}{ks A B:List (Key × α)}{x:Key × α}(h:uH ks)(e:ks=A++x::B):∀ y∈A,pR y.1 x.1:=λy a=>by
 subst e;exact(dI.1 h).2.2 y a x ig
theorem qA.rows:∀ {l:Nat} {t:Tr l} {lo hi:Key},qA l t lo hi->∀ r∈oC l t,qD r.1/\qa lo r.1/\rO r.1 hi/\r.2.1<2147483648/\r.2.2<65536
 |0,_,_,_,h,r,hr=>h.2.1 r hr
 |l+1,t,lo,hi,h,r,hr=>by
  obtain⟨x,i,hr⟩:=bR.1 hr;obtain⟨A,B,e⟩:=dH i;obtain⟨j,f,a,k⟩:=(h.2.2.2.2 A x B e).rows r hr;refine⟨j,?_,?_,k⟩
  .by_cases g:A=[]
   .rw[g]at f;exact f
   .rw[xL g]at f
    exact(h.2.2.1 A x B e g).2.1.qa.trans f
  .cases B with
   |nil=>exact a
   |cons y B=>
    have c:=(h.2.2.1 (A++[x]) y B kg ig).2.2;rcases a with a|a
    .exact absurd a (h.2.2.1 (A++[x]) y B kg ig).1.1
    .rcases c with c|c
     .exact .inl c
     .exact .inr<|a.trans c
theorem qA.rise:∀ {l:Nat} {t:Tr l} {lo hi:Key},qA l t lo hi->uH (oC l t)
 |0,_,_,_,h=>h.1
 |l+1,t,lo,hi,h=>by
  refine List.pairwise_flatMap.2 ⟨λx i=>?_,XI λA a C b D e r hr s j=>?_⟩
  .obtain⟨A,B,e⟩:=dH i
   exact(h.2.2.2.2 A x B e).rise
  .have f:=((h.2.2.2.2 A a _ e).rows r hr).2.2.1
   have k:t.ks=(A++a::C)++b::D:=by rw[e];simp
   have g:=((h.2.2.2.2 _ b D k).rows s j).2.1;rw[xL ig]at g;have m:qa (Eb (C++b::D) hi) b.1:=by
    cases C with
    |nil=>exact qa.refl _
    |cons c C=>exact(zO h.2.1 (show t.ks=(A++[a])++c::(C++b::D) by rw[e];simp) b ig).qa
   rcases f with f|f
   .exfalso
    cases C with
    |nil=>exact(h.2.2.1 (A++[a]) b D kg ig).1.1 f
    |cons c C=>exact(h.2.2.1 (A++[a]) c (C++b::D) kg ig).1.1 f
   .exact(f.le m).le g
def pz{α:Type}(ks:List (Key × α))(k:Key):Nat:=(ks.takeWhile λx=>decide (pR x.1 k)).length
def isK{α:Type}(ks:List (Key × α))(k:Key):Bool:=match ks[pz ks k]? with|some x=>decide (x.1=k)|none=>false
theorem WI{α:Type}(ks:List (Key × α))(k:Key):pz ks k<=ks.length:=by
 have a:=congrArg List.length (jL (p:=λx:Key × α=>decide (pR x.1 k)) (l:=ks));rw[aA]at a;unfold pz;omega
theorem Wj{α:Type}(ks:List (Key × α))(k:Key):∃ A B,ks=A++B/\pz ks k=A.length/\(∀ x∈A,pR x.1 k)/\∀ x,B.head?=some x->qa k x.1:=by
 refine⟨_,_,(jL (p:=λx:Key × α=>decide (pR x.1 k)) (l:=ks)).symm,rfl,λx c=>?_,λx c e=>?_⟩
 .have:=List.all_takeWhile (p:=λx:Key × α=>decide (pR x.1 k)) (l:=ks)
  exact of_decide_eq_true<|dx.1 this x c
 .have a:=List.head?_dropWhile_not (λx:Key × α=>decide (pR x.1 k)) ks
  rw[c]at a;dsimp only at a;rw[decide_eq_true e]at a;exact absurd a ig
theorem Zo{α:Type}{ks A B:List (Key × α)}{k:Key}(e:ks=A++B)(h1:∀ x∈A,pR x.1 k)(h2:∀ x,B.head?=some x->qa k x.1):pz ks k=A.length:=by
 unfold pz;rw[e,List.takeWhile_append_of_pos (λx a=>decide_eq_true (h1 x a))];have:B.takeWhile (λx=>decide (pR x.1 k))=[]:=by
  cases B with
  |nil=>rfl
  |cons y B=>rw[List.takeWhile_cons,if_neg (by rw[decide_eq_true_eq];exact h2 y rfl)]
 rw[this,aU]
theorem Sb{α:Type}{x:α}{L:List α}:∀ {A:List α},(A++L).insertIdx A.length x=A++x::L
 |[]=>rfl
 |a::A=>by rw[bV,aD,jc,Sb];rfl
def pQ{α:Type}(ks:List (Key × α))(x:Key × α):List (Key × α):=if isK ks x.1 then ks.set (pz ks x.1) x else ks.insertIdx (pz ks x.1) x
def Bb{α:Type}(ks:List (Key × α))(x:Key × α):List (Key × α):=ks.filter (λa=>decide (pR a.1 x.1))++x::ks.filter (λa=>decide (pR x.1 a.1))
theorem filter_all{α:Type}{p:α->Bool}{l:List α}(h:∀ x∈l,p x=true):l.filter p=l:=iW.2 h
theorem LD{α:Type}{p:α->Bool}{l:List α}(h:∀ x∈l,p x=false):l.filter p=[]:=List.filter_eq_nil_iff.2 λx a=>by rw[h x a];exact eF
theorem JB{α:Type}{ks:List (Key × α)}(hr:uH ks)(x:Key × α):∃ A B,(∀ y∈A,pR y.1 x.1)/\(∀ y∈B,pR x.1 y.1)/\pQ ks x=A++x::B/\pz ks x.1=A.length/\
  ((isK ks x.1=false/\ks=A++B)\/(isK ks x.1=true/\∃ y,y.1=x.1/\ks=A++y::B)):=by
 obtain⟨A,B,e,hp,g,k⟩:=Wj ks x.1;unfold pQ;cases B with
 |nil=>
  have a:isK ks x.1=false:=by unfold isK;rw[hp,e,aU,bQ (ax _)]
  refine⟨A,[],g,λy c=>(by cases c),?_,hp, .inl ⟨a,e⟩⟩;rw[a,if_neg ig,hp,e,Sb]
 |cons y B=>
  have i:ks[pz ks x.1]?=some y:=by rw[hp,e,bC (ax _),bL];rfl
  by_cases c:y.1=x.1
  .have a:isK ks x.1=true:=by unfold isK;rw[i];exact decide_eq_true c
   refine⟨A,B,g,λh f=>c▸zO hr e h f,?_,hp, .inr ⟨a,y,c,e⟩⟩;rw[a,if_pos rfl,hp,e,dJ _ _ (ax _),bL];rfl
  .have a:isK ks x.1=false:=by unfold isK;rw[i];exact decide_eq_false c
   have j:pR x.1 y.1:=NU (k y rfl) c;refine⟨A,y::B,g,λh f=>?_,?_,hp, .inl ⟨a,e⟩⟩
   .rcases ak.1 f with rfl|f
    .exact j
    .exact j.trans<|zO hr e h f
   .rw[a,if_neg ig,hp,e,Sb]
theorem Vu{α:Type}{A B M:List (Key × α)}{x:Key × α}(hA:∀ y∈A,pR y.1 x.1)(hB:∀ y∈B,pR x.1 y.1):Bb (A++(M++B)) x=A++(Bb M x++B):=by
 unfold Bb;rw[fD,fD,fD,fD,filter_all λy a=>decide_eq_true (hA y a),LD (l:=B) λy a=>decide_eq_false (hB y a).asymm,LD (l:=A) λy a=>decide_eq_false (hA y a).asymm,filter_all (l:=B) λy a=>decide_eq_true (hB y a),aU,aV,aG,aG]
 rfl
theorem zt4{α:Type}{ks:List (Key × α)}(hr:uH ks)(x:Key × α):pQ ks x=Bb ks x:=by
 obtain⟨A,B,g,h,e,_,c⟩:=JB hr x;rw[e];rcases c with⟨_,c⟩|⟨_,a,i,c⟩
 .rw[c,show A++B=A++([]++B)from rfl,Vu g h];rfl
 .have j:¬pR a.1 x.1:=by rw[i];exact pR.irrefl _
  have k:¬pR x.1 a.1:=by rw[i];exact pR.irrefl _
  rw[c,show A++a::B=A++([a]++B)from rfl,Vu g h];unfold Bb;rw[LD (l:=[a]) λm f=>by rw[aM.1 f];exact decide_eq_false j,LD (l:=[a]) λm f=>by rw[aM.1 f];exact decide_eq_false k]
  rfl
theorem Wt{α:Type}{A B:List (Key × α)}{x:Key × α}(h1:uH A)(h2:uH B)(hA:∀ y∈A,pR y.1 x.1)(hB:∀ y∈B,pR x.1 y.1):uH (A++x::B):=
 dI.2 ⟨h1,eB.2 ⟨hB,h2⟩,λa c b hb=>by
  rcases ak.1 hb with rfl|hb
  .exact hA a c
  .exact(hA a c).trans (hB b hb)⟩
def BA(all:Nat):Nat->Nat->List Nat->Nat
 |n,_,[]=>n
 |n,size,s::r=>if 2*(size+s)>all then n else BA all (n+1) (size+s) r
def Co(L:List Nat):Nat:=match L with|[]=>1|s::r=>BA L.sum 1 s r
theorem XV{all:Nat}:∀ (r:List Nat) (n size:Nat),size+r.sum=all->(n=1\/2*size<=all)->r≠[]->all>0->
  ∃ j,BA all n size r=n+j/\j<r.length/\(n+j=1\/2*(size+(r.take j).sum)<=all)/\2*(size+(r.take (j+1)).sum)>all
 |[],_,_,_,_,h,_=>absurd rfl h
 |s::r,n,size,h,hn,_,ha=>by
  rw[BA];rw[cZ]at h
  by_cases a:2*(size+s)>all
  .rw[if_pos a]
   exact⟨0,rfl,ig,by simpa using hn,by simpa using a⟩
  .rw[if_neg a]
   by_cases hr:r=[]
   .subst hr;simp at h;omega
   .obtain⟨j,e,g,c,i⟩:=XV r (n+1) (size+s) eu (.inr eu) hr ha
    refine⟨j+1,by rw[e];omega,by simp;omega, .inr ?_,?_⟩
    .rw[gJ,cZ]
     rcases c with c|c
     .have f:j=0:=by omega
      subst f;rw[dw,List.sum_nil];omega
     .omega
    .rw[gJ,cZ];omega
theorem XC{L:List Nat}(h2:2<=L.length)(hp:0<L.sum):1<=Co L/\Co L<L.length/\(Co L=1\/2*(L.take (Co L)).sum<=L.sum)/\2*(L.take (Co L+1)).sum>L.sum:=by
 match L,h2 with
 |s::r,h2=>
  have hr:r≠[]:=λe=>by rw[e]at h2;simp at h2
  obtain⟨j,e,g,a,c⟩:=XV (all:=(s::r).sum) r 1 s (by rw[cZ]) (.inl rfl) hr hp;have f:Co (s::r)=j+1:=by show BA _ 1 s r=_;rw[e];omega
  rw[f];refine⟨eu,by simp;omega,?_,?_⟩
  .rw[gJ,cZ]
   rcases a with a|a
   .exact .inl eu
   .exact .inr a
  .rw[gJ,cZ];exact c
def vS:(l:Nat)->List (Key × Val l)->Key->Key->Prop
 |0,ks,lo,hi=>uH ks/\∀ x∈ks,qD x.1/\qa lo x.1/\rO x.1 hi/\x.2.1<2147483648/\x.2.2<65536
 |l+1,ks,lo,hi=>(∃ x r,ks=x::r/\x.1=[])/\uH ks/\(∀ (A:List (Key × Val (l+1))) (x:Key × Val (l+1)) (B:List (Key × Val (l+1))),ks=A++x::B->A≠[]->qD x.1/\pR lo x.1/\rO x.1 hi)/\
  ∀ (A:List (Key × Val (l+1))) (x:Key × Val (l+1)) (B:List (Key × Val (l+1))),ks=A++x::B->qA l x.2 (zD (α:=Val (l+1)) lo A x.1) (Eb (α:=Val (l+1)) B hi)
theorem AY:∀ {l:Nat} {t:Tr l} {lo hi:Key},qA l t lo hi↔vS l t.ks lo hi/\tX l t.ks=true
 |0,_,_,_=>⟨λa=>⟨⟨a.1,a.2.1⟩,a.2.2⟩,λa=>⟨a.1.1,a.1.2,a.2⟩⟩
 |_+1,_,_,_=>⟨λa=>⟨⟨a.1,a.2.1,a.2.2.1,a.2.2.2.2⟩,a.2.2.2.1⟩,λa=>⟨a.1.1,a.1.2.1,a.1.2.2.1,a.2,a.1.2.2.2⟩⟩
theorem vS.len:∀ {l:Nat} {ks:List (Key × Val l)} {lo hi:Key},vS l ks lo hi->∀ x∈ks,x.1.length<=100
 |0,_,_,_,h,x,hx=>(h.2 x hx).1.2
 |l+1,ks,_,_,h,x,hx=>by
  obtain⟨A,B,e⟩:=dH hx
  by_cases a:A=[]
  .obtain⟨g,r,c,f⟩:=h.1
   rw[a]at e;rw[e]at c;cases c;rw[f];exact aC _
  .exact(h.2.2.1 A x B e a).1.2
def uN:(l:Nat)->List (Key × Val l)->List (Key × Val l)
 |0,ks=>ks
 |_+1,[]=>[]
 |_+1,x::r=>([],x.2)::r
theorem MX:∀ {l:Nat} {L R:List (Key × Val l)} {y:Key × Val l} {lo hi:Key},vS l (L++y::R) lo hi->L≠[]->qD y.1/\pR lo y.1/\rO y.1 hi/\vS l L lo y.1/\vS l (uN l (y::R)) y.1 hi
 |0,L,R,y,lo,hi,h,hL=>by
  have i:=h.2 y ig;have f:=dI.1 h.1;have m:=eB.1 f.2.1;have r:pR lo y.1:=by
   cases L with
   |nil=>exact absurd rfl hL
   |cons k L=>exact(h.2 k ig).2.1.lt (f.2.2 k ig y ig)
  refine⟨i.1,r,i.2.2.1,⟨f.1,λx g=>?_⟩,⟨f.2.1,λx g=>?_⟩⟩
  .have c:=h.2 x (aF _ g)
   exact⟨c.1,c.2.1, .inr (f.2.2 x g y ig),c.2.2.2⟩
  .have c:=h.2 x (aB _ g)
   refine⟨c.1,?_,c.2.2⟩;rcases ak.1 g with rfl|g
   .exact qa.refl _
   .exact(m.1 x g).qa
 |l+1,L,R,y,lo,hi,h,hL=>by
  obtain⟨⟨w,z,s,t⟩,hr,o,p⟩:=h;have i:=o L y R rfl hL;have f:=dI.1 hr;have m:=eB.1 f.2.1;refine⟨i.1,i.2.1,i.2.2,⟨?_,f.1,λA x B e q=>?_,λA x B e=>?_⟩,⟨([],y.2),R,rfl,rfl⟩,eB.2 ⟨λk u=>?_,m.2⟩,λA x B e q=>?_,λA x B e=>?_⟩
  .cases L with
   |nil=>exact absurd rfl hL
   |cons k L=>cases s;exact⟨_,_,rfl,t⟩
  .have c:=o A x (B++y::R) kg q
   exact⟨c.1,c.2.1, .inr (f.2.2 x kg y ig)⟩
  .have c:=p A x (B++y::R) kg
   cases B with
   |nil=>exact c
   |cons b B=>exact c
  .obtain⟨C,D,e⟩:=dH u
   exact Na (o (L++y::C) k D kg ig).1.1
  .cases A with
   |nil=>exact absurd rfl q
   |cons a A=>
    obtain⟨_,j⟩:=gZ e;have c:=o (L++y::A) x B (by rw[j];simp) ig;exact⟨c.1,m.1 x (by rw[j];simp),c.2.2⟩
  .cases A with
   |nil=>
    obtain⟨v,j⟩:=gZ e;subst v;subst j;have c:=p L y R rfl;rw[xL hL]at c;exact c
   |cons a A=>
    obtain⟨_,j⟩:=gZ e;have c:=p (L++y::A) x B (by rw[j];simp);rw[xL ig]at c |-;exact c
theorem RV{l:Nat}:∀ (ks:List (Key × Val l)),5*ks.length<=rV l ks
 |[]=>aC _
 |x::ks=>by
  rw[uW,aD,DV];have:=RV ks;have:4<=Kz l:=by unfold Kz;split<;>omega
  omega
theorem Ez{l:Nat}{x:Key × Val l}(h:x.1.length<=100):(uy l x).length<=107:=by
 rw[DV];have:Kz l<=6:=by unfold Kz;split<;>omega
 omega
theorem Yt:∀ {l:Nat} (ks:List (Key × Val l)),(uN l ks).length=ks.length/\rV l (uN l ks)<=rV l ks
 |0,ks=>⟨rfl,ax _⟩
 |_+1,[]=>⟨rfl,ax _⟩
 |l+1,x::r=>⟨rfl,by
  show rV (l+1) (([],x.2)::r)<=_;rw[uW,uW,DV,DV];simp only[aX];show 1+0+Kz (l+1)+_<=_;omega⟩
def yx(l:Nat)(ks:List (Key × Val l)):Nat:=Co (ks.map λx=>(uy l x).length)
inductive Ed (l:Nat) where
 |one (t:Tr l)
 |two (a:Tr l) (k:Key) (b:Tr l)
def wz(l n:Nat)(ks:List (Key × Val l))(gs:List Nat):Ed l × List Nat:=
 if tX l ks=true then(.one ⟨n,ks⟩,gs)else(.two ⟨n,ks.take (yx l ks)⟩ (((ks.drop (yx l ks)).head?.map Prod.fst).getD []) ⟨gs.headD 0,uN l (ks.drop (yx l ks))⟩,gs.tail)
theorem zt5{l:Nat}(ks:List (Key × Val l))(m:Nat):((ks.map λx=>(uy l x).length).take m).sum=rV l (ks.take m):=by rw[<-eX];rfl
theorem Vi{l:Nat}{ks:List (Key × Val l)}(hc:∀ x∈ks,x.1.length<=100)(h1:17+4*ks.length+rV l ks<=623)(h2:¬tX l ks=true):
  ∃ L y R,ks=L++y::R/\L≠[]/\yx l ks=L.length/\tX l L=true/\tX l (uN l (y::R))=true:=by
 have a:512<17+4*ks.length+rV l ks:=by
  unfold tX at h2;rw[decide_eq_true_eq]at h2;omega
 have v:=RV ks;have i:2<=ks.length:=by
  match ks,hc,a with
  |[],_,a=>simp[rV]at a
  |[x],hc,a=>
   have:=Ez (l:=l) (hc x ig);rw[uW]at a;simp[rV]at a;omega
  |_::_::_,_,_=>simp
 obtain⟨c1,c2,c3,f⟩:=XC (L:=ks.map λx=>(uy l x).length) (by rw[aQ];exact i) (by show 0<rV l ks;omega);rw[aQ]at c2;rw[zt5]at c3 f;obtain⟨m,g⟩:∃ m,Co (ks.map λx=>(uy l x).length)=m:=⟨_,rfl⟩;rw[g]at c1 c2 c3 f;have j:(ks.map λx=>(uy l x).length).sum=rV l ks:=rfl;rw[j]at c3 f;have k:=dG c2;have e:ks=ks.take m++ks[m]::ks.drop (m+1):=by rw[<-k,bM]
 have c:(ks.take m).length=m:=by rw[aH];omega
 have w:=Ez (l:=l) (hc ks[m] (jD _));have y:rV l ks=rV l (ks.take m)+((uy l ks[m]).length+rV l (ks.drop (m+1))):=by
  conv=>lhs;rw[e]
  rw[xn,uW]
 have z:rV l (ks.take (m+1))=rV l (ks.take m)+(uy l ks[m]).length:=by
  rw[bf,aI c2,xn];show _+rV l [ks[m]]=_;rw[uW];show _+(_+0)=_;omega
 have o:=RV (ks.take m);have p:=RV (ks.drop (m+1));have h:(ks.drop (m+1)).length=ks.length - (m+1):=aL ..;rw[c]at o;rw[h]at p;refine⟨ks.take m,ks[m],ks.drop (m+1),e,λq=>?_,g.trans c.symm,?_,?_⟩
 .rw[q]at c;simp at c;omega
 .unfold tX
  rw[decide_eq_true_eq,c];rcases c3 with c3|c3
  .subst c3
   have r:0<ks.length:=by omega
   have:rV l (ks.take 1)<=107:=by
    have s:ks.take 1=[ks[0]]:=by rw[List.take_one,List.head?_eq_getElem?,aI r];rfl
    rw[s,uW];have:=Ez (l:=l) (hc ks[0] (jD _));show _+0<=_;omega
   omega
  .omega
 .unfold tX
  obtain⟨t,u⟩:=Yt (ks[m]::ks.drop (m+1));rw[decide_eq_true_eq,t];rw[uW]at u;rw[aD,h];omega
def Sj(l:Nat)(lo hi:Key):Ed l->Prop
 | .one t=>qA l t lo hi
 | .two a k b=>qD k/\pR lo k/\rO k hi/\qA l a lo k/\qA l b k hi
def zse(l:Nat):Ed l->List (Key × (Nat × Nat))
 | .one t=>oC l t
 | .two a _ b=>oC l a++oC l b
theorem zsf:∀ {l:Nat} (n:Nat) (ks:List (Key × Val l)),oC l ⟨n,uN l ks⟩=oC l ⟨n,ks⟩
 |0,_,_=>rfl
 |_+1,_,[]=>rfl
 |_+1,_,_::_=>rfl
theorem LH:∀ {l:Nat} (n a b:Nat) (L R:List (Key × Val l)),oC l ⟨n,L++R⟩=oC l ⟨a,L⟩++oC l ⟨b,R⟩
 |0,_,_,_,_,_=>rfl
 |_+1,_,_,_,_,_=>bO
theorem o_{l n:Nat}{ks:List (Key × Val l)}{gs:List Nat}{lo hi:Key}(h:vS l ks lo hi)(h1:17+4*ks.length+rV l ks<=623):Sj l lo hi (wz l n ks gs).1/\zse l (wz l n ks gs).1=oC l ⟨n,ks⟩:=by
 unfold wz
 by_cases a:tX l ks=true
 .rw[if_pos a]
  exact⟨AY.2 ⟨h,a⟩,rfl⟩
 .rw[if_neg a]
  obtain⟨L,c,R,e,f,g,i,j⟩:=Vi h.len h1 a;rw[g];have k:ks.take L.length=L:=by rw[e];exact dR
  have m:ks.drop L.length=c::R:=by rw[e];exact dF
  rw[k,m];rw[e]at h;obtain⟨k1,k2,k3,k4,k5⟩:=MX h f;refine⟨⟨k1,k2,k3,AY.2 ⟨k4,i⟩,AY.2 ⟨k5,j⟩⟩,?_⟩;show oC l ⟨n,L⟩++oC l ⟨_,uN l (c::R)⟩=_;rw[zsf,<-LH n,e]
def qE{α:Type}(ks:List (Key × α))(k:Key):Nat:=if isK ks k then pz ks k else pz ks k - 1
theorem TM{α:Type}{ks:List (Key × α)}{k:Key}(hr:uH ks)(h0:∃ x r,ks=x::r/\x.1=[])(hk:qD k):∃ A x B,ks=A++x::B/\qE ks k=A.length/\qa x.1 k/\∀ y∈B,pR k y.1:=by
 obtain⟨A,B,e,hp,l,h⟩:=Wj ks k;have m:A≠[]:=λc=>by
  subst c;obtain⟨x,r,o,p⟩:=h0;have i:=h x (by rw[<-show ks=B from e,o];rfl);rw[p]at i;exact i<|Na hk.1
 unfold qE;cases hi:isK ks k with
 |true=>
  rw[if_pos rfl,hp];unfold isK at hi;rw[hp,e,bC (ax _),bL]at hi;cases B with
  |nil=>cases hi
  |cons y B=>
   have a:y.1=k:=of_decide_eq_true hi;exact⟨A,y,B,e,rfl,by rw[a];exact qa.refl _,λg f=>a▸zO hr e g f⟩
 |false=>
  rw[if_neg ig,hp];obtain⟨A1,x,rfl⟩:∃ A1 x,A=A1++[x]:=(iH A).elim (λc=>absurd c m) fun⟨A1,x,c⟩=>⟨A1,x,by rw[c,iI]⟩
  refine⟨A1,x,B,by rw[e];simp,ig,(l x ig).qa,?_⟩;cases B with
  |nil=>intro y a;cases a
  |cons y B=>
   unfold isK at hi;rw[hp,e,bC (ax _),bL]at hi;have a:y.1≠k:=of_decide_eq_false hi;have j:pR k y.1:=NU (h y rfl) a;intro g f;rcases ak.1 f with rfl|f
   .exact j
   .exact j.trans<|zO hr e g f
theorem Je{l:Nat}{v:Tr l}{lo hi:Key}(h:qA l v lo hi):vS (l+1) [([],v)] lo hi:=
 ⟨⟨_,_,rfl,rfl⟩,List.pairwise_singleton _ _,λA x B e c=>by
  cases A with
  |nil=>exact absurd rfl c
  |cons a A=>simp at e,λA x B e=>by
  cases A with
  |nil=>obtain⟨f,g⟩:=gZ e;subst f;subst g;exact h
  |cons a A=>simp at e⟩
theorem NG{l:Nat}{L R:List (Key × Val (l+1))}{y:Key × Val (l+1)}{lo hi:Key}(h1:vS (l+1) L lo y.1)(h2:vS (l+1) (([],y.2)::R) y.1 hi)(hk:qD y.1)(hl:pR lo y.1)(hb:rO y.1 hi):vS (l+1) (L++y::R) lo hi:=by
 obtain⟨⟨s,t,i,l⟩,u,m,v⟩:=h1;obtain⟨_,w,o,p⟩:=h2;have z:=eB.1 w;have q:∀ x∈L,pR x.1 y.1:=λx k=>by
  obtain⟨A,B,e⟩:=dH k
  by_cases j:A=[]
  .rw[j]at e
   rw[e]at i;cases i;rw[l];exact Na hk.1
  .rcases(m A x B e j).2.2 with h|h
   .exact absurd h hk.1
   .exact h
 have D:∀ x∈R,pR y.1 x.1:=λx k=>by
  obtain⟨A,B,e⟩:=dH k;exact(o (([],y.2)::A) x B kQ ig).2.1
 refine⟨⟨s,t++y::R,by rw[i];rfl,l⟩,Wt u z.2 q D,λA x B e j=>?_,λA x B e=>?_⟩
 .rcases Vz e with⟨C,f,g⟩|⟨f,g,r⟩|⟨C,f,g⟩
  .have a:=m A x C f j
   refine⟨a.1,a.2.1,?_⟩;have E:=q x (by rw[f];simp);rcases hb with h|h
   .exact .inl h
   .exact .inr<|E.trans h
  .subst g;exact⟨hk,hl,hb⟩
  .have a:=o (([],y.2)::C) x B (by rw[f];rfl) ig
   exact⟨a.1,hl.trans a.2.1,a.2.2⟩
 .rcases Vz e with⟨C,f,g⟩|⟨f,g,r⟩|⟨C,f,g⟩
  .have a:=v A x C f
   subst g;cases C with
   |nil=>exact a
   |cons c C=>exact a
  .subst g;subst r
   have a:=p [] ([],y.2) R rfl;rw[xL (by rw[<-f,i];simp)];exact a
  .have a:=p (([],y.2)::C) x B (by rw[f];rfl)
   rw[xL ig]at a;rw[xL (by rw[g];simp)];exact a
theorem RD{l:Nat}{A B Mr:List (Key × Val (l+1))}{x:Key × Val (l+1)}{m0:Val (l+1)}{lo hi:Key}(h:vS (l+1) (A++x::B) lo hi)(hm:vS (l+1) (([],m0)::Mr) (zD (α:=Val (l+1)) lo A x.1) (Eb (α:=Val (l+1)) B hi)):vS (l+1) (A++(x.1,m0)::(Mr++B)) lo hi:=by
 have c:vS (l+1) (([],m0)::(Mr++B)) (zD (α:=Val (l+1)) lo A x.1) hi:=by
  cases B with
  |nil=>rw[aU];exact hm
  |cons y B=>
   have f:=h.2.2.1 (A++[x]) y B ig ig;have g:=MX (L:=A++[x]) (R:=B) (y:=y) (by rw[aG];exact h) ig;refine NG (L:=([],m0)::Mr) hm g.2.2.2.2 f.1 ?_ f.2.2
   by_cases a:A=[]
   .rw[a];exact f.2.1
   .rw[xL a]
    exact zO h.2.1 rfl y ig
 by_cases a:A=[]
 .subst a
  obtain⟨j,r,e,i⟩:=h.1;cases e;rw[i];exact c
 .rw[xL a]at c
  obtain⟨k1,k2,k3,k4,_⟩:=MX h a;exact NG (y:=(x.1,m0)) k4 c k1 k2 k3
def zq:(l:Nat)->Tr l->Key->Nat × Nat->List Nat->Ed l × List Nat
 |0,t,k,v,gs=>wz 0 t.n (pQ t.ks (k,(v:Val 0))) gs
 |l+1,t,k,v,gs=>match t.ks[qE t.ks k]? with
  |none=>(.one t,gs)
  |some x=>match zq l x.2 k v gs with
   |(.one t',gs')=>(.one ⟨t.n,t.ks.set (qE t.ks k) (x.1,(t':Val (l+1)))⟩,gs')
   |(.two a k2 b,gs')=>wz (l+1) t.n (pQ (t.ks.set (qE t.ks k) (x.1,(a:Val (l+1)))) (k2,(b:Val (l+1)))) gs'
theorem Zn{l:Nat}{A B:List (Key × Val l)}{x:Key × Val l}{m:Val l}:tX l (A++(x.1,m)::B)=tX l (A++x::B):=by
 unfold tX;rw[xn,xn,uW,uW,DV,DV];simp only[aA,aD]
theorem zsg{l:Nat}{A B:List (Key × Val l)}{x:Key × Val l}{k:Key}{v:Val l}(hA:∀ y∈A,pR y.1 k)(hx:pR x.1 k)(hB:∀ y∈B,pR k y.1):pQ (A++x::B) (k,v)=A++x::(k,v)::B:=by
 have hp:pz (A++x::B) k=(A++[x]).length:=Zo (A:=A++[x]) (B:=B) ig (λy a=>by
  rcases ay.1 a with c|c
  .exact hA y c
  .rw[aM.1 c];exact hx) λy a=>by
  cases B with
  |nil=>cases a
  |cons z B=>cases a;exact(hB _ ig).qa
 have e:isK (A++x::B) k=false:=by
  unfold isK;rw[hp,show A++x::B=(A++[x])++B by simp,bC (ax _),bL];cases B with
  |nil=>rfl
  |cons z B=>exact decide_eq_false (hB z ig).ne.symm
 unfold pQ;dsimp only;rw[e,if_neg ig,hp,show A++x::B=(A++[x])++B by simp,Sb];simp
theorem TP{l n:Nat}{A B:List (Key × Val (l+1))}{y:Key × Val (l+1)}:oC (l+1) ⟨n,A++y::B⟩=A.flatMap (λy=>oC l y.2)++(oC l y.2++B.flatMap λy=>oC l y.2):=by
 show(A++y::B).flatMap (λy=>oC l y.2)=_;rw[bO,bN]
theorem Qz:∀ {l:Nat} {t:Tr l} {k lo hi:Key} {v:Nat × Nat} {gs:List Nat},qA l t lo hi->qD k->qa lo k->rO k hi->v.1<2147483648->v.2<65536->
  Sj l lo hi (zq l t k v gs).1/\zse l (zq l t k v gs).1=Bb (oC l t) (k,v)
 |0,t,k,lo,hi,v,gs,g,hk,hlo,hhi,hv1,hv2=>by
  have hp:=(AY.1 g);obtain⟨A,B,j,N,e,_,D⟩:=JB hp.1.1 (k,(v:Val 0));have O:(∀ c∈A,c∈t.ks)/\(∀ c∈B,c∈t.ks)/\uH A/\uH B/\17+4*(A.length+B.length)+(rV 0 A+rV 0 B)<=512:=by
   have i:=hp.2;unfold tX at i;rw[decide_eq_true_eq]at i;have hr:=hp.1.1;rcases D with⟨_,E⟩|⟨_,c,_,E⟩
   .rw[E]at i hr |-
    rw[aA,xn]at i;have:=dI.1 hr;exact⟨λc f=>aF _ f,λc f=>aB _ f,this.1,this.2.1,i⟩
   .rw[E]at i hr |-
    rw[aA,xn,aD,uW]at i;have:=dI.1 hr;exact⟨λc f=>aF _ f,λc f=>aB _ (aj _ f),this.1,(eB.1 this.2.1).2,eu⟩
  obtain⟨P,Q,S,T,b4⟩:=O;have U:(uy 0 (k,(v:Val 0))).length<=107:=Ez hk.2;have V:vS 0 (pQ t.ks (k,(v:Val 0))) lo hi:=by
   rw[e];refine⟨Wt S T j N,λx o=>?_⟩;rcases ay.1 o with o|o
   .exact hp.1.2 x<|P x o
   .rcases ak.1 o with rfl|o
    .exact⟨hk,hlo,hhi,hv1,hv2⟩
    .exact hp.1.2 x<|Q x o
  have s:=o_ (n:=t.n) (gs:=gs) V (by
   rw[e,aA,xn,aD,uW];omega)
  refine⟨s.1,s.2.trans ?_⟩;exact zt4 hp.1.1 (k,v)
 |l+1,t,k,lo,hi,v,gs,g,hk,hlo,hhi,hv1,hv2=>by
  have hp:=(AY.1 g);obtain⟨A,x,B,e,I,F,J⟩:=TM g.AB g.1 hk;have o:t.ks[qE t.ks k]?=some x:=by rw[I,e,bC (ax _),bL];rfl
  have K:∀ m:Val (l+1),t.ks.set (qE t.ks k) (x.1,m)=A++(x.1,m)::B:=λm=>by
   rw[I];conv=>lhs;rw[e]
   rw[dJ _ _ (ax _),bL];rfl
  have D:=g.2.2.2.2 A x B e;have X:qa (zD (α:=Val (l+1)) lo A x.1) k:=by
   by_cases j:A=[]
   .rw[j];exact hlo
   .rw[xL j];exact F
  have Y:rO k (Eb (α:=Val (l+1)) B hi):=by
   cases B with
   |nil=>exact hhi
   |cons c B=>exact .inr (J c ig)
  obtain⟨G,Z⟩:=Qz (gs:=gs) D hk X Y hv1 hv2;have a0:∀ r∈A.flatMap (λc=>oC l c.2),pR r.1 k:=λr hr=>by
   have w:=g.rise;obtain⟨c,f,hr⟩:=bR.1 hr;obtain⟨A1,A2,p⟩:=dH f;have h:=((g.2.2.2.2 A1 c (A2++x::B) (by rw[e,p];simp)).rows r hr).2.2.1;have a1:x.1≠[]:=(g.2.2.1 A x B e (by rw[p];simp)).1.1;cases A2 with
   |nil=>
    rcases h with h|h
    .exact absurd h a1
    .exact h.le F
   |cons q A2=>
    rcases h with h|h
    .exact absurd h (g.2.2.1 (A1++[c]) q (A2++x::B) (by rw[e,p];simp) ig).1.1
    .exact h.le<|(zO g.AB (show t.ks=(A1++[c])++q::(A2++x::B) by rw[e,p];simp) x ig).qa.trans F
  have a2:∀ r∈B.flatMap (λc=>oC l c.2),pR k r.1:=λr hr=>by
   obtain⟨c,f,hr⟩:=bR.1 hr;obtain⟨B1,B2,p⟩:=dH f;have h:=((g.2.2.2.2 (A++x::B1) c B2 (by rw[e,p];simp)).rows r hr).2.1;rw[xL ig]at h;exact(J c f).le h
  have a3:oC (l+1) t=A.flatMap (λc=>oC l c.2)++(oC l x.2++B.flatMap (λc=>oC l c.2)):=by
   show t.ks.flatMap _=_;rw[e,bO,bN]
  have a4:Bb (oC (l+1) t) (k,v)=A.flatMap (λc=>oC l c.2)++(Bb (oC l x.2) (k,v)++B.flatMap (λc=>oC l c.2)):=by
   rw[a3];exact Vu a0 a2
  rw[a4,<-Z];rw[zq,o];dsimp only;rcases hres:zq l x.2 k v gs with⟨a5,a6⟩;rw[hres]at G;cases a5 with
  |one t'=>
   dsimp only;have z:=K t';refine⟨?_,?_⟩
   .show qA (l+1) ⟨t.n,t.ks.set (qE t.ks k) (x.1,t')⟩ lo hi
    rw[z];refine AY.2 ⟨?_,?_⟩
    .have:=RD (Mr:=[]) (e▸hp.1) (Je G)
     exact this
    .exact(Zn (A:=A) (B:=B) (x:=x) (m:=t')).trans (by rw[<-e];exact hp.2)
   .show oC (l+1) ⟨t.n,t.ks.set (qE t.ks k) (x.1,t')⟩=_
    rw[z];exact TP (y:=(x.1,t'))
  |two a k2 b=>
   dsimp only;have z:=K a;rw[z];obtain⟨H,u,M,a7,a8⟩:=G;have a9:∀ c∈A,pR c.1 k2:=λc f=>by
    have j:A≠[]:=λg=>by rw[g]at f;cases f
    rw[xL j]at u;exact(QE g.AB e c f).trans u
   have b0:pR x.1 k2:=by
    by_cases j:A=[]
    .obtain⟨q,r,p,C⟩:=g.1
     rw[e,j]at p;cases p;rw[C];exact Na H.1
    .rw[xL j]at u;exact u
   have b1:∀ c∈B,pR k2 c.1:=λc f=>by
    cases B with
    |nil=>cases f
    |cons q B=>
     have C:pR k2 q.1:=by
      rcases M with w|w
      .exact absurd w (g.2.2.1 (A++[x]) q B kg ig).1.1
      .exact w
     rcases ak.1 f with rfl|f
     .exact C
     .exact C.trans<|zO g.AB (show t.ks=(A++[x])++q::B by rw[e];simp) c f
   have hi:=zsg (A:=A) (B:=B) (x:=(x.1,(a:Val (l+1)))) (k:=k2) (v:=(b:Val (l+1))) a9 b0 b1;rw[hi];have b2:=NG (L:=[([],(a:Val (l+1)))]) (R:=[]) (y:=(k2,(b:Val (l+1)))) (Je a7) (Je a8) H u M;have b3:=RD (x:=x) (m0:=a) (Mr:=[(k2,(b:Val (l+1)))]) (e▸hp.1) b2;have i:=hp.2;unfold tX at i;rw[decide_eq_true_eq,e,aA,xn,aD,uW,DV]at i;have U:(uy (l+1) (k2,(b:Val (l+1)))).length<=107:=Ez H.2;have s:=o_ (n:=t.n) (gs:=a6) b3 (by
    rw[aA,xn,aD,uW,DV,gF,aD,uW];dsimp only;omega)
   refine⟨s.1,s.2.trans ?_⟩;refine(TP (y:=(x.1,a))).trans ?_;rw[gF,bN];show _=_++((oC l a++oC l b)++_);rw[aG]
abbrev V3:=Nat × Nat × Nat
def v3:(l:Nat)->Val l->V3
 |0,v=>(v.1,v.2,0)
 |_+1,v=>(0,0,v.n)
structure MN where
 n:Nat
 lv:Nat
 cs:List (Key × V3)
def toM(l:Nat)(ks:List (Key × Val l)):List (Key × V3):=ks.map λx=>(x.1,v3 l x.2)
def nO(l:Nat)(t:Tr l):MN:=⟨t.n,l,toM l t.ks⟩
def pK(lv:Nat)(x:Key × V3):List UInt8:=u8 x.1.length::(x.1++if lv=0 then nZ 4 x.2.1++nZ 2 x.2.2.1 else nZ 4 x.2.2.2)
def rH(x:MN):View:=⟨3,0,some [u8 x.lv]::x.cs.map λc=>some (pK x.lv c)⟩
def tK(lv:Nat)(cs:List (Key × V3)):Bool:=decide (17+4*cs.length+(cs.map λc=>(pK lv c).length).sum<=512)
theorem Gc:∀ {l:Nat} (x:Key × Val l),pK l (x.1,v3 l x.2)=uy l x
 |0,_=>rfl
 |_+1,_=>rfl
theorem Uz{l:Nat}(ks:List (Key × Val l)):(toM l ks).map (pK l)=ks.map (uy l):=by
 unfold toM;rw[dE];exact iY λx _=>Gc x
theorem Ct(l:Nat)(t:Tr l):rH (nO l t)=xM l t:=by
 unfold rH xM nO;dsimp only;have:=congrArg (List.map some) (Uz t.ks);rw[dE,dE]at this;exact congrArg (λa=>View.mk 3 0 (some [u8 l]::a)) this
theorem Us(l:Nat)(ks:List (Key × Val l)):tK l (toM l ks)=tX l ks:=by
 unfold tK tX rV;have:=congrArg (List.map List.length) (Uz ks);rw[dE,dE]at this;have e:((toM l ks).map λc=>(pK l c).length)=ks.map λx=>(uy l x).length:=this
 rw[e,toM,aQ]
theorem VH{α β:Type}(f:α->β)(ks:List (Key × α))(k:Key):pz (ks.map λx=>(x.1,f x.2)) k=pz ks k:=by
 unfold pz;rw[List.takeWhile_map,aQ]
 rfl
theorem ZY{α β:Type}(f:α->β)(ks:List (Key × α))(k:Key):isK (ks.map λx=>(x.1,f x.2)) k=isK ks k:=by
 unfold isK;rw[VH,aW];cases ks[pz ks k]?<;>rfl
theorem zgA{α β:Type}(f:α->β)(x:α):∀ (l:List α) (i:Nat),(l.insertIdx i x).map f=(l.map f).insertIdx i (f x)
 |_,0=>rfl
 |[],i+1=>rfl
 |a::l,i+1=>by simp only[jc,aZ,zgA f x l i]
theorem zpa{α β:Type}(f:α->β)(ks:List (Key × α))(x:Key × α):pQ (ks.map λx=>(x.1,f x.2)) (x.1,f x.2)=(pQ ks x).map λx=>(x.1,f x.2):=by
 unfold pQ;dsimp only;rw[ZY,VH]
 split
 .rw[fZ]
 .rw[zgA]
def ve(lv:Nat)(cs:List (Key × V3)):Nat:=Co (cs.map λc=>(pK lv c).length)
theorem Mx(l:Nat)(ks:List (Key × Val l)):ve l (toM l ks)=yx l ks:=by
 unfold ve yx;have:=congrArg (List.map List.length) (Uz ks);rw[dE,dE]at this;exact congrArg Co this
def rM(lv:Nat)(cs:List (Key × V3)):List (Key × V3):=if lv=0 then cs else match cs with|[]=>[]|x::r=>([],x.2)::r
theorem Vj:∀ (l:Nat) (ks:List (Key × Val l)),rM l (toM l ks)=toM l (uN l ks)
 |0,_=>rfl
 |_+1,[]=>rfl
 |_+1,_::_=>rfl
def vZ(cs:List (Key × V3)):Key:=(cs.head?.map Prod.fst).getD []
def qG:List MN->Key × V3->List Nat->List MN × Option (Key × V3) × List Nat
 |[],c,gs=>([],some c,gs)
 |x::up,c,gs=>
  if tK x.lv (pQ x.cs c)=true then([⟨x.n,x.lv,pQ x.cs c⟩],none,gs)
  else
   let r:=qG up (vZ ((pQ x.cs c).drop (ve x.lv (pQ x.cs c))),(0,0,gs.headD 0)) gs.tail
   (⟨x.n,x.lv,(pQ x.cs c).take (ve x.lv (pQ x.cs c))⟩::⟨gs.headD 0,x.lv,rM x.lv ((pQ x.cs c).drop (ve x.lv (pQ x.cs c)))⟩::r.1,r.2.1,r.2.2)
theorem zmM:∀ (a b:List MN) (c:Key × V3) (gs:List Nat),qG (a++b) c gs=match qG a c gs with
  |(o,none,e)=>(o,none,e)
  |(o,some f,e)=>(o++(qG b f e).1,(qG b f e).2.1,(qG b f e).2.2)
 |[],b,c,gs=>by rw[aV,qG];rfl
 |x::a,b,c,gs=>by
  rw[bV,qG,qG]
  by_cases g:tK x.lv (pQ x.cs c)=true
  .rw[if_pos g,if_pos g]
  .rw[if_neg g,if_neg g]
   dsimp only;rw[zmM a b];rcases qG a _ gs.tail with⟨o,_|f,e⟩
   .rfl
   .rfl
def tH:(l:Nat)->Tr l->Key->List MN
 |0,t,_=>[nO 0 t]
 |l+1,t,k=>nO (l+1) t::match t.ks[qE t.ks k]? with|some x=>tH l x.2 k|none=>[]
def Fq(l:Nat):Ed l->List Nat
 | .one t=>og l t
 | .two a _ b=>og l a++og l b
def Cx(S:Nat->View)(l:Nat):Ed l->Prop
 | .one t=>uM S l t
 | .two a _ b=>uM S l a/\uM S l b
def wG(S:Nat->View)(o:List MN):Nat->View:=o.foldl (λS x=>qx S x.n (rH x)) S
theorem RF(S:Nat->View)(a b:List MN):wG S (a++b)=wG (wG S a) b:=fK ..
theorem YM{n:Nat}:∀ {o:List MN} {S:Nat->View},(∀ x∈o,x.n≠n)->wG S o n=S n
 |[],_,_=>rfl
 |x::o,S,h=>(YM (o:=o) (S:=qx S x.n (rH x)) λa c=>h a (by simp[c])).trans (sP λe=>h x ig e.symm)
structure MI(l:Nat)(t:Tr l)(gs:List Nat)(o:List MN)(c':Option (Key × V3))(gs':List Nat)(res:Ed l):Prop where
 us:∃ us,gs=us++gs'/\us.length<=l+1/\(Fq l res).Perm (us++og l t)
 out:∀ x∈o,x.n∈Fq l res
 hold:∀ S,uM S l t->Cx (wG S o) l res
 car:match res with| .one t'=>c'=none/\t'.n=t.n| .two a k b=>c'=some (k,(0,0,b.n))/\a.n=t.n
theorem zpb{l:Nat}{n g:Nat}{ks ks':List (Key × Val l)}{c:Key × V3}{gs:List Nat}(hi:pQ (toM l ks) c=toM l ks'):qG [⟨n,l,toM l ks⟩] c (g::gs)=match wz l n ks' (g::gs)with
  |(.one t,r)=>([nO l t],none,r)
  |(.two a k b,r)=>([nO l a,nO l b],some (k,(0,0,b.n)),r):=by
 rw[qG];dsimp only;rw[hi,Us,Mx];unfold wz
 by_cases c:tX l ks'=true
 .rw[if_pos c,if_pos c];rfl
 .rw[if_neg c,if_neg c]
  dsimp only;have e:(toM l ks').take (yx l ks')=toM l (ks'.take (yx l ks')):=by unfold toM;rw[eX]
  have f:(toM l ks').drop (yx l ks')=toM l (ks'.drop (yx l ks')):=by unfold toM;rw[eY]
  have g:vZ (toM l (ks'.drop (yx l ks')))=((ks'.drop (yx l ks')).head?.map Prod.fst).getD []:=by
   unfold vZ toM;rw[List.head?_map];cases(ks'.drop (yx l ks')).head?<;>rfl
  rw[e,f,g,Vj]
  rfl
def pU:(l:Nat)->List (Key × Val l)->List Nat
 |0,_=>[]
 |l+1,ks=>ks.flatMap λx=>og l x.2
def ze(S:Nat->View):(l:Nat)->List (Key × Val l)->Prop
 |0,_=>True
 |l+1,ks=>∀ x∈ks,uM S l x.2
theorem Aj:∀ {l:Nat} {t:Tr l},og l t=t.n::pU l t.ks
 |0,_=>rfl
 |_+1,_=>rfl
theorem BU{S:Nat->View}:∀ {l:Nat} {t:Tr l},uM S l t↔S t.n=xM l t/\ze S l t.ks
 |0,_=>⟨λa=>⟨a,trivial⟩,λa=>a.1⟩
 |_+1,_=>Iff.rfl
theorem Nl:∀ {l:Nat} (a b:List (Key × Val l)),pU l (a++b)=pU l a++pU l b
 |0,_,_=>rfl
 |_+1,_,_=>bO
theorem TE:∀ {l:Nat} (a:List (Key × Val l)),pU l (uN l a)=pU l a
 |0,_=>rfl
 |_+1,[]=>rfl
 |_+1,_::_=>rfl
theorem Gf{S:Nat->View}:∀ {l:Nat} {a b:List (Key × Val l)},ze S l (a++b)↔ze S l a/\ze S l b
 |0,_,_=>⟨λ_=>⟨trivial,trivial⟩,λ_=>trivial⟩
 |_+1,_,_=>⟨λa=>⟨λx c=>a x (aF _ c),λx c=>a x (aB _ c)⟩,λa x c=>(ay.1 c).elim (a.1 x) (a.2 x)⟩
theorem XE{S:Nat->View}:∀ {l:Nat} {a:List (Key × Val l)},ze S l a->ze S l (uN l a)
 |0,_,_=>trivial
 |_+1,[],h=>h
 |l+1,x::r,h=>λc a=>by
  rcases ak.1 a with rfl|a
  .exact h x ig
  .exact h c kr
theorem ze.frame{S S':Nat->View}:∀ {l:Nat} {ks:List (Key × Val l)},ze S l ks->(∀ n∈pU l ks,S' n=S n)->ze S' l ks
 |0,_,_,_=>trivial
 |_+1,_,h,he=>λx a=>(h x a).frame λn c=>he n (bR.2 ⟨x,a,c⟩)
theorem Kg{l n g:Nat}{ks':List (Key × Val l)}{gs:List Nat}:
  ∃ us r,(g::gs)=us++r/\us.length<=1/\(wz l n ks' (g::gs)).2=r/\(Fq l (wz l n ks' (g::gs)).1).Perm (us++n::pU l ks')/\
  match (wz l n ks' (g::gs)).1 with
  | .one t=>t.n=n
  | .two a _ _=>a.n=n:=by
 unfold wz
 by_cases c:tX l ks'=true
 .rw[if_pos c]
  refine⟨[],g::gs,rfl,aC _,rfl,?_,rfl⟩;show(og l ⟨n,ks'⟩).Perm _;rw[Aj];exact gG _
 .rw[if_neg c]
  dsimp only;obtain⟨m,e⟩:=aa (yx l ks');rw[e];have f:pU l ks'=pU l (ks'.take m)++pU l (ks'.drop m):=by rw[<-Nl,bM]
  refine⟨[g],gs,rfl,ax _,rfl,?_,rfl⟩;show(og l ⟨n,ks'.take m⟩++og l ⟨g,uN l (ks'.drop m)⟩).Perm _;rw[Aj,Aj,TE,f];have h:(n::pU l (ks'.take m)++g::pU l (ks'.drop m)).Perm (g::(n::pU l (ks'.take m)++pU l (ks'.drop m))):=fO;exact h
theorem BQ{l n g:Nat}{ks':List (Key × Val l)}{gs:List Nat}{S:Nat->View}(hk:ze S l ks')(hn:n∉pU l ks')(hg:g∉pU l ks')(hng:n≠g):
  ∃ us r,(g::gs)=us++r/\us.length<=1/\(wz l n ks' (g::gs)).2=r/\(Fq l (wz l n ks' (g::gs)).1).Perm (us++n::pU l ks')/\
  match (wz l n ks' (g::gs)).1 with
  | .one t=>Cx (wG S [nO l t]) l (.one t)/\t.n=n
  | .two a k b=>Cx (wG S [nO l a,nO l b]) l (.two a k b)/\a.n=n:=by
 unfold wz
 by_cases j:tX l ks'=true
 .rw[if_pos j]
  refine⟨[],g::gs,rfl,aC _,rfl,?_,?_,rfl⟩
  .show(og l ⟨n,ks'⟩).Perm _
   rw[Aj];exact gG _
  .show uM (qx S n (rH (nO l ⟨n,ks'⟩))) l ⟨n,ks'⟩
   rw[Ct];exact BU.2 ⟨uI ..,hk.frame λm f=>sP λe=>hn (e▸f)⟩
 .rw[if_neg j]
  dsimp only;obtain⟨m,f⟩:=aa (yx l ks');rw[f];have o:pU l ks'=pU l (ks'.take m)++pU l (ks'.drop m):=by rw[<-Nl,bM]
  have h:=hk;rw[<-bM m ks',Gf]at h;rw[o]at hn hg;refine⟨[g],gs,rfl,ax _,rfl,?_,⟨?_,?_⟩,rfl⟩
  .show(og l ⟨n,ks'.take m⟩++og l ⟨g,uN l (ks'.drop m)⟩).Perm _
   rw[Aj,Aj,TE,o];have p:(n::pU l (ks'.take m)++g::pU l (ks'.drop m)).Perm (g::(n::pU l (ks'.take m)++pU l (ks'.drop m))):=fO;exact p
  .show uM (qx (qx S n (rH (nO l ⟨n,ks'.take m⟩))) g (rH (nO l ⟨g,uN l (ks'.drop m)⟩))) l ⟨n,ks'.take m⟩
   rw[Ct];refine BU.2 ⟨(sP hng).trans (uI ..),h.1.frame λi c=>(sP λe=>hg ?_).trans (sP λe=>hn ?_)⟩
   .rw[<-e];exact aF _ c
   .rw[<-e];exact aF _ c
  .show uM (qx (qx S n (rH (nO l ⟨n,ks'.take m⟩))) g (rH (nO l ⟨g,uN l (ks'.drop m)⟩))) l ⟨g,uN l (ks'.drop m)⟩
   rw[Ct l ⟨g,_⟩];refine BU.2 ⟨uI ..,(XE h.2).frame λi c=>?_⟩;rw[TE]at c;refine(sP λe=>hg ?_).trans (sP λe=>hn ?_)
   .rw[<-e];exact aB _ c
   .rw[<-e];exact aB _ c
theorem UC{l:Nat}{t:Tr (l+1)}{lo hi k2:Key}{A B:List (Key × Val (l+1))}{x:Key × Val (l+1)}{a b:Val (l+1)}(h:qA (l+1) t lo hi)(e:t.ks=A++x::B)(hr:Sj l (zD (α:=Val (l+1)) lo A x.1) (Eb (α:=Val (l+1)) B hi) (.two a k2 b)):
  pQ (A++(x.1,a)::B) (k2,b)=A++(x.1,a)::(k2,b)::B:=by
 obtain⟨o,f,p,q,s⟩:=hr;refine zsg (x:=(x.1,a)) (λk c=>?_) ?_ λk c=>?_
 .have g:A≠[]:=λh=>by rw[h]at c;cases c
  rw[xL g]at f;exact(QE h.AB e k c).trans f
 .by_cases g:A=[]
  .obtain⟨i,r,m,j⟩:=h.1
   rw[e,g]at m;cases m;show pR x.1 k2;rw[j];exact Na o.1
  .rw[xL g]at f;exact f
 .cases B with
  |nil=>cases c
  |cons i B=>
   have j:pR k2 i.1:=by
    rcases p with l|l
    .exact absurd l (h.2.2.1 (A++[x]) i B kg ig).1.1
    .exact l
   rcases ak.1 c with rfl|c
   .exact j
   .exact j.trans<|zO h.AB (show t.ks=(A++[x])++i::B by rw[e];simp) k c
theorem UR{l:Nat}{t:Tr (l+1)}{lo hi k:Key}(h:qA (l+1) t lo hi)(hk:qD k)(hlo:qa lo k)(hhi:rO k hi):∃ A x B,t.ks=A++x::B/\qE t.ks k=A.length/\t.ks[qE t.ks k]?=some x/\qa (zD (α:=Val (l+1)) lo A x.1) k/\rO k (Eb (α:=Val (l+1)) B hi)/\
  (∀ m:Val (l+1),t.ks.set (qE t.ks k) (x.1,m)=A++(x.1,m)::B):=by
 obtain⟨A,x,B,e,a,f,g⟩:=TM h.AB h.1 hk;refine⟨A,x,B,e,a,?_,?_,?_,λm=>?_⟩
 .rw[a,e,bC (ax _),bL];rfl
 .by_cases c:A=[]
  .rw[c];exact hlo
  .rw[xL c];exact f
 .cases B with
  |nil=>exact hhi
  |cons y B=>exact .inr (g y ig)
 .rw[a];conv=>lhs;rw[e]
  rw[dJ _ _ (ax _),bL];rfl
theorem Jn:∀ {l:Nat} {t:Tr l} {k lo hi:Key} {v:Nat × Nat} {gs:List Nat},qA l t lo hi->qD k->qa lo k->rO k hi->v.1<2147483648->v.2<65536->(og l t).Nodup->gs.Nodup->(∀ g∈gs,g∉og l t)->l+1<=gs.length->
  MI l t gs (qG (tH l t k).reverse (k,(v.1,v.2,0)) gs).1 (qG (tH l t k).reverse (k,(v.1,v.2,0)) gs).2.1 (qG (tH l t k).reverse (k,(v.1,v.2,0)) gs).2.2 (zq l t k v gs).1/\(zq l t k v gs).2=(qG (tH l t k).reverse (k,(v.1,v.2,0)) gs).2.2
 |0,t,k,lo,hi,v,g::gs,E,hk,hlo,hhi,hv1,hv2,hnd,hgn,hgf,hgl=>by
  have hi:=zpa (v3 0) t.ks (k,(v:Val 0));have V:=zpb (n:=t.n) (g:=g) (gs:=gs) (ks:=t.ks) (ks':=pQ t.ks (k,(v:Val 0))) (c:=(k,(v.1,v.2,0))) hi;have d6:t.n≠g:=λe=>hgf g ig (by rw[<-e];exact vN)
  have q:=λS=>BQ (S:=S) (l:=0) (n:=t.n) (g:=g) (gs:=gs) (ks':=pQ t.ks (k,(v:Val 0))) trivial (λE=>by cases E) (λE=>by cases E) d6
  show MI 0 t (g::gs) (qG [⟨t.n,0,toM 0 t.ks⟩] _ _).1 (qG [⟨t.n,0,toM 0 t.ks⟩] _ _).2.1 (qG [⟨t.n,0,toM 0 t.ks⟩] _ _).2.2 (wz 0 t.n (pQ t.ks (k,(v:Val 0))) (g::gs)).1/\(wz 0 t.n (pQ t.ks (k,(v:Val 0))) (g::gs)).2=(qG [⟨t.n,0,toM 0 t.ks⟩] _ _).2.2;rw[V];clear V hi;rcases hres:wz 0 t.n (pQ t.ks (k,(v:Val 0))) (g::gs)with⟨G,r⟩;rw[hres]at q;dsimp only at q;cases G with
  |one t'=>
   obtain⟨p,d7,H,I,N,O,_,J⟩:=q (λ_=>rW 0);refine⟨⟨⟨p,by rw[H,N],eu,O⟩,λx K=>?_,λS w=>?_,rfl,J⟩,rfl⟩
   .rw[aM.1 K];exact vN (t:=t')
   .obtain⟨_,_,_,_,_,_,L,_⟩:=q S
    exact L
  |two a k2 b=>
   obtain⟨p,d7,H,I,N,O,_,J⟩:=q (λ_=>rW 0);refine⟨⟨⟨p,by rw[H,N],eu,O⟩,λx K=>?_,λS w=>?_,rfl,J⟩,rfl⟩
   .show _∈og 0 a++og 0 b
    simp only[ak,bu,or_false]at K;rcases K with rfl|rfl
    .exact aF _<|vN (t:=a)
    .exact aB _<|vN (t:=b)
   .obtain⟨_,_,_,_,_,_,L,_⟩:=q S
    exact L
 |l+1,t,k,lo,hi,v,gs,E,hk,hlo,hhi,hv1,hv2,hnd,hgn,hgf,hgl=>by
  obtain⟨A,x,B,e,q,K,b5,b6,b7⟩:=UR E hk hlo hhi;have b8:=E.2.2.2.2 A x B e;have d8:pU (l+1) t.ks=pU (l+1) A++(og l x.2++pU (l+1) B):=by
   rw[e];show(A++x::B).flatMap _=_;rw[bO,bN];rfl
  have C:og (l+1) t=t.n::(pU (l+1) A++(og l x.2++pU (l+1) B)):=by rw[Aj,d8]
  rw[C]at hnd;have a1:=df.1 hnd;have c4:=bS.1 a1.2;have c5:=bS.1 c4.2.1;have d9:∀ g∈gs,g∉og l x.2:=λg a2 i=>hgf g a2 (by rw[C];simp[i])
  obtain⟨F,a3⟩:=Jn (gs:=gs) b8 hk b5 b6 hv1 hv2 c5.1 hgn d9 eu;have a4:=(Qz (gs:=gs) b8 hk b5 b6 hv1 hv2).1;have e0:tH (l+1) t k=nO (l+1) t::tH l x.2 k:=by rw[tH,K]
  rw[e0,iO,zmM];rw[zq,K];dsimp only;rcases hpu:qG (tH l x.2 k).reverse (k,v.1,v.2,0) gs with⟨o,f2,f3⟩;rcases hin:zq l x.2 k v gs with⟨G,c6⟩;rw[hpu,hin]at F a3;rw[hin]at a4;dsimp only at F a3 a4;subst a3;obtain⟨p,P,f4,a5⟩:=F.us;have c7:∀ g∈p,g∈gs:=λg a2=>by rw[P];exact aF _ a2
  have a6:∀ h∈o,h.n∈p\/h.n∈og l x.2:=λh f=>ay.1 (a5.mem_iff.1 (F.out h f))
  have R:∀ S (m:Nat),m∈og (l+1) t->m∉og l x.2->wG S o m=S m:=λS m i e1=>YM λh f I=>by
   rcases a6 h f with j|j
   .exact hgf h.n (c7 _ j)<|I▸i
   .exact e1<|I▸j
  have X:∀ m∈pU (l+1) A,m∈og (l+1) t/\m∉og l x.2:=λm i=>⟨by rw[C];simp[i],λs=>c4.2.2 m i m (by simp[s]) rfl⟩
  have Y:∀ m∈pU (l+1) B,m∈og (l+1) t/\m∉og l x.2:=λm i=>⟨by rw[C];simp[i],λs=>c5.2.2 m s m i rfl⟩
  have c8:t.n∈og (l+1) t/\t.n∉og l x.2:=⟨vN,λs=>a1.1 (by simp[s])⟩;cases G with
  |one t'=>
   obtain⟨rfl,a7⟩:=F.car;dsimp only;have a8:=b7 t';obtain⟨y,Z⟩:∃ y:Key × Val (l+1),y=@Prod.mk Key (Val (l+1)) x.1 t':=⟨_,rfl⟩;rw[a8,<-Z];have c9:(Fq (l+1) (.one ⟨t.n,A++y::B⟩)).Perm (p++og (l+1) t):=by
    show(og (l+1) ⟨t.n,A++y::B⟩).Perm _;have H:og (l+1) ⟨t.n,A++y::B⟩=t.n::(pU (l+1) A++(og l t'++pU (l+1) B)):=by
     rw[Aj,Nl,Z];rfl
    have e2:(og l t').Perm (p++og l x.2):=a5;rw[H,C];have j:(pU (l+1) A++(og l t'++pU (l+1) B)).Perm (pU (l+1) A++((p++og l x.2)++pU (l+1) B)):=(e2.append_right _).append_left _;have s:(pU (l+1) A++((p++og l x.2)++pU (l+1) B)).Perm (p++(pU (l+1) A++(og l x.2++pU (l+1) B))):=by
     rw[aG];exact ib ..
    exact((j.trans s).cons _).trans fO.symm
   refine⟨⟨⟨p,P,eu,c9⟩,λh f=>?_,λS w=>?_,rfl,rfl⟩,rfl⟩
   .rw[c9.mem_iff,C]
    rcases a6 h f with j|j
    .simp[j]
    .simp[j]
   .obtain⟨d0,D⟩:=BU.1 w
    rw[e,Gf]at D;have b0:uM S l x.2:=D.2 x ig;have b1:ze S (l+1) B:=λh f=>D.2 h kW
    have a0:=F.hold S b0;show uM (wG S o) (l+1) ⟨t.n,A++y::B⟩;refine BU.2 ⟨?_,Gf.2 ⟨D.1.frame λm i=>R S m (X m i).1 (X m i).2,λh f=>?_⟩⟩
    .rw[R S t.n c8.1 c8.2,d0]
     unfold xM;dsimp only;rw[e,bK,bK,aZ,aZ];have:uy (l+1) y=uy (l+1) x:=by
      unfold uy;rw[Z];show u8 x.1.length::(x.1++nZ 4 t'.n)=u8 x.1.length::(x.1++nZ 4 (show Tr l from x.2).n);rw[a7]
     rw[this]
    .rcases ak.1 f with rfl|f
     .rw[Z];exact a0
     .exact(b1 h f).frame λm i=>R S m (Y m (bR.2 ⟨h,f,i⟩)).1 (Y m (bR.2 ⟨h,f,i⟩)).2
  |two a k2 b=>
   obtain⟨rfl,a7⟩:=F.car;dsimp only;have a8:=b7 a;obtain⟨u,T⟩:∃ y:Key × Val (l+1),y=@Prod.mk Key (Val (l+1)) x.1 a:=⟨_,rfl⟩;obtain⟨z,U⟩:∃ y:Key × Val (l+1),y=@Prod.mk Key (Val (l+1)) k2 b:=⟨_,rfl⟩;have b2:=UC (a:=a) (b:=b) E e a4;rw[a8,<-T,<-U];rw[<-T,<-U]at b2;rw[b2];have e3:(og l a++og l b).Perm (p++og l x.2):=a5;have e4:pU (l+1) (A++u::z::B)=pU (l+1) A++((og l a++og l b)++pU (l+1) B):=by
    rw[Nl,T,U,aG];rfl
   have b3:(pU (l+1) (A++u::z::B)).Perm (p++(pU (l+1) A++(og l x.2++pU (l+1) B))):=by
    rw[e4];refine((e3.append_right _).append_left _).trans ?_;rw[aG];exact ib ..
   obtain⟨g,Q,e5⟩:∃ g Q,c6=g::Q:=by
    cases c6 with
    |nil=>rw[P,aA,aX]at hgl;omega
    |cons g r=>exact⟨g,r,rfl⟩
   subst e5;have d1:g∈gs:=by rw[P];simp
   have e6:g∉p:=λi=>by
    rw[P]at hgn;exact(bS.1 hgn).2.2 g i g ig rfl
   have e7:t.n∉pU (l+1) (A++u::z::B):=λi=>by
    rcases ay.1 (b3.mem_iff.1 i)with j|j
    .exact hgf t.n (c7 _ j) vN
    .exact a1.1 j
   have e8:g∉pU (l+1) (A++u::z::B):=λi=>by
    rcases ay.1 (b3.mem_iff.1 i)with j|j
    .exact e6 j
    .exact hgf g d1 (by rw[C];exact aj _ j)
   have e9:t.n≠g:=λI=>hgf g d1 (by rw[<-I];exact vN)
   have f0:pQ (toM (l+1) t.ks) (k2,(0,0,b.n))=toM (l+1) (A++u::z::B):=by
    have j:toM (l+1) t.ks=toM (l+1) (A++u::B):=by
     unfold toM;rw[e,bK,bK,aZ,aZ,T];show _=List.map _ A++(x.1,(0,0,a.n))::List.map _ B;rw[a7];rfl
    have s:=zpa (v3 (l+1)) (A++u::B) z;rw[b2]at s;rw[j];rw[U]at s |-;exact s
   have V:=zpb (l:=l+1) (n:=t.n) (g:=g) (gs:=Q) (ks:=t.ks) f0;show MI (l+1) t gs (o++(qG [⟨t.n,l+1,toM (l+1) t.ks⟩] _ _).1) (qG [⟨t.n,l+1,toM (l+1) t.ks⟩] _ _).2.1 (qG [⟨t.n,l+1,toM (l+1) t.ks⟩] _ _).2.2 _/\_=(qG [⟨t.n,l+1,toM (l+1) t.ks⟩] _ _).2.2;rw[V];have f1:∀ S,uM S (l+1) t->ze (wG S o) (l+1) (A++u::z::B):=λS w=>by
    obtain⟨d0,D⟩:=BU.1 w;rw[e,Gf]at D;have b0:uM S l x.2:=D.2 x ig;have b1:ze S (l+1) B:=λh f=>D.2 h kW
    have a0:=F.hold S b0;refine Gf.2 ⟨D.1.frame λm i=>R S m (X m i).1 (X m i).2,λh f=>?_⟩;rcases ak.1 f with rfl|f
    .rw[T];exact a0.1
    .rcases ak.1 f with rfl|f
     .rw[U];exact a0.2
     .exact(b1 h f).frame λm i=>R S m (Y m (bR.2 ⟨h,f,i⟩)).1 (Y m (bR.2 ⟨h,f,i⟩)).2
   have q:=λS w=>BQ (S:=wG S o) (l:=l+1) (n:=t.n) (g:=g) (gs:=Q) (ks':=A++u::z::B) (f1 S w) e7 e8 e9
   have f5:=q;rcases hres:wz (l+1) t.n (A++u::z::B) (g::Q)with⟨G,r⟩;rw[hres]at q;dsimp only at q;have d2:=Kg (l:=l+1) (n:=t.n) (g:=g) (gs:=Q) (ks':=A++u::z::B);rw[hres]at d2;obtain⟨M,f6,H,I,N,O,J⟩:=d2;dsimp only at N O J;subst N;have d3:gs=(p++M)++r:=by rw[P,H,aG]
   have b4:(Fq (l+1) G).Perm ((p++M)++og (l+1) t):=by
    refine O.trans ?_;rw[C];have j:(M++t.n::pU (l+1) (A++u::z::B)).Perm (M++t.n::(p++(pU (l+1) A++(og l x.2++pU (l+1) B)))):=(b3.cons _).append_left _;have s:(M++t.n::(p++(pU (l+1) A++(og l x.2++pU (l+1) B)))).Perm (M++(p++t.n::(pU (l+1) A++(og l x.2++pU (l+1) B)))):=fO.symm.append_left _;refine(j.trans s).trans ?_;rw[aG];exact ib ..
   have d4:(p++M).length<=l+1+1:=by rw[aA];omega
   have d5:∀ h∈o,h.n∈Fq (l+1) G:=λh f=>by
    rw[b4.mem_iff,C];rcases a6 h f with j|j
    .simp[j]
    .simp[j]
   cases G with
   |one t9=>
    refine⟨⟨⟨_,d3,d4,b4⟩,λh f=>?_,λS w=>?_,rfl,J⟩,rfl⟩
    .rcases ay.1 f with f|f
     .exact d5 h f
     .rw[aM.1 f];exact vN (t:=t9)
    .obtain⟨_,_,_,_,_,_,L,_⟩:=q S w
     dsimp only;rw[RF];exact L
   |two a9 k9 b9=>
    refine⟨⟨⟨_,d3,d4,b4⟩,λh f=>?_,λS w=>?_,rfl,J⟩,rfl⟩
    .rcases ay.1 f with f|f
     .exact d5 h f
     .show _∈og (l+1) a9++og (l+1) b9
      simp only[ak,bu,or_false]at f;rcases f with rfl|rfl
      .exact aF _<|vN (t:=a9)
      .exact aB _<|vN (t:=b9)
    .obtain⟨_,_,_,_,_,_,L,_⟩:=q S w
     dsimp only;rw[RF];exact L
def wS:(l:Nat)->Tr l->Prop
 |0,t=>t.ks≠[]
 |l+1,t=>∀ x∈t.ks,wS l x.2
def IB(l:Nat):Ed l->Prop
 | .one t=>wS l t
 | .two a _ b=>wS l a/\wS l b
theorem ZJ:∀ {l n:Nat} {ks:List (Key × Val l)},wS l ⟨n,ks⟩->wS l ⟨n,uN l ks⟩
 |0,_,_,h=>h
 |_+1,_,[],h=>h
 |l+1,_,x::r,h=>λc a=>by
  rcases ak.1 a with rfl|a
  .exact h x ig
  .exact h c kr
theorem u_:∀ {l a b:Nat} {L ks:List (Key × Val l)},wS l ⟨a,ks⟩->(∀ x∈L,x∈ks)->L≠[]->wS l ⟨b,L⟩
 |0,_,_,_,_,_,_,h=>h
 |_+1,_,_,_,_,h,hs,_=>λx a=>h x (hs x a)
theorem XO{l n:Nat}{ks:List (Key × Val l)}{gs:List Nat}{lo hi:Key}(h:vS l ks lo hi)(h1:17+4*ks.length+rV l ks<=623)(hf:wS l ⟨n,ks⟩):IB l (wz l n ks gs).1:=by
 unfold wz
 by_cases a:tX l ks=true
 .rw[if_pos a];exact hf
 .rw[if_neg a]
  obtain⟨L,f,R,e,g,i,_,_⟩:=Vi h.len h1 a;dsimp only;have j:ks.take L.length=L:=by rw[e];exact dR
  have k:ks.drop L.length=f::R:=by rw[e];exact dF
  rw[i,j,k];exact⟨u_ hf (λx c=>by rw[e];exact aF _ c) g,ZJ (u_ hf (λx c=>by rw[e];exact aB _ c) ig)⟩
theorem zt7{t:Tr 0}{k lo hi:Key}{v:Nat × Nat}(h:qA 0 t lo hi)(hk:qD k)(hlo:qa lo k)(hhi:rO k hi)(hv1:v.1<2147483648)(hv2:v.2<65536):
  vS 0 (pQ t.ks (k,(v:Val 0))) lo hi/\17+4*(pQ t.ks (k,(v:Val 0))).length+rV 0 (pQ t.ks (k,(v:Val 0)))<=623:=by
 have hp:=(AY.1 h);obtain⟨A,B,j,l,e,_,m⟩:=JB hp.1.1 (k,(v:Val 0));have o:(∀ a∈A,a∈t.ks)/\(∀ a∈B,a∈t.ks)/\uH A/\uH B/\17+4*(A.length+B.length)+(rV 0 A+rV 0 B)<=512:=by
  have c:=hp.2;unfold tX at c;rw[decide_eq_true_eq]at c;have hr:=hp.1.1;rcases m with⟨_,i⟩|⟨_,a,_,i⟩
  .rw[i]at c hr |-
   rw[aA,xn]at c;have:=dI.1 hr;exact⟨λa f=>aF _ f,λa f=>aB _ f,this.1,this.2.1,c⟩
  .rw[i]at c hr |-
   rw[aA,xn,aD,uW]at c;have:=dI.1 hr;exact⟨λa f=>aF _ f,λa f=>aB _ (aj _ f),this.1,(eB.1 this.2.1).2,eu⟩
 obtain⟨p,q,r,s,u⟩:=o;have w:(uy 0 (k,(v:Val 0))).length<=107:=Ez hk.2;rw[e];refine⟨⟨Wt r s j l,λx g=>?_⟩,by rw[aA,xn,aD,uW];omega⟩;rcases ay.1 g with g|g
 .exact hp.1.2 x<|p x g
 .rcases ak.1 g with rfl|g
  .exact⟨hk,hlo,hhi,hv1,hv2⟩
  .exact hp.1.2 x<|q x g
theorem Ga{l:Nat}{t:Tr (l+1)}{lo hi k2:Key}{A B:List (Key × Val (l+1))}{x:Key × Val (l+1)}{a b:Val (l+1)}(h:qA (l+1) t lo hi)(e:t.ks=A++x::B)(hr:Sj l (zD (α:=Val (l+1)) lo A x.1) (Eb (α:=Val (l+1)) B hi) (.two a k2 b)):
  vS (l+1) (A++(x.1,a)::(k2,b)::B) lo hi/\17+4*(A++(x.1,a)::(k2,b)::B).length+rV (l+1) (A++(x.1,a)::(k2,b)::B)<=623:=by
 obtain⟨c,g,i,j,k⟩:=hr;have hp:=(AY.1 h);have m:=NG (L:=[([],a)]) (R:=[]) (y:=(k2,b)) (Je j) (Je k) c g i;have o:=RD (x:=x) (m0:=a) (Mr:=[(k2,b)]) (e▸hp.1) m;have f:=hp.2;unfold tX at f;rw[decide_eq_true_eq,e,aA,xn,aD,uW,DV]at f;have p:(uy (l+1) (k2,b)).length<=107:=Ez c.2;refine⟨o,?_⟩;rw[aA,xn,aD,uW,DV,aD,uW];dsimp only;omega
def Ia:(l:Nat)->Tr l->Prop
 |0,_=>True
 |l+1,t=>wS (l+1) t
theorem YP:∀ {l:Nat} {t:Tr l} {k lo hi:Key} {v:Nat × Nat} {gs:List Nat},qA l t lo hi->qD k->qa lo k->rO k hi->v.1<2147483648->v.2<65536->Ia l t->IB l (zq l t k v gs).1
 |0,t,k,lo,hi,v,gs,h,hk,hlo,hhi,hv1,hv2,_=>by
  obtain⟨w,y⟩:=zt7 h hk hlo hhi hv1 hv2;refine XO w y ?_;obtain⟨A,B,_,_,e,_,_⟩:=JB h.1 (k,(v:Val 0));show pQ t.ks (k,(v:Val 0))≠[];rw[e];simp
 |l+1,t,k,lo,hi,v,gs,h,hk,hlo,hhi,hv1,hv2,hf=>by
  obtain⟨A,x,B,e,F,z,m,o,p⟩:=UR h hk hlo hhi;have q:=h.2.2.2.2 A x B e;have C:wS l x.2:=hf x kg;have r:∀ f∈A,wS l f.2:=λf c=>hf f (by rw[e];simp[c])
  have s:∀ f∈B,wS l f.2:=λf c=>hf f (by rw[e];simp[c])
  have g:=YP (gs:=gs) q hk m o hv1 hv2 (by cases l with|zero=>trivial|succ l=>exact C);have i:=(Qz (gs:=gs) q hk m o hv1 hv2).1;rw[zq,z];dsimp only;rcases hin:zq l x.2 k v gs with⟨D,G⟩;rw[hin]at g i;cases D with
  |one t'=>
   dsimp only;have j:=p t';rw[j];intro f c;rcases ay.1 c with c|c
   .exact r f c
   .rcases ak.1 c with rfl|c
    .exact g
    .exact s f c
  |two a k2 b=>
   dsimp only;have j:=p a;have E:=UC (a:=a) (b:=b) h e i;have u:=Ga (a:=a) (b:=b) h e i;rw[j,E];refine XO u.1 u.2 λf c=>?_
   rcases ay.1 c with c|c
   .exact r f c
   .rcases ak.1 c with rfl|c
    .exact g.1
    .rcases ak.1 c with rfl|c
     .exact g.2
     .exact s f c
def PQ:(l:Nat)->Tr l->Prop
 |0,_=>True
 |l+1,t=>2<=t.ks.length/\wS (l+1) t
structure Cz(S:Nat->View)(l:Nat)(t:Tr l):Prop where
 snd_:qA l t [] []
 rt:PQ l t
 nd:(og l t).Nodup
 hold:uM S l t
def uQ(path:List MN)(c:Key × V3)(gs:List Nat):List MN × Option Nat × List Nat:=
 match qG path.reverse c gs with
 |(o,none,gs')=>(o,none,gs')
 |(o,some c',gs')=>match path with
  |[]=>(o,none,gs')
  |x::_=>(o++[⟨gs'.headD 0,x.lv+1,[([],(0,0,x.n)),c']⟩],some (gs'.headD 0),gs'.tail)
theorem TN:∀ {l:Nat} {t:Tr l} {k:Key},∃ r,tH l t k=nO l t::r
 |0,_,_=>⟨_,rfl⟩
 |_+1,_,_=>⟨_,rfl⟩
theorem zsl{l:Nat}{t:Tr l}{k:Key}{v:Nat × Nat}{gs:List Nat}{S:Nat->View}(h:Cz S l t)(hk:qD k)(hv1:v.1<2147483648)(hv2:v.2<65536)(hgn:gs.Nodup)(hgf:∀ g∈gs,g∉og l t)(hgl:l+2<=gs.length):
  ∃ l' t' us,gs=us++(uQ (tH l t k) (k,(v.1,v.2,0)) gs).2.2/\us.length<=l+2/\Cz (wG S (uQ (tH l t k) (k,(v.1,v.2,0)) gs).1) l' t'/\oC l' t'=Bb (oC l t) (k,v)/\(og l' t').Perm (us++og l t)/\
   (∀ x∈(uQ (tH l t k) (k,(v.1,v.2,0)) gs).1,x.n∈og l' t')/\
   ((uQ (tH l t k) (k,(v.1,v.2,0)) gs).2.1=none/\t'.n=t.n\/(uQ (tH l t k) (k,(v.1,v.2,0)) gs).2.1=some t'.n/\t'.n≠t.n):=by
 have V:Ia l t:=by
  cases l with
  |zero=>trivial
  |succ l=>exact h.rt.2
 have q:=Qz (gs:=gs) h.snd_ hk (uT k) (.inl rfl) hv1 hv2;have w:=YP (gs:=gs) h.snd_ hk (uT k) (.inl rfl) hv1 hv2 V;obtain⟨f,D⟩:=Jn (gs:=gs) h.snd_ hk (uT k) (.inl rfl) hv1 hv2 h.nd hgn hgf eu;obtain⟨b4,X⟩:=TN (l:=l) (t:=t) (k:=k);unfold uQ;rcases hpu:qG (tH l t k).reverse (k,v.1,v.2,0) gs with⟨o,b5,b6⟩;rcases hin:zq l t k v gs with⟨M,N⟩;rw[hpu,hin]at f D;rw[hin]at q w;dsimp only at f D q w;subst D;obtain⟨us,i,b7,C⟩:=f.us;have O:(Fq l M).Nodup:=by
  refine C.symm.nodup<|bS.2 ⟨?_,h.nd,λa Y b hb e=>?_⟩
  .rw[i]at hgn;exact(bS.1 hgn).1
  .exact hgf a (by rw[i];exact aF _ Y)<|e▸hb
 cases M with
 |one t'=>
  obtain⟨rfl,E⟩:=f.car;dsimp only;refine⟨l,t',us,i,eu,⟨q.1,?_,O,f.hold S h.hold⟩,q.2,C,f.out, .inl ⟨rfl,E⟩⟩;cases l with
  |zero=>trivial
  |succ l=>
   refine⟨?_,w⟩;have F:=h.rt.1;obtain⟨A,x,B,e,b8,c,Z,a0,a1⟩:=UR h.snd_ hk (uT k) (.inl rfl);rw[zq,c]at hin;dsimp only at hin;have a2:=h.snd_.2.2.2.2 A x B e;have P:=(Qz (gs:=gs) a2 hk Z a0 hv1 hv2).1;rcases hin2:zq l x.2 k v gs with⟨a3,b9⟩;rw[hin2]at hin P;cases a3 with
   |one t2=>
    dsimp only at hin;have G:=(Ed.one.inj (ic hin).1);rw[<-G,bq];exact F
   |two a k2 b=>
    dsimp only at hin;have a4:=a1 a;have a5:=UC (a:=a) (b:=b) h.snd_ e P;rw[a4,a5]at hin;unfold wz at hin
    split at hin
    .have G:=(Ed.one.inj (ic hin).1)
     rw[<-G];rw[e]at F;simp only[aA,aD]at F |-;omega
    .cases(ic hin).1
 |two a k2 b=>
  obtain⟨rfl,E⟩:=f.car;rw[X];dsimp only;obtain⟨g,Q,a6⟩:∃ g Q,N=g::Q:=by
   cases N with
   |nil=>rw[i,aA,aX]at hgl;omega
   |cons g r=>exact⟨g,r,rfl⟩
  subst a6;obtain⟨T,a7,a8,a9,b0⟩:=q.1;have H:g∉og l a++og l b:=λz=>by
   rcases ay.1 (C.mem_iff.1 (show g∈Fq l (.two a k2 b)from z))with I|I
   .rw[i]at hgn
    exact(bS.1 hgn).2.2 g I g ig rfl
   .exact hgf g (by rw[i];simp) I
  obtain⟨s,j⟩:∃ J:Key × Val (l+1),J=Prod.mk (α:=Key) (β:=Val (l+1)) [] a:=⟨_,rfl⟩;obtain⟨u,p⟩:∃ J:Key × Val (l+1),J=Prod.mk (α:=Key) (β:=Val (l+1)) k2 b:=⟨_,rfl⟩;have b1:vS (l+1) [s,u] [] []:=by
   rw[j,p];exact NG (L:=[Prod.mk (α:=Key) (β:=Val (l+1)) [] a]) (R:=[]) (y:=Prod.mk (α:=Key) (β:=Val (l+1)) k2 b) (Je a9) (Je b0) T a7 a8
  have K:og (l+1) ⟨g,[s,u]⟩=g::(og l a++og l b):=by
   rw[Aj,j,p];show g::(og l a++(og l b++[]))=_;rw[aU]
  have b2:rH ⟨g,(nO l t).lv+1,[([],(0,0,(nO l t).n)),(k2,(0,0,b.n))]⟩=xM (l+1) ⟨g,[s,u]⟩:=by
   rw[<-Ct];unfold nO toM;rw[j,p];show rH ⟨g,l+1,[([],(0,0,t.n)),(k2,(0,0,b.n))]⟩=rH ⟨g,l+1,[([],(0,0,a.n)),(k2,(0,0,b.n))]⟩;rw[E]
  refine⟨l+1,⟨g,[s,u]⟩,us++[g],by rw[aG];exact i,by rw[aA];show us.length+1<=_;omega,⟨AY.2 ⟨b1,?_⟩,⟨ax 2,λx c=>?_⟩,?_,?_⟩,?_,?_,λx c=>?_, .inr ⟨rfl,?_⟩⟩
  .have c1:(uy (l+1) s).length<=107:=Ez (by rw[j];exact aC _)
   have c2:(uy (l+1) u).length<=107:=Ez (by rw[p];exact T.2);unfold tX;rw[decide_eq_true_eq,uW,uW];show 17+4*2+(_+(_+0))<=512;omega
  .simp only[ak,bu,or_false]at c
   rcases c with rfl|rfl
   .rw[j];exact w.1
   .rw[p];exact w.2
  .rw[K];exact df.2 ⟨H,O⟩
  .rw[RF]
   have U:=f.hold S h.hold;refine BU.2 ⟨?_,λx c=>?_⟩
   .show qx (wG S o) g (rH ⟨g,(nO l t).lv+1,[([],(0,0,(nO l t).n)),(k2,(0,0,b.n))]⟩) g=_
    rw[uI,b2]
   .simp only[ak,bu,or_false]at c
    rcases c with rfl|rfl
    .rw[j]
     exact U.1.frame λm z=>sP λe=>H (by rw[<-show m=g from e];exact aF _ z)
    .rw[p]
     exact U.2.frame λm z=>sP λe=>H (by rw[<-show m=g from e];exact aB _ z)
  .rw[<-q.2]
   show[s,u].flatMap (λx=>oC l x.2)=oC l a++oC l b;rw[j,p];show oC l a++(oC l b++[])=_;rw[aU]
  .rw[K,aG]
   have b3:(og l a++og l b).Perm (us++og l t):=C;exact(b3.cons g).trans fO.symm
  .rw[K]
   rcases ay.1 c with c|c
   .exact aj _<|f.out x c
   .rw[aM.1 c];exact aK ..
  .intro e
   exact hgf g (by rw[i];simp) (by show g∈_;rw[show g=t.n from e];exact vN)
def DU(hi hi':Key):Prop:=hi'=[]\/(hi≠[]/\qa hi hi')
theorem rO.weak{k hi hi':Key}(h:rO k hi)(hh:DU hi hi'):rO k hi':=by
 rcases hh with a|⟨a,c⟩
 .exact .inl a
 .rcases h with h|h
  .exact absurd h a
  .exact .inr<|h.le c
theorem DU.refl(h:Key):DU h h:=by
 by_cases e:h=[]
 .exact .inl e
 .exact .inr ⟨e,qa.refl _⟩
theorem qA.weak:∀ {l:Nat} {t:Tr l} {lo hi lo' hi':Key},qA l t lo hi->qa lo' lo->DU hi hi'->qA l t lo' hi'
 |0,_,_,_,_,_,h,h1,h2=>⟨h.1,λx c=>have a:=h.2.1 x c;⟨a.1,h1.trans a.2.1,a.2.2.1.weak h2,a.2.2.2⟩,h.2.2⟩
 |l+1,_,_,_,_,_,h,h1,h2=>⟨h.1,h.2.1,λA x B e f=>have a:=h.2.2.1 A x B e f;⟨a.1,h1.lt a.2.1,a.2.2.weak h2⟩,h.2.2.2.1,λA x B e=>by
  refine(h.2.2.2.2 A x B e).weak ?_ ?_
  .unfold zD
   split
   .exact h1
   .exact qa.refl _
  .cases B with
   |nil=>exact h2
   |cons y B=>exact DU.refl _⟩
theorem zt8{l:Nat}{A B:List (Key × Val (l+1))}{x:Key × Val (l+1)}{lo hi:Key}(h:vS (l+1) (A++x::B) lo hi)(hne:A++B≠[]):vS (l+1) (if A=[]then uN (l+1) B else A++B) lo hi:=by
 cases B with
 |nil=>
  rw[aU]at hne |-;rw[if_neg hne];obtain⟨k1,k2,k3,k4,_⟩:=MX h hne;obtain⟨g,i,j,k⟩:=k4;have m:DU x.1 hi:=by
   rcases k3 with a|a
   .exact .inl a
   .exact .inr ⟨k1.1,a.qa⟩
  refine⟨g,i,λA1 c B1 e o=>have a:=j A1 c B1 e o;⟨a.1,a.2.1,a.2.2.weak m⟩,λA1 c B1 e=>(k A1 c B1 e).weak (qa.refl _) ?_⟩;cases B1 with
  |nil=>exact m
  |cons f B1=>exact DU.refl _
 |cons c B=>
  have r:=MX (L:=A++[x]) (R:=B) (y:=c) (by rw[aG];exact h) ig;obtain⟨k1,k2,k3,k4,k5⟩:=r;have q:vS (l+1) (([],c.2)::B) c.1 hi:=k5
  by_cases o:A=[]
  .rw[if_pos o]
   obtain⟨g,i,j,k⟩:=q;refine⟨g,i,λA1 f B1 e p=>have a:=j A1 f B1 e p;⟨a.1,k2.trans a.2.1,a.2.2⟩,λA1 f B1 e=>(k A1 f B1 e).weak ?_ (DU.refl _)⟩;unfold zD
   split
   .exact k2.qa
   .exact qa.refl _
  .rw[if_neg o]
   obtain⟨s,v,w,t,_⟩:=MX h o;have u:pR x.1 c.1:=zO h.2.1 rfl c ig;obtain⟨g,i,j,k⟩:=t;have m:DU x.1 c.1:=.inr ⟨s.1,u.qa⟩;refine NG ⟨g,i,λA1 f B1 e p=>have a:=j A1 f B1 e p;⟨a.1,a.2.1,a.2.2.weak m⟩,λA1 f B1 e=>(k A1 f B1 e).weak (qa.refl _) ?_⟩ q k1 k2 k3;cases B1 with
   |nil=>exact m
   |cons f B1=>exact DU.refl _
def xh{α:Type}(ks:List (Key × α))(k:Key):List (Key × α):=ks.filter λa=>decide (a.1≠k)
theorem ML{α:Type}(A B:List (Key × α))(k:Key):xh (A++B) k=xh A k++xh B k:=fD ..
theorem Nj{α:Type}{A:List (Key × α)}{k:Key}(h:∀ y∈A,y.1≠k):xh A k=A:=filter_all λy a=>decide_eq_true (h y a)
def xY:(l:Nat)->Tr l->Key->Option (Tr l)
 |0,t,k=>if t.ks.eraseIdx (pz t.ks k)=[]then none else some ⟨t.n,t.ks.eraseIdx (pz t.ks k)⟩
 |l+1,t,k=>match t.ks[qE t.ks k]? with
  |none=>none
  |some x=>match xY l x.2 k with
   |some t'=>some ⟨t.n,t.ks.set (qE t.ks k) (x.1,(t':Val (l+1)))⟩
   |none=>if t.ks.eraseIdx (qE t.ks k)=[]then none else some ⟨t.n,if qE t.ks k=0 then uN (l+1) (t.ks.eraseIdx (qE t.ks k))else t.ks.eraseIdx (qE t.ks k)⟩
theorem Ov{α:Type}{x:α}{B:List α}:∀ {A:List α},(A++x::B).eraseIdx A.length=A++B
 |[]=>rfl
 |a::A=>by rw[bV,aD,List.eraseIdx_cons_succ,Ov];rfl
theorem Uj{α:Type}{ks:List (Key × α)}(hr:uH ks){k:Key}(hm:∃ y∈ks,y.1=k):isK ks k=true/\∃ A y B,ks=A++y::B/\pz ks k=A.length/\y.1=k:=by
 obtain⟨y,a,rfl⟩:=hm;obtain⟨A,B,e⟩:=dH a;have hp:pz ks y.1=A.length:=Zo e (QE hr e) λf c=>by cases c;exact qa.refl _
 refine⟨?_,A,y,B,e,hp,rfl⟩;unfold isK;rw[hp,e,bC (ax _),bL];exact decide_eq_true rfl
theorem Sm{l:Nat}{L ks:List (Key × Val l)}(hf:tX l ks=true)(h1:L.length<=ks.length)(h2:rV l L<=rV l ks):tX l L=true:=by
 unfold tX at hf |-;rw[decide_eq_true_eq]at hf |-;omega
theorem beside{l:Nat}{t:Tr (l+1)}{lo hi k:Key}{A B:List (Key × Val (l+1))}{x:Key × Val (l+1)}(h:qA (l+1) t lo hi)(e:t.ks=A++x::B)(hA:A=[]\/qa x.1 k)(hB:∀ y∈B,pR k y.1):
  (∀ r∈A.flatMap (λy=>oC l y.2),pR r.1 k)/\∀ r∈B.flatMap (λy=>oC l y.2),pR k r.1:=by
 refine⟨λr hr=>?_,λr hr=>?_⟩
 .obtain⟨y,c,hr⟩:=bR.1 hr
  obtain⟨A1,A2,f⟩:=dH c;have g:qa x.1 k:=hA.resolve_left λh=>by rw[h]at c;cases c
  have a:=((h.2.2.2.2 A1 y (A2++x::B) (by rw[e,f];simp)).rows r hr).2.2.1;have i:x.1≠[]:=(h.2.2.1 A x B e (by rw[f];simp)).1.1;cases A2 with
  |nil=>
   rcases a with a|a
   .exact absurd a i
   .exact a.le g
  |cons z A2=>
   rcases a with a|a
   .exact absurd a (h.2.2.1 (A1++[y]) z (A2++x::B) (by rw[e,f];simp) ig).1.1
   .exact a.le<|(zO h.AB (show t.ks=(A1++[y])++z::(A2++x::B) by rw[e,f];simp) x ig).qa.trans g
 .obtain⟨y,c,hr⟩:=bR.1 hr
  obtain⟨B1,B2,f⟩:=dH c;have a:=((h.2.2.2.2 (A++x::B1) y B2 (by rw[e,f];simp)).rows r hr).2.1;rw[xL ig]at a;exact(hB y c).le a
theorem UV{l:Nat}{t:Tr (l+1)}{A B:List (Key × Val (l+1))}{x:Key × Val (l+1)}(e:t.ks=A++x::B):oC (l+1) t=A.flatMap (λy=>oC l y.2)++(oC l x.2++B.flatMap (λy=>oC l y.2)):=by
 show t.ks.flatMap _=_;rw[e,bO,bN]
theorem zK{l:Nat}{t:Tr (l+1)}{lo hi k:Key}(h:qA (l+1) t lo hi)(hk:qD k)(hlo:qa lo k)(hhi:rO k hi):∃ A x B,t.ks=A++x::B/\qE t.ks k=A.length/\t.ks[qE t.ks k]?=some x/\qa (zD (α:=Val (l+1)) lo A x.1) k/\rO k (Eb (α:=Val (l+1)) B hi)/\
  (∀ m:Val (l+1),t.ks.set (qE t.ks k) (x.1,m)=A++(x.1,m)::B)/\(∀ r∈A.flatMap (λy=>oC l y.2),pR r.1 k)/\∀ r∈B.flatMap (λy=>oC l y.2),pR k r.1:=by
 obtain⟨A,x,B,e,a,c,f⟩:=TM h.AB h.1 hk;obtain⟨i,j⟩:=beside h e (.inr c) f;refine⟨A,x,B,e,a,?_,?_,?_,λm=>?_,i,j⟩
 .rw[a,e,bC (ax _),bL];rfl
 .by_cases g:A=[]
  .rw[g];exact hlo
  .rw[xL g];exact c
 .cases B with
  |nil=>exact hhi
  |cons y B=>exact .inr (f y ig)
 .rw[a];conv=>lhs;rw[e]
  rw[dJ _ _ (ax _),bL];rfl
theorem Wm:∀ {l:Nat} {t:Tr l} {k lo hi:Key},qA l t lo hi->qD k->qa lo k->rO k hi->(∃ r∈oC l t,r.1=k)->
  match xY l t k with
  |some t'=>qA l t' lo hi/\oC l t'=xh (oC l t) k/\t'.n=t.n
  |none=>xh (oC l t) k=[]
 |0,t,k,lo,hi,c,hk,hlo,hhi,hm=>by
  obtain⟨_,A,g,B,e,hp,m⟩:=Uj c.1 hm;have v:t.ks.eraseIdx (pz t.ks k)=A++B:=by
   rw[hp]
   conv=>lhs;rw[e]
   exact Ov
  have f:∀ h∈A,h.1≠k:=λh s=>m▸(QE c.1 e h s).ne
  have K:∀ h∈B,h.1≠k:=λh s=>m▸(zO c.1 e h s).ne.symm
  have p:xh (oC 0 t) k=A++B:=by
   show xh t.ks k=_;rw[e,ML,Nj f,show g::B=[g]++B from rfl,ML,Nj K];have:xh [g] k=[]:=LD λh s=>by rw[aM.1 s];exact decide_eq_false (λc=>c m)
   rw[this];rfl
  unfold xY;rw[v]
  by_cases i:A++B=[]
  .rw[if_pos i]
   show xh (oC 0 t) k=[];rw[p];exact i
  .rw[if_neg i]
   have hr:=c.1;have w:=c.2.1;have q:=c.2.2;rw[e]at hr w q;have z:=dI.1 hr;refine⟨⟨dI.2 ⟨z.1,(eB.1 z.2.1).2,λa L b hb=>z.2.2 a L b jP⟩,λx o=>?_,?_⟩,p.symm,rfl⟩
   .rcases ay.1 o with o|o
    .exact w x (by simp[o])
    .exact w x (by simp[o])
   .exact Sm q ig (by rw[xn,xn,uW];omega)
 |l+1,t,k,lo,hi,c,hk,hlo,hhi,hm=>by
  obtain⟨A,x,B,e,E,o,M,N,O,F,G⟩:=zK c hk hlo hhi;have hp:=AY.1 c;have H:=UV e;have P:∃ r∈oC l x.2,r.1=k:=by
   obtain⟨r,hr,C⟩:=hm;rw[H]at hr;rcases ay.1 hr with hr|hr
   .exact absurd C (F r hr).ne
   .rcases ay.1 hr with hr|hr
    .exact⟨r,hr,C⟩
    .exact absurd C (G r hr).ne.symm
  have p:xh (oC (l+1) t) k=A.flatMap (λg=>oC l g.2)++(xh (oC l x.2) k++B.flatMap (λg=>oC l g.2)):=by
   rw[H,ML,ML,Nj λg m=>(F g m).ne,Nj (A:=B.flatMap _) λg m=>(G g m).ne.symm]
  have j:=Wm (c.2.2.2.2 A x B e) hk M N P;rw[xY,o];dsimp only;cases hdt:xY l x.2 k with
  |some t'=>
   rw[hdt]at j;dsimp only at j |-;have Q:=O t';obtain⟨D,u⟩:∃ D:Key × Val (l+1),D=Prod.mk (α:=Key) (β:=Val (l+1)) x.1 t':=⟨_,rfl⟩;rw[Q,<-u];refine⟨AY.2 ⟨?_,?_⟩,?_,rfl⟩
   .rw[u];exact RD (Mr:=[]) (e▸hp.1) (Je j.1)
   .rw[u];exact(Zn (A:=A) (B:=B) (x:=x)).trans (by rw[<-e];exact hp.2)
   .rw[p,<-j.2.1]
    refine(TP (n:=t.n) (y:=D)).trans ?_;rw[u]
  |none=>
   rw[hdt]at j;dsimp only at j |-;have v:t.ks.eraseIdx (qE t.ks k)=A++B:=by
    rw[E]
    conv=>lhs;rw[e]
    exact Ov
   rw[v]
   by_cases i:A++B=[]
   .rw[if_pos i]
    show xh (oC (l+1) t) k=[];rw[p,j];have I:=List.append_eq_nil_iff.1 i;rw[I.1,I.2];rfl
   .rw[if_neg i]
    have J:(qE t.ks k=0)=(A=[]):=by rw[E];exact propext List.length_eq_zero_iff
    have R:(if qE t.ks k=0 then uN (l+1) (A++B)else A++B)=if A=[]then uN (l+1) B else A++B:=by
     by_cases f:A=[]
     .rw[if_pos (J▸f),if_pos f,f];rfl
     .rw[if_neg (λc=>f (J▸c)),if_neg f]
    rw[R];have S:=zt8 (e▸hp.1) i;have q:=hp.2;rw[e]at q;refine⟨AY.2 ⟨S,?_⟩,?_,rfl⟩
    .show tX (l+1) (if A=[]then uN (l+1) B else A++B)=true
     split
     .rename_i f
      obtain⟨T,U⟩:=Yt B;refine Sm q (by rw[T,f];simp) ?_;rw[f];refine ag U ?_;rw[aV,uW];omega
     .exact Sm q ig (by rw[xn,xn,uW];omega)
    .show oC (l+1) ⟨t.n,if A=[]then uN (l+1) B else A++B⟩=_
     rw[p,j,aV]
     split
     .rename_i f
      rw[zsf,f];rfl
     .show(A++B).flatMap _=_
      rw[bO]
def wB:(l:Nat)->Tr l->Key->List (MN × Nat)
 |0,t,k=>[(nO 0 t,pz t.ks k)]
 |l+1,t,k=>(nO (l+1) t,qE t.ks k)::match t.ks[qE t.ks k]? with|some x=>wB l x.2 k|none=>[]
def yt:List (MN × Nat)->List Nat × Option MN
 |[]=>([],none)
 |(x,i)::up=>if rM x.lv (x.cs.eraseIdx i)=[]/\up≠[]then(x.n::(yt up).1,(yt up).2)else([],some ⟨x.n,x.lv,rM x.lv (x.cs.eraseIdx i)⟩)
theorem zt9:∀ {l:Nat} {ks:List (Key × Val (l+1))},(∃ x r,ks=x::r/\x.1=[])->uN (l+1) ks=ks
 |l,_,⟨x,r,rfl,h⟩=>by show([],x.2)::r=x::r;rw[<-h]
theorem YN{α β:Type}(f:α->β):∀ (l:List α) (k:Nat),(l.map f).eraseIdx k=(l.eraseIdx k).map f
 |[],k=>by cases k<;>rfl
 |x::l,0=>rfl
 |x::l,k+1=>by simp[YN f l k]
theorem Wu{l:Nat}(ks:List (Key × Val l))(i:Nat):(toM l ks).eraseIdx i=toM l (ks.eraseIdx i):=YN _ _ _
theorem SF{lv:Nat}{cs:List (Key × V3)}:rM lv cs=[]↔cs=[]:=by
 unfold rM
 split
 .exact Iff.rfl
 .cases cs<;>simp
theorem RG{l:Nat}{ks:List (Key × Val l)}:toM l ks=[]↔ks=[]:=by unfold toM;exact List.map_eq_nil_iff
structure Df(l:Nat)(t:Tr l)(bs:List Nat)(w:MN)(t':Tr l):Prop where
 pg:(bs++og l t').Perm (og l t)
 win:w.n∈og l t'
 hold:∀ S,uM S l t->uM (qx S w.n (rH w)) l t'
 top:(if w.n=t.n then w else nO l t)=nO l t'
def Ie(l:Nat)(t:Tr l)(p up:List (MN × Nat)):Option (Tr l)->Prop
 |some t'=>∃ bs w,yt (p++up)=(bs,some w)/\Df l t bs w t'
 |none=>∃ bs,bs.Perm (og l t)/\(up≠[]->yt (p++up)=(bs++(yt up).1,(yt up).2))
theorem CU:∀ {l:Nat} {t:Tr l} {k lo hi:Key},qA l t lo hi->qD k->qa lo k->rO k hi->(∃ r∈oC l t,r.1=k)->(og l t).Nodup->∀ up,Ie l t (wB l t k).reverse up (xY l t k)
 |0,t,k,lo,hi,p,hk,hlo,hhi,c,hnd,up=>by
  have o:=Wu t.ks (pz t.ks k);show Ie 0 t [(⟨t.n,0,toM 0 t.ks⟩,pz t.ks k)] up (xY 0 t k);unfold xY
  by_cases f:t.ks.eraseIdx (pz t.ks k)=[]
  .rw[if_pos f]
   refine⟨[t.n],gG _,λE=>?_⟩;rw[gF,yt,if_pos ⟨SF.2 (by dsimp only;rw[o];exact RG.2 f),E⟩]
   rfl
  .rw[if_neg f]
   refine⟨[],⟨t.n,0,rM 0 ((toM 0 t.ks).eraseIdx (pz t.ks k))⟩,?_,gG _,vN (t:=(⟨t.n,t.ks.eraseIdx (pz t.ks k)⟩:Tr 0)),λS u=>?_,?_⟩
   .rw[gF,yt,if_neg λF=>f (RG.1 (by rw[<-o];exact SF.1 F.1))]
   .show qx S t.n (rH ⟨t.n,0,(toM 0 t.ks).eraseIdx (pz t.ks k)⟩) t.n=xM 0 ⟨t.n,t.ks.eraseIdx (pz t.ks k)⟩
    rw[uI,o,<-Ct];rfl
   .rw[if_pos rfl]
    show(⟨t.n,0,(toM 0 t.ks).eraseIdx (pz t.ks k)⟩:MN)=⟨t.n,0,toM 0 (t.ks.eraseIdx (pz t.ks k))⟩;rw[o]
 |l+1,t,k,lo,hi,p,hk,hlo,hhi,c,hnd,up=>by
  obtain⟨A,x,B,e,O,P,Q,R,a4,a5,a6⟩:=zK p hk hlo hhi;have a7:=UV e;have T:∃ r∈oC l x.2,r.1=k:=by
   obtain⟨r,hr,G⟩:=c;rw[a7]at hr;rcases ay.1 hr with hr|hr
   .exact absurd G (a5 r hr).ne
   .rcases ay.1 hr with hr|hr
    .exact⟨r,hr,G⟩
    .exact absurd G (a6 r hr).ne.symm
  have a8:pU (l+1) t.ks=pU (l+1) A++(og l x.2++pU (l+1) B):=by
   rw[e];show(A++x::B).flatMap _=_;rw[bO,bN];rfl
  have v:og (l+1) t=t.n::(pU (l+1) A++(og l x.2++pU (l+1) B)):=by rw[Aj,a8]
  rw[v]at hnd;have y:=df.1 hnd;have U:=bS.1 y.2;have V:=bS.1 U.2.1;have X:=p.2.2.2.2 A x B e;have a9:wB (l+1) t k=(nO (l+1) t,qE t.ks k)::wB l x.2 k:=by rw[wB,P]
  have z:=CU X hk Q R T V.1 ((nO (l+1) t,qE t.ks k)::up);rw[a9,iO,xY,P];dsimp only;cases hdt:xY l x.2 k with
  |some t'=>
   rw[hdt]at z;obtain⟨bs,w,C,g⟩:=z;dsimp only;have b0:=a4 t';obtain⟨D,s⟩:∃ D:Key × Val (l+1),D=Prod.mk (α:=Key) (β:=Val (l+1)) x.1 t':=⟨_,rfl⟩;rw[b0,<-s];have H:=(Wm X hk Q R T);rw[hdt]at H;have Y:og (l+1) ⟨t.n,A++D::B⟩=t.n::(pU (l+1) A++(og l t'++pU (l+1) B)):=by
    rw[Aj,Nl,s];rfl
   have I:w.n∈og l x.2:=g.pg.mem_iff.1 (aB _ g.win);have b1:∀ m∈pU (l+1) A,m≠w.n:=λm c h=>U.2.2 m c w.n (by simp[I]) h
   have b2:∀ m∈pU (l+1) B,m≠w.n:=λm c h=>V.2.2 w.n I m c h.symm
   have Z:t.n≠w.n:=λh=>y.1 (by rw[h];simp[I])
   refine⟨bs,w,by rw[aG];exact C,?_,?_,λS u=>?_,?_⟩
   .rw[Y,v]
    have J:(bs++t.n::(pU (l+1) A++(og l t'++pU (l+1) B))).Perm (t.n::(bs++(pU (l+1) A++(og l t'++pU (l+1) B)))):=fO;refine J.trans<|List.Perm.cons _ ?_
    have K:(bs++(pU (l+1) A++(og l t'++pU (l+1) B))).Perm (pU (l+1) A++(bs++(og l t'++pU (l+1) B))):=ib ..;refine K.trans ?_;rw[<-aG bs];exact(g.pg.append_right _).append_left _
   .rw[Y];simp[g.win]
   .obtain⟨a0,i⟩:=BU.1 u
    rw[e,Gf]at i;have b3:uM S l x.2:=i.2 x ig;have L:ze S (l+1) B:=λq j=>i.2 q (by simp[j])
    have b4:=g.hold S b3;refine BU.2 ⟨?_,Gf.2 ⟨i.1.frame λm c=>sP (b1 m c),λq j=>?_⟩⟩
    .show qx S w.n (rH w) t.n=_
     rw[sP Z,a0];unfold xM;dsimp only;rw[e,bK,bK,aZ,aZ];have:uy (l+1) D=uy (l+1) x:=by
      unfold uy;rw[s];show u8 x.1.length::(x.1++nZ 4 t'.n)=u8 x.1.length::(x.1++nZ 4 (show Tr l from x.2).n);rw[H.2.2]
     rw[this]
    .rcases ak.1 j with rfl|j
     .rw[s];exact b4
     .exact(L q j).frame λm c=>sP (b2 m (bR.2 ⟨q,j,c⟩))
   .rw[if_neg Z.symm]
    unfold nO toM;dsimp only;rw[e,bK,bK,aZ,aZ,s];show(⟨t.n,l+1,List.map _ A++(x.1,(0,0,(show Tr l from x.2).n))::List.map _ B⟩:MN)=⟨t.n,l+1,List.map _ A++(x.1,(0,0,t'.n))::List.map _ B⟩;rw[H.2.2]
  |none=>
   rw[hdt]at z;obtain⟨bs,C,g⟩:=z;replace g:=g ig;dsimp only;have o:t.ks.eraseIdx (qE t.ks k)=A++B:=by
    rw[O]
    conv=>lhs;rw[e]
    exact Ov
   have M:(nO (l+1) t).cs.eraseIdx (qE t.ks k)=toM (l+1) (A++B):=by rw[<-o];exact Wu _ _
   rw[o]
   by_cases f:A++B=[]
   .rw[if_pos f]
    refine⟨bs++[t.n],?_,λE=>?_⟩
    .rw[v]
     obtain⟨rfl,rfl⟩:=List.append_eq_nil_iff.1 f;show(bs++[t.n]).Perm (t.n::([]++(og l x.2++[])));rw[aV,aU];exact List.perm_append_comm.trans<|C.cons _
    .rw[aG,gF,g,yt,if_pos ⟨SF.2 (by rw[M];exact RG.2 f),E⟩]
     simp[nO]
   .rw[if_neg f]
    have a1:(qE t.ks k=0)=(A=[]):=by rw[O];exact propext List.length_eq_zero_iff
    have b5:(if qE t.ks k=0 then uN (l+1) (A++B)else A++B)=uN (l+1) (A++B):=by
     by_cases N:A=[]
     .rw[if_pos (a1▸N)]
     .rw[if_neg (λp=>N (a1▸p))]
      refine(zt9 ?_).symm;obtain⟨b9,r,a2,b6⟩:=p.1;cases A with
      |nil=>exact absurd rfl N
      |cons a A=>rw[e]at a2;cases a2;exact⟨_,_,rfl,b6⟩
    rw[b5];have a3:og (l+1) ⟨t.n,uN (l+1) (A++B)⟩=t.n::(pU (l+1) A++pU (l+1) B):=by rw[Aj,TE,Nl]
    refine⟨bs,⟨t.n,l+1,rM (l+1) (toM (l+1) (A++B))⟩,?_,?_,?_,λS u=>?_,?_⟩
    .rw[aG,gF,g,yt,if_neg λF=>f (RG.1 (by rw[<-M];exact SF.1 F.1)),M,aU]
     rfl
    .rw[a3,v]
     have J:(bs++t.n::(pU (l+1) A++pU (l+1) B)).Perm (t.n::(bs++(pU (l+1) A++pU (l+1) B))):=fO;refine J.trans<|List.Perm.cons _ ?_
     have K:(bs++(pU (l+1) A++pU (l+1) B)).Perm (pU (l+1) A++(bs++pU (l+1) B)):=ib ..;exact K.trans<|(C.append_right _).append_left _
    .rw[a3];exact aK ..
    .obtain⟨a0,i⟩:=BU.1 u
     rw[e,Gf]at i;have L:ze S (l+1) B:=λq j=>i.2 q (by simp[j])
     have b7:∀ m∈pU (l+1) A,m≠t.n:=λm c h=>y.1 (by rw[<-h];simp[c])
     have b8:∀ m∈pU (l+1) B,m≠t.n:=λm c h=>y.1 (by rw[<-h];simp[c])
     refine BU.2 ⟨?_,XE (Gf.2 ⟨i.1.frame λm c=>sP (b7 m c),L.frame λm c=>sP (b8 m c)⟩)⟩;show qx S t.n (rH ⟨t.n,l+1,rM (l+1) (toM (l+1) (A++B))⟩) t.n=_;rw[uI,Vj,<-Ct];rfl
    .rw[if_pos rfl,Vj];rfl
theorem X_:∀ {l:Nat} {t t':Tr l} {k lo hi:Key},qA l t lo hi->qD k->qa lo k->rO k hi->wS l t->xY l t k=some t'->wS l t'
 |0,t,t',k,lo,hi,h,hk,hlo,hhi,hf,e=>by
  unfold xY at e
  split at e
  .cases e
  .rename_i i
   cases e;exact i
 |l+1,t,t',k,lo,hi,h,hk,hlo,hhi,hf,e=>by
  obtain⟨A,x,B,f,v,j,m,o,p,w,y⟩:=zK h hk hlo hhi;have q:wS l x.2:=hf x (by rw[f];simp);rw[xY,j]at e;dsimp only at e;cases hdt:xY l x.2 k with
  |some t2=>
   rw[hdt]at e;cases e;have r:=X_ (h.2.2.2.2 A x B f) hk m o q hdt;have s:=p t2;rw[s];intro c a;rcases ay.1 a with a|a
   .exact hf c (by rw[f];simp[a])
   .rcases ak.1 a with rfl|a
    .exact r
    .exact hf c (by rw[f];simp[a])
  |none=>
   rw[hdt]at e;dsimp only at e
   split at e
   .cases e
   .cases e
    have u:∀ c∈t.ks.eraseIdx (qE t.ks k),c∈t.ks:=λc a=>List.mem_of_mem_eraseIdx a
    have g:wS (l+1) ⟨t.n,t.ks.eraseIdx (qE t.ks k)⟩:=λc a=>hf c (u c a)
    show wS (l+1) ⟨t.n,if qE t.ks k=0 then uN (l+1) (t.ks.eraseIdx (qE t.ks k))else t.ks.eraseIdx (qE t.ks k)⟩
    split
    .exact ZJ g
    .exact g
def Kj:(l:Nat)->Tr l->Key->Tr l
 |0,t,k=>⟨t.n,t.ks.eraseIdx (pz t.ks k)⟩
 |l+1,t,k=>(xY (l+1) t k).getD t
theorem zql{l:Nat}{t:Tr l}{k:Key}{S:Nat->View}(h:Cz S l t)(hk:qD k)(hm:∃ r∈oC l t,r.1=k):
  ∃ bs w,yt (wB l t k).reverse=(bs,some w)/\qA l (Kj l t k) [] []/\(l=0\/wS l (Kj l t k))/\oC l (Kj l t k)=xh (oC l t) k/\(Kj l t k).n=t.n/\Df l t bs w (Kj l t k):=by
 cases l with
 |zero=>
  have r:=Wu t.ks (pz t.ks k);obtain⟨_,A,m,B,e,hp,o⟩:=Uj h.snd_.1 hm;have s:t.ks.eraseIdx (pz t.ks k)=A++B:=by
   rw[hp]
   conv=>lhs;rw[e]
   exact Ov
  have v:∀ c∈A,c.1≠k:=λc i=>o▸(QE h.snd_.1 e c i).ne
  have y:∀ c∈B,c.1≠k:=λc i=>o▸(zO h.snd_.1 e c i).ne.symm
  have hr:=h.snd_.1;have g:=h.snd_.2.1;have u:=h.snd_.2.2;rw[e]at hr g u;have p:=dI.1 hr;refine⟨[],⟨t.n,0,rM 0 ((toM 0 t.ks).eraseIdx (pz t.ks k))⟩,?_,?_, .inl rfl,?_,rfl,⟨gG _,vN (t:=(⟨t.n,t.ks.eraseIdx (pz t.ks k)⟩:Tr 0)),λS G=>?_,?_⟩⟩
  .show yt [(⟨t.n,0,toM 0 t.ks⟩,pz t.ks k)]=_
   rw[yt,if_neg λq=>q.2 rfl]
  .show qA 0 ⟨t.n,t.ks.eraseIdx (pz t.ks k)⟩ [] []
   rw[s];refine⟨dI.2 ⟨p.1,(eB.1 p.2.1).2,λa z b hb=>p.2.2 a z b jP⟩,λx f=>?_,?_⟩
   .rcases ay.1 f with f|f
    .exact g x kW
    .exact g x kW
   .exact Sm u ig (by rw[xn,xn,uW];omega)
  .show t.ks.eraseIdx (pz t.ks k)=xh t.ks k
   rw[s,e,ML,Nj v,show m::B=[m]++B from rfl,ML,Nj y];have:xh [m] k=[]:=LD λc i=>by rw[aM.1 i];exact decide_eq_false (λh=>h o)
   rw[this];rfl
  .show qx S t.n (rH ⟨t.n,0,(toM 0 t.ks).eraseIdx (pz t.ks k)⟩) t.n=xM 0 ⟨t.n,t.ks.eraseIdx (pz t.ks k)⟩
   rw[uI,r,<-Ct];rfl
  .rw[if_pos rfl]
   show(⟨t.n,0,(toM 0 t.ks).eraseIdx (pz t.ks k)⟩:MN)=⟨t.n,0,toM 0 (t.ks.eraseIdx (pz t.ks k))⟩;rw[r]
 |succ l=>
  have j:=Wm h.snd_ hk (uT k) (.inl rfl) hm;have g:=CU h.snd_ hk (uT k) (.inl rfl) hm h.nd [];cases hd:xY (l+1) t k with
  |none=>
   exfalso;obtain⟨A,x,B,e,C,f,H,I,J,K,L⟩:=zK h.snd_ hk (uT k) (.inl rfl);rw[xY,f]at hd;dsimp only at hd
   split at hd
   .cases hd
   .split at hd
    .rename_i q
     have D:=congrArg List.length q;have M:=h.rt.1;have E:qE t.ks k<t.ks.length:=by rw[C,e];simp
     rw[List.length_eraseIdx,if_pos E,aX]at D;omega
    .cases hd
  |some t1=>
   rw[hd]at j g;dsimp only at j;obtain⟨bs,w,w1,w2⟩:=g;have F:Kj (l+1) t k=t1:=by show(xY (l+1) t k).getD t=t1;rw[hd];rfl
   rw[F];refine⟨bs,w,by rw[<-w1,aU],j.1, .inr (X_ h.snd_ hk (uT k) (.inl rfl) h.rt.2 hd),j.2.1,j.2.2,w2⟩
def yR:(l:Nat)->Tr l->Key->Tr 0
 |0,t,_=>t
 |l+1,t,k=>match t.ks[qE t.ks k]? with|some x=>yR l x.2 k|none=>⟨0,[]⟩
theorem UO:∀ {l:Nat} {t:Tr l} {k lo hi:Key},qA l t lo hi->qD k->qa lo k->rO k hi->(∃ lo' hi',qA 0 (yR l t k) lo' hi')/\∀ v,(k,v)∈oC l t↔(k,v)∈(yR l t k).ks
 |0,t,k,lo,hi,h,_,_,_=>⟨⟨lo,hi,h⟩,λv=>Iff.rfl⟩
 |l+1,t,k,lo,hi,h,hk,hlo,hhi=>by
  obtain⟨A,x,B,e,p,c,f,g,q,i,j⟩:=zK h hk hlo hhi;obtain⟨m,o⟩:=UO (h.2.2.2.2 A x B e) hk f g;rw[yR,c];refine⟨m,λv=>?_⟩;rw[<-o,UV e,ay,ay]
  constructor
  .rintro(a|a|a)
   .exact absurd rfl (i _ a).ne
   .exact a
   .exact absurd rfl (j _ a).ne
  .exact λa=>.inr (.inl a)
theorem zsm{α:Type}{ks:List (Key × α)}(hr:uH ks){k:Key}:isK ks k=true↔∃ y∈ks,y.1=k:=by
 refine⟨λa=>?_,λa=>(Uj hr a).1⟩;unfold isK at a
 split at a
 .rename_i y c
  exact⟨y,aN c,of_decide_eq_true a⟩
 .cases a
theorem ZR:∀ {l:Nat} {t:Tr l} {k lo hi:Key},qA l t lo hi->qD k->qa lo k->rO k hi->(wB l t k).map Prod.fst=tH l t k
 |0,_,_,_,_,_,_,_,_=>rfl
 |l+1,t,k,lo,hi,h,hk,hlo,hhi=>by
  obtain⟨A,x,B,e,g,a,c,f,i,j,m⟩:=zK h hk hlo hhi;rw[wB,tH,a,aZ];exact congrArg _<|ZR (h.2.2.2.2 A x B e) hk c f
abbrev tT:=MN × Key × Key
def uY{α:Type}:List (Key × α)->Key->Key->List (α × Key × Key)
 |[],_,_=>[]
 |[x],lo,hi=>[(x.2,lo,hi)]
 |x::y::r,lo,hi=>(x.2,lo,y.1)::uY (y::r) y.1 hi
instance(a b:Key):Decidable (qa a b):=inferInstanceAs (Decidable (¬_))
instance(a b:Key):Decidable (rO a b):=inferInstanceAs (Decidable (_\/_))
def uS(dec:tT->Bool):(l:Nat)->Tr l->Key->Key->List tT
 |0,t,lo,hi=>[(nO 0 t,lo,hi)]
 |l+1,t,lo,hi=>(nO (l+1) t,lo,hi)::if dec (nO (l+1) t,lo,hi)=true then(uY t.ks lo hi).flatMap (λx=>uS dec l x.1 x.2.1 x.2.2)else[]
theorem WW{α β:Type}(f:α->List β):∀ (ks:List (Key × α)) (lo hi:Key),(uY ks lo hi).flatMap (λx=>f x.1)=ks.flatMap λx=>f x.2
 |[],_,_=>rfl
 |[x],_,_=>rfl
 |x::y::r,lo,hi=>by
  rw[uY,bN,WW f (y::r)];exact(bN (f:=λx:Key × α=>f x.2) (x:=x) (xs:=y::r)).symm
theorem Rx{α:Type}:∀ {ks:List (Key × α)} {lo hi:Key} {v:α} {a b:Key},(v,a,b)∈uY ks lo hi->∃ A x B,ks=A++x::B/\x.2=v/\a=zD lo A x.1/\b=Eb B hi
 |[x],lo,hi,v,a,b,c=>by
  cases aM.1 c;exact⟨[],x,[],rfl,rfl,rfl,rfl⟩
 |x::y::r,lo,hi,v,a,b,c=>by
  rw[uY]at c;rcases ak.1 c with c|c
  .cases c;exact⟨[],x,y::r,rfl,rfl,rfl,rfl⟩
  .obtain⟨A,f,B,e,g,h,i⟩:=Rx c
   refine⟨x::A,f,B,by rw[e];rfl,g,?_,i⟩;have j:zD y.1 A f.1=zD lo (x::A) f.1:=by
    rw[xL (α:=α) (A:=x::A) ig];cases A with
    |nil=>cases e;rfl
    |cons a A=>rfl
   exact h.trans j
def wR{α:Type}(ks:List (Key × α))(lo hi:Key):List (Key × α):=ks.filter λx=>decide (qa lo x.1) && decide (rO x.1 hi)
def xE(lo hi:Key)(v:tT):Bool:=!(decide (hi≠[]/\qa hi v.2.1) || decide (v.2.2≠[]/\qa v.2.2 lo))
def Ah(lo hi:Key)(v:tT):List (Key × V3):=if xE lo hi v=true/\v.1.lv=0 then wR v.1.cs lo hi else[]
theorem zso{α:Type}{ks:List (Key × α)}{lo hi:Key}(h:∀ x∈ks,¬(qa lo x.1/\rO x.1 hi)):wR ks lo hi=[]:=LD λx c=>by
 have:=h x c
 by_cases a:qa lo x.1
 .rw[decide_eq_true a,decide_eq_false (λe=>this ⟨a,e⟩)];rfl
 .rw[decide_eq_false a];rfl
theorem Jq{l:Nat}{t:Tr l}{a b lo hi:Key}(h:qA l t a b)(hd:xE lo hi (nO l t,a,b)=false):wR (oC l t) lo hi=[]:=zso λr hr ⟨f,a⟩=>by
 obtain⟨k1,k2,k3,_⟩:=h.rows r hr;unfold xE at hd;rw[Bool.not_eq_false',Bool.or_eq_true,decide_eq_true_eq,decide_eq_true_eq]at hd;rcases hd with⟨c,e⟩|⟨c,e⟩
 .rcases a with a|a
  .exact c a
  .exact(e.trans k2) a
 .rcases k3 with k3|k3
  .exact c k3
  .exact f<|k3.le e
def zY(x:Key × V3):Key × (Nat × Nat):=(x.1,x.2.1,x.2.2.1)
theorem zpf:∀ {l:Nat} {t:Tr l} {a b lo hi:Key},qA l t a b->((uS (xE lo hi) l t a b).flatMap (Ah lo hi)).map zY=wR (oC l t) lo hi
 |0,t,a,b,lo,hi,c=>by
  show(Ah lo hi (nO 0 t,a,b)++[]).map zY=_;rw[aU];unfold Ah
  by_cases f:xE lo hi (nO 0 t,a,b)=true
  .rw[if_pos ⟨f,rfl⟩]
   show(wR (toM 0 t.ks) lo hi).map zY=wR t.ks lo hi;unfold wR toM;rw[List.filter_map,dE];have g:(zY ∘ λx:Key × Val 0=>(x.1,v3 0 x.2))=id:=rfl;have h:((λx:Key × V3=>decide (qa lo x.1) && decide (rO x.1 hi)) ∘ λx:Key × Val 0=>(x.1,v3 0 x.2))=λx:Key × Val 0=>decide (qa lo x.1) && decide (rO x.1 hi):=rfl
   rw[g,h];exact List.map_id _
  .rw[if_neg λc=>f c.1,Jq c (by simpa using f)];rfl
 |l+1,t,a,b,lo,hi,c=>by
  rw[uS,bN];have j:Ah lo hi (nO (l+1) t,a,b)=[]:=by unfold Ah;rw[if_neg λc=>by cases c.2]
  rw[j,aV]
  by_cases f:xE lo hi (nO (l+1) t,a,b)=true
  .rw[if_pos f,List.flatMap_assoc,List.map_flatMap]
   have k:(uY t.ks a b).flatMap (λx=>((uS (xE lo hi) l x.1 x.2.1 x.2.2).flatMap (Ah lo hi)).map zY)=(uY t.ks a b).flatMap (λx=>wR (oC l x.1) lo hi):=by
    have m:∀ x∈uY t.ks a b,((uS (xE lo hi) l x.1 x.2.1 x.2.2).flatMap (Ah lo hi)).map zY=wR (oC l x.1) lo hi:=λx o=>by
     obtain⟨A,p,B,e,g,h,q⟩:=Rx (v:=x.1) (a:=x.2.1) (b:=x.2.2) o;have i:=c.2.2.2.2 A p B e;rw[g,<-h,<-q]at i;exact zpf i
    rw[List.flatMap_def,List.flatMap_def,iY m]
   rw[k];refine(WW (α:=Val (l+1)) (λv=>wR (oC l v) lo hi) t.ks a b).trans ?_;show _=(t.ks.flatMap λx=>oC l x.2).filter _;rw[List.filter_flatMap]
   rfl
  .rw[if_neg f,Jq c (by simpa using f)];rfl
end Go.Proofs.YtpaniebomegnbaaGreat
namespace Coup
open Go Go.RowKit
structure OT(w:World)(ds:List Nat):Prop where
 d:∀ D∈ds,w.heap[D]?=some (.deferred (some []))
 nd:ds.Nodup
namespace OT
variable {w w':World}{ds:List Nat}
end OT
section
variable {md:Option Nat->Prop}{P:Program}{n:Nat}{Q:Post}{ρ:Env}{w:World}
def Iz(P:Program)(t:Nat):Bool:=match P.underlying t with|some (.func _ _ _)=>true|_=>false
theorem zua{d:Option Nat}{ty:TypeId}{pos:String}{af:Array Edge}{gd:Option (Nat × Bool)}{t t':Nat}{x:Operand}{f:Fn}{a b:Array Value}(ht:Iz P t=true)(hx:ev ρ x= .func f a b):(execOp (ev ρ) ⟨d, .binOp .eql t x (.const .nilFunc) t',ty,pos,af,gd⟩).run P w= .ok (.value (.bool false)) w:=by
 unfold Iz at ht
 split at ht
 .rename_i c
  have e:(eqGuard .eql t x (.const .nilFunc) (.func f a b) .nilFunc).run P w= .ok () w:=by
   unfold eqGuard;simp
  have g:∀ n,(Op.equalIn (n+1) t (.func f a b) .nilFunc).run P w= .ok false w:=λn=>by
   simp only[Op.equalIn,Sem.run_bind,run_underlying c,Result.andThen_ok]
   rfl
  have h:(binOp .eql t (.func f a b) .nilFunc).run P w= .ok (.bool false) w:=by
   simp only[binOp];simp[Op.equal,Op.maxDepth,g 9999]
  have i:ev ρ (.const .nilFunc)= .nilFunc:=rfl;simp only[execOp,hx,i,Sem.run_bind,e,h,Result.andThen_ok]
  rfl
 .cases ht
end
theorem Two.more{X Y:World->List Nat->Prop}[hX:mW X][hY:mW Y]{lo:Nat}{L M N:List Nat}{w w':World}(h:Two X Y lo L w)(k:Kp M w w')(hM:∀ b∈M,b<lo\/b∈L)(hN:∀ b∈N,b∈L\/w.heap.size<=b)(hN':∀ b∈N,b<w'.heap.size):Two X Y lo (N++L) w':=by
 have g:∀ b,b<w.heap.size->b∉L->b∉N++L:=λb hb c a=>(ay.1 a).elim (λa=>(hN b a).elim c λl=>absurd hb (bT.2 l)) c
 obtain⟨⟨B,C,i,j,e,f⟩,m,o⟩:=h;refine⟨⟨B,C,?_,?_,λb hb=>⟨(e b hb).1,(e b hb).2.1,g b (hX.lt i b hb) (e b hb).2.2⟩,λb hb=>⟨(f b hb).1,g b (hY.lt j b hb) (f b hb).2⟩⟩,ag m k.size,λb hb=>?_⟩
 .exact hX.nu i k λb hb a=>(hM b a).elim (λc=>absurd (e b hb).1 (dN.2 c)) (e b hb).2.2
 .exact hY.nu j k λb hb a=>(hM b a).elim (λc=>absurd (f b hb).1 (dN.2 c)) (f b hb).2
 .rcases ay.1 hb with hb|hb
  .exact hN' b hb
  .exact ae (o b hb) k.size
section
variable {P:Program}{ρ:Env}{w:World}{d:Option Nat}{ty:TypeId}{pos:String}{af:Array Edge}{gd:Option (Nat × Bool)}{K:Value->World->Prop}
theorem r_:∀ (l:List UInt8) (a:Addr) (acc:ByteArray),(∀ j x,l[j]?=some x->w.cell? (a.add j)=some (.int .u8 (x.toNat:Int)))->(Extern.Bytes.loadBytes a l.length acc).run P w= .ok ⟨acc.data++l.toArray⟩ w
 |[],a,acc,_=>by simp[Extern.Bytes.loadBytes]
 |x::l,a,acc,h=>by
  have f:w.cell? a=some (.int .u8 (x.toNat:Int)):=by simpa [Addr.add]using h 0 x rfl
  have g:=r_ l (a.add 1) (acc.push x) (λj i k=>by
   have e:(a.add 1).add j=a.add (j+1):=by
    unfold Addr.add
    by_cases c:j=0
    .subst c;simp
    .simp[c];omega
   rw[e];exact h (j+1) i (by simpa using k))
  have m:((x.toNat:Int).toNat).toUInt8=x:=by simp
  simp only[aD,Extern.Bytes.loadBytes,Sem.run_bind,run_load,f,Result.andThen,m];rw[g]
  congr 1
  apply ByteArray.ext;simp[ByteArray.push]
theorem Xz{p:Option Addr}{c:Nat}{l:List UInt8}(h:nC w p l.length 1 (bv l)):(Extern.Bytes.bytesOf (.slice p l.length c)).run P w= .ok ⟨l.toArray⟩ w:=by
 cases p with
 |none=>
  have f:l=[]:=by
   cases l with
   |nil=>rfl
   |cons x l=>
    obtain⟨g,i,e,_⟩:=h.some ig;cases e
  subst f
  rfl
 |some a=>
  show(Extern.Bytes.loadBytes a l.length .empty).run P w=_;rw[r_]
  .congr 1
   apply ByteArray.ext;simp
  .intro j x c
   have k:=(aO.1 c).1;obtain⟨g,i,e,_⟩:=h.some eu;cases e;rw[Addr.add_lit];exact h.cell j (by unfold bv;rw[aW,c];rfl)
theorem LQ {f:FuncId} {fn:Func} {x y:Operand} {ats:Array Nat} (hf:P.funcs[f]?=some fn) (hname:(fn.name == "runtime.NumGoroutine")=false)
  (hb:fn.body.isNone=true) (hn:Extern.findNext fn=none) (he:Extern.find fn=some Extern.BytealgCompare.compare) {p q:Option Addr} {c e:Nat} {a b:List UInt8}
  (hx:ev ρ x= .slice p a.length c) (hy:ev ρ y= .slice q b.length e) (ha:nC w p a.length 1 (bv a)) (hb2:nC w q b.length 1 (bv b)):
  (execOp (ev ρ) ⟨d, .call ⟨.value (.func f),#[x,y],ats⟩,ty,pos,af,gd⟩).run P w= .ok (.value (.int .i64 (Lib.compareBytes a b))) w:=by
 have f:=run_callFunc_extern hf hname hb hn he #[.slice p a.length c, .slice q b.length e] w;have g:(Extern.BytealgCompare.compare #[.slice p a.length c, .slice q b.length e]).run P w= .ok (.int .i64 (Lib.compareBytes a b)) w:=by
  change Sem.run P (do pure (goInt (Extern.BytealgCompare.cmp (<-Extern.Bytes.bytesOf (.slice p a.length c)) (<-Extern.Bytes.bytesOf (.slice q b.length e))))) w=_
  simp only[Sem.run_bind,Xz ha,Xz hb2,Sem.run_pure,Result.andThen];rw[Lib.cmp_eq]
  rfl
 rw[g,Result.andThen_ok]at f;have h:(#[x,y]:Array Operand).map (ev ρ)=#[.slice p a.length c, .slice q b.length e]:=by simp[hx,hy]
 simp[execOp,resolve,h,ev,Deferred.ofValue,invoke,f,Result.andThen]
theorem Nh {t e sz:Nat} {x:Operand} {lo hi mx:Option Operand} {p pk:Option Addr} {len cap:Nat} (l h m k c:Nat) (hpk:(if m=l then p else p.map (·.add (l*sz)))=pk) (ht:Di P t e sz=true) (hx:ev ρ x= .slice p len cap)
  (hl:ob ρ lo 0 l) (hh:ob ρ hi len h) (hm:ob ρ mx cap m) (hmh:mx.isSome=true->hi.isSome=true) (h1:l<=h) (h2:h<=m) (h3:m<=cap) (hk:h - l=k) (hc:m - l=c):
  (execOp (ev ρ) ⟨d, .slice t x lo hi mx,ty,pos,af,gd⟩).run P w= .ok (.value (.slice pk k c)) w:=by
 rw[MV l h m ht hx hl hh hm hmh h1 h2 h3,hpk,hk,hc]
def Vr(P:Program)(tS e:Nat)(size:Nat):Bool:=match P.underlying tS with|some (.slice e')=>decide (e'=e) && (match P.info? e with|some j=>decide (j.size=size)|none=>false)|_=>false
theorem zsp{tS e size:Nat}(h:Vr P tS e size=true):P.underlying tS=some (.slice e)/\∃ j,P.info? e=some j/\j.size=size:=by
 unfold Vr at h
 split at h
 .rename_i f c
  rw[aJ,decide_eq_true_eq]at h;obtain⟨rfl,a⟩:=h
  split at a
  .rename_i j e
   exact⟨c,j,e,of_decide_eq_true a⟩
  .cases a
 .cases h
theorem zue {f:FuncId} {fn:Func} {x y:Operand} {ats:Array Nat} {tS tR e size:Nat} (hf:P.funcs[f]?=some fn) (hname:(fn.name == "runtime.NumGoroutine")=false)
  (hb:fn.body.isNone=true) (hn:Extern.findNext fn=none) (he:Extern.find fn=some (Extern.SlicesOverlaps.overlaps #[tS,tS] #[tR])) (ht:Vr P tS e size=true)
  {g o g2 o2 la ca lb cb t1 t2 k2:Nat} {l1:List Value} (hx:ev ρ x= .slice (some ⟨g,o,none⟩) la ca) (hy:ev ρ y= .slice (some ⟨g2,o2,none⟩) lb cb)
  (hr:row w g l1 t1) (hs:w.shape? g2=some (t2,k2)) (hk:k2≠0) (hne:g≠g2):
  (execOp (ev ρ) ⟨d, .call ⟨.value (.func f),#[x,y],ats⟩,ty,pos,af,gd⟩).run P w= .ok (.value (.bool false)) w:=by
 have c:=run_callFunc_extern hf hname hb hn he #[.slice (some ⟨g,o,none⟩) la ca, .slice (some ⟨g2,o2,none⟩) lb cb] w;obtain⟨f,j,h,i⟩:=zsp ht;have k:∀ w:World,(Go.sizeOf e).run P w= .ok size w:=λw=>by simp[Go.sizeOf,typeInfo,h,i,Result.andThen]
 have a:=hr;unfold row at a;rw[Lib.run_overlaps_apart w tS tR e f size k ⟨g,o,none⟩ ⟨g2,o2,none⟩ la ca lb cb hne t1 t2 l1.length k2 hr.shape hs hk (by simp[World.frozen?,a]) (by simp[World.frozen?,a]),Result.andThen_ok]at c;have l:(#[x,y]:Array Operand).map (ev ρ)=#[.slice (some ⟨g,o,none⟩) la ca, .slice (some ⟨g2,o2,none⟩) lb cb]:=by simp[hx,hy]
 simp[execOp,resolve,l,ev,Deferred.ofValue,invoke,c,Result.andThen]
end
end Coup
namespace Go.Proofs.YtpaniebomegnbaaGreat
open Go Go.RowKit Coup
theorem R_:∀ (a b:Key),Lib.compareBytes a b=tY a b
 |[],[]=>rfl
 |[],_::_=>rfl
 |_::_,[]=>rfl
 |x::a,y::b=>by rw[Lib.compareBytes,tY,R_ a b]
theorem JY{pa pb:Option Addr}{ca cb:Nat}{a b:Key}(w:World)(ha:nC w pa a.length 1 (bv a))(hb:nC w pb b.length 1 (bv b)):
  CQ 39 [.slice pa a.length ca, .slice pb b.length cb] w (λv w'=>v= .int .i64 (tY a b)/\Below w.heap.size w w'):=by
 have c:=Below.refl w.heap.size w;refine nP (fn:=Tryz.f39) (rs:=[.tmp 4]) (n:=8) Tryz.func39 rfl rfl Tryz.ntmps39 dA rfl<|mR<|nV<|mP<|mP<|mO (LQ Tryz.func104 dA dA dA dA rfl rfl ha hb)<|mV<|mQ<|nQ<|nR [_] ⟨rfl,trivial⟩ ?_
 exact⟨congrArg (Value.int .i64) (R_ a b),c⟩
def pI(p:Option Addr)(cp:Nat)(c:Key × V3):List Value:=[.slice p c.1.length cp, .int .i64 (c.2.1:Int), .int .i64 (c.2.2.1:Int), .int .i64 (c.2.2.2:Int)]
def sw(w:World)(bl:List Nat)(xs:List Value)(c:Key × V3):Prop:=∃ p cp,xs=pI p cp c/\nC w p c.1.length 1 (bv c.1)/\(∀ g o,p=some ⟨g,o,none⟩->g∈bl)/\c.1.length<=cp
structure qQ(w:World)(bl:List Nat)(vs:List Value)(cs:List (Key × V3)):Prop where
 len:vs.length=cs.length*4
 at_:∀ i c,cs[i]?=some c->sw w bl ((vs.drop (i*4)).take 4) c
section
variable {w w':World}{bl bl':List Nat}{vs xs:List Value}{cs:List (Key × V3)}{c:Key × V3}
theorem sw.nu{M:List Nat}(h:sw w bl xs c)(k:Kp M w w')(hM:∀ b∈bl,b∉M):sw w' bl xs c:=by
 obtain⟨p,c,f,i,a,j⟩:=h;exact⟨p,c,f,i.nu k λg o e=>hM g (a g o e),a,j⟩
theorem sw.mono(h:sw w bl xs c)(hb:∀ b∈bl,b∈bl'):sw w bl' xs c:=by
 obtain⟨p,a,c,f,i,j⟩:=h;exact⟨p,a,c,f,λg o e=>hb g (i g o e),j⟩
theorem sw.new(h:sw w bl xs c)(hb:Below w.heap.size w w'):sw w' bl xs c:=h.nu (M:=[]) (Kp.of_below hb) ig
namespace qQ
theorem nil(w:World)(bl:List Nat):qQ w bl [] []:=⟨rfl,λi c a=>by cases a⟩
theorem nu{M:List Nat}(h:qQ w bl vs cs)(k:Kp M w w')(hM:∀ b∈bl,b∉M):qQ w' bl vs cs:=⟨h.len,λi c a=>(h.at_ i c a).nu k hM⟩
theorem mono(h:qQ w bl vs cs)(hb:∀ b∈bl,b∈bl'):qQ w bl' vs cs:=⟨h.len,λi c a=>(h.at_ i c a).mono hb⟩
theorem new(h:qQ w bl vs cs)(hb:Below w.heap.size w w'):qQ w' bl vs cs:=h.nu (M:=[]) (Kp.of_below hb) ig
end qQ
theorem CX{g o n i:Nat}(h:nC w (some ⟨g,o,none⟩) n 4 vs)(hc:qQ w bl vs cs)(hi:cs[i]?=some c):Ld Tryz.prog w 90 ⟨g,o+i*4,none⟩ (.agg ((vs.drop (i*4)).take 4).toArray):=
 Ld.zB (P:=Tryz.prog) (t:=90) (j:=i*4) (k:=4) h dA dA (by rw[hc.len];have:=(aO.1 hi).1;omega)
end
theorem XL{bl:List Nat}{xs:List Value}{c:Key × V3}{pk:Option Addr}{ck:Nat}{k:Key}(w:World)(hc:sw w bl xs c)(hk:nC w pk k.length 1 (bv k)):
  CQ 106 [.agg xs.toArray, .slice pk k.length ck] w (λv w'=>v= .int .i64 (tY c.1 k)/\Below w.heap.size w w'):=by
 obtain⟨p,e,rfl,hp,_,_⟩:=hc;have a:=Below.refl w.heap.size w;refine nP (fn:=Tryz.f106) (rs:=[.tmp 4]) (n:=9) Tryz.func106 rfl rfl Tryz.ntmps106 dA rfl<|mR<|nz<|oV (pI p e c) rfl<|λi w2 j f g=>?_
 replace a:=a.acc g;refine nV<|mO (nk 0)<|mO (mZ f)<|mP<|nD (JY w2 (hp.new a) (hk.new a)) ?_
 rintro _ k ⟨rfl,h⟩;replace a:=a.acc h;refine lQ ?_;exact⟨rfl,a⟩
theorem BR{α:Type}{ks:List (Key × α)}{k:Key}(hr:uH ks){i:Nat}{x:Key × α}(h:ks[i]?=some x):tY x.1 k<0↔i<pz ks k:=by
 obtain⟨A,B,e,hp,f,g⟩:=Wj ks k;rw[hp];subst e
 constructor
 .intro a
  refine Nat.lt_of_not_le λl=>?_
  rw[bC l]at h;cases B with
  |nil=>cases h
  |cons y B=>
   have c:=g y rfl;cases hj:i - A.length with
   |zero=>rw[hj]at h;cases h;exact c a
   |succ j=>
    rw[hj]at h;have m:x∈B:=aN h;have o:=zO hr rfl x m;exact c<|o.trans a
 .intro a
  rw[bG a]at h;exact f x<|aN h
theorem KX(i j:Nat):Int.fdiv ((i:Int)+(j:Int)) (2 ^ (min (1:Int).toNat IntKind.u64.bits))=(((i+j) / 2:Nat):Int):=by
 show Int.fdiv _ (2 ^ 1)=_;rw[gQ _ iT];omega
theorem zsr{bl:List Nat}{vs:List Value}{cs:List (Key × V3)}{p pk:Option Addr}{n c ck:Nat}{k:Key}(w:World)(hn:n=cs.length)(hn2:n<=1000)(h:nC w p n 4 vs)(hc:qQ w bl vs cs)(hr:uH cs)(hk:nC w pk k.length 1 (bv k)):
   CQ 105 [.slice p n c, .slice pk k.length ck, .func (.func 106) #[] #[]] w (λv w'=>v= .tuple #[.int .i64 (pz cs k:Int), .bool (isK cs k)]/\Below w.heap.size w w'):=by
 have a:=Below.refl w.heap.size w;have I:maxLen=9223372036854775807:=by decide
 have J:=h.max;have t:=WI cs k;refine nP (fn:=Tryz.f105) (rs:=[.tmp 6, .tmp 7]) (n:=49) Tryz.func105 rfl rfl Tryz.ntmps105 dA rfl<|mR<|mV<|nV<|mP<|mO (oQ (e:=90) (sz:=4) dA rfl rfl)<|nV<|mP<|mV<|mV<|mQ<|ng<|oU ?_
 refine qZ (α:=Nat × Nat) (0,n) (λl=>[(9, .int .i64 (l.1:Nat)),(10, .int .i64 (l.2:Nat)),(8, .int .i64 (n:Nat)),(0, .slice p n c),(1, .slice pk k.length ck),(2, .func (.func 106) #[] #[])]) (λl w'=>l.1<=pz cs k/\pz cs k<=l.2/\l.2<=n/\Below w.heap.size w w') (λl=>l.2 - l.1)
   ⟨rfl,rfl,rfl,rfl,rfl,rfl,rfl⟩ ⟨aC _,by rw[hn];exact t,ax _,a⟩ ?_
 rintro⟨i,j⟩ f s ⟨u,v,y,a⟩;dsimp only at u v y;refine ng<|mR<|mP<|mP<|mO (pE rfl rfl)<|mQ<|oP rfl (λz=>?_)<|λz=>?_
 ·
  refine nL<|ny<|oU<|ng ?_
  have K:i<j:=by omega
  refine nM<|mP<|mP<|mO (om rfl rfl (Coup.nN eu))<|mO (rz (k:=.u64) dA dA rfl (wu64 eu))<|mO (wQ rfl rfl eu (KX i j))<|mO (rz (k:=.i64) dA dA rfl (Coup.nN eu))<|mV<|mQ<|ng ?_
  have g:∃ m,cs[(i+j) / 2]?=some m:=⟨_,aI eu⟩;obtain⟨m,g⟩:=g;have o:=h.some eu;obtain⟨A,B,rfl,C⟩:=o;refine nM<|mP<|mP<|mP<|mO (rE (e:=90) (sz:=4) dA rfl rfl ((i+j) / 2) eu eu)<|mO (ou rfl (CX (h.new a) (hc.new a) g))<|mP<|qi rfl (uA rfl rfl rfl) (XL s ((hc.at_ _ _ g).new a) (hk.new a)) ?_
  rintro _ L ⟨rfl,D⟩;replace a:=a.acc D;refine mO (pE rfl rfl)<|mQ<|oP rfl (λq=>?_)<|λq=>?_
  ·
   refine nM<|mP<|mO (om rfl rfl (Coup.nN eu))<|mV<|oH<|pW ?_
   have E:=(BR hr g).1 q;refine oO ⟨((i+j) / 2+1,j),by dsimp only;omega,⟨rfl,rfl,rfl,rfl,rfl,rfl,rfl⟩,by dsimp only;omega,by dsimp only;omega,by dsimp only;omega,a⟩
  ·
   have E:¬(i+j) / 2<pz cs k:=λF=>q ((BR hr g).2 F)
   refine nM<|mP<|mV<|oH<|pW<|oO ⟨(i,(i+j) / 2),by dsimp only;omega,⟨rfl,rfl,rfl,rfl,rfl,rfl,rfl⟩,by dsimp only;omega,by dsimp only;omega,by dsimp only;omega,a⟩
 ·
  obtain rfl:i=j:=by omega
  obtain rfl:i=pz cs k:=by omega
  refine qP<|qL<|rf<|qX<|ny<|mR<|mP<|mP<|mP<|mO (pE rfl rfl)<|mP<|ui 39 rfl (λG=>?_)<|λG=>?_
  ·
   refine mY<|mP<|mY<|mP<|mY<|mP<|mY ?_
   have g:∃ m,cs[pz cs k]?=some m:=⟨_,aI eu⟩;obtain⟨m,g⟩:=g;have o:=h.some eu;obtain⟨A,B,rfl,C⟩:=o;refine mO (rE (e:=90) (sz:=4) dA rfl rfl (pz cs k) eu eu)<|mY<|mO (ou rfl (CX (h.new a) (hc.new a) g))<|mY<|mP<|mY<|qi rfl (uA rfl rfl rfl) (XL s ((hc.at_ _ _ g).new a) (hk.new a)) ?_
   rintro _ M ⟨rfl,H⟩;replace a:=a.acc H;refine mY<|mO (qy rfl rfl)<|mO (pO rfl)<|mV<|mV<|mQ<|nQ<|nR [_,_] ⟨rfl,rfl,trivial⟩ ?_;have r:isK cs k=decide (tY m.1 k=0):=by
    unfold isK;rw[g];exact decide_eq_decide.2 ⟨λe=>by rw[e];exact Ws k,Wi⟩
   exact⟨by rw[r];rfl,a⟩
  ·
   refine nE<|nE<|nE<|nE<|nE<|nE<|nE<|nE<|mO (oo rfl)<|mV<|mV<|oH<|ny<|nQ<|nR [_,_] ⟨rfl,rfl,trivial⟩ ?_
   have r:isK cs k=false:=by
    unfold isK;rw[bQ eu]
   exact⟨by rw[r];rfl,a⟩
theorem zss(n:Nat):IntKind.u8.wrap (n:Int)=((u8 n).toNat:Int):=by
 rw[IntKind.wrap_u8];unfold u8;rw[fq];omega
theorem LG(n:Nat):[Value.int .u8 (IntKind.u8.wrap ((n:Int).fdiv (2 ^ (min (8:Int).toNat IntKind.i64.bits)))), .int .u8 (IntKind.u8.wrap (n:Int))]=bv (nZ 2 n):=by
 have a:=congrArg (List.drop 2) (Tq n);exact a
theorem EY(n:Nat):[Value.int .u8 (IntKind.u8.wrap ((n:Int).fdiv (2 ^ (min (24:Int).toNat IntKind.i64.bits)))), .int .u8 (IntKind.u8.wrap ((n:Int).fdiv (2 ^ (min (16:Int).toNat IntKind.i64.bits)))), .int .u8 (IntKind.u8.wrap ((n:Int).fdiv (2 ^ (min (8:Int).toNat IntKind.i64.bits)))), .int .u8 (IntKind.u8.wrap (n:Int))]=bv (nZ 4 n):=Tq n
theorem zy{bl:List Nat}{xs:List Value}{c:Key × V3}{lv:Nat}(w:World)(hc:sw w bl xs c)(hok:c.1.length<=300):
   CQ 135 [.agg xs.toArray, .int .i64 (lv:Int)] w (λv w'=>nY w' w.heap.size 5 1 v (pK lv c).length (bv (pK lv c))/\Below w.heap.size w w'):=by
 obtain⟨p,D,rfl,hp,_,_⟩:=hc;have a:=Below.refl w.heap.size w;have V:maxLen=9223372036854775807:=by decide
 have E:=zss c.1.length;have X:=ax w.heap.size;obtain⟨n,j⟩:∃ n,(if lv=0 then c.2.1 else c.2.2.2)=n:=⟨_,rfl⟩;have F:=EY n;have G:=LG c.2.2.1;refine nP (fn:=Tryz.f135) (rs:=[.tmp 4]) (n:=51) Tryz.func135 rfl rfl Tryz.ntmps135 dA rfl<|mR<|nz<|oV (pI p D c) rfl<|λH w2 Y f I=>?_
 replace a:=a.acc I;refine nV<|mO (nk 0)<|mO (mZ f)<|mO (oQ (e:=5) (sz:=1) dA rfl rfl)<|mO (rz (k:=.u8) dA dA rfl rfl) ?_
 have Z:=f.lt;refine nz<|uE (e:=5) (.int .u8 (IntKind.u8.wrap (c.1.length:Int))) ([.int .u8 (IntKind.u8.wrap (c.1.length:Int))]) ([Value.int .u8 0]) 1 dA dA rfl rfl rfl ⟨iT,iT⟩<|λJ a0 a1 l u=>?_
 replace f:=f.new u;replace a:=a.acc u;refine mO (nk 0)<|mO (mZ f) ?_
 rw[show[Value.int .u8 (IntKind.u8.wrap (c.1.length:Int))]=bv [u8 c.1.length] by rw[E];rfl]at l;have a2:=a.size;have o:=l.owns (base:=J) (m:=1) (sz:=1) (ax _) rfl eu;have K:=hp.new a;have a3:=l.lt;refine nz<|uf (e:=5) (sz:=1) (bytes:=1) (z:=Value.int .u8 0) dA rfl dA rfl iT rfl o rfl K (tq _) jo eu (λv=>eu)<|λL M h y a4=>?_
 replace f:=f.own o y eu;replace a:=a.own o y eu;refine nV<|mO (nk 3)<|mO (mZ f)<|mV<|mQ<|xO (λ_:Unit=>[(6, .int .i64 (n:Int)),(5,L),(1, .int .i64 (lv:Int)),(2, .pointer (some ⟨H,0,none⟩))]) (λ_ w'=>M=w') ?_ ?_
 ·
  refine mR<|mP<|mO (qy rfl rfl)<|mQ<|oP rfl (λq=>?_)<|λq=>?_
  ·
   refine nM<|mO (nk 1)<|mO (nk 0)<|mO (mZ f)<|mV<|oH<|oO ⟨(),⟨by rw[<-j,if_pos eu];rfl,rfl,rfl,rfl,rfl⟩,rfl⟩
  ·
   refine nL<|oO ⟨(),⟨by rw[<-j,if_neg eu];rfl,rfl,rfl,rfl,rfl⟩,rfl⟩
 ·
  rintro _ a5 a6 rfl;refine mR<|mP<|mP<|mO (wQ rfl rfl eu rfl)<|mO (rz (k:=.u8) dA dA rfl rfl)<|mP<|mO (wQ rfl rfl eu rfl)<|mO (rz (k:=.u8) dA dA rfl rfl)<|mP<|mO (wQ rfl rfl eu rfl)<|mO (rz (k:=.u8) dA dA rfl rfl)<|mP<|mO (rz (k:=.u8) dA dA rfl rfl)<|nz<|IL (e:=5) [(0, .int .u8 (IntKind.u8.wrap ((n:Int).fdiv (2 ^ (min (24:Int).toNat IntKind.i64.bits))))),(1, .int .u8 (IntKind.u8.wrap ((n:Int).fdiv (2 ^ (min (16:Int).toNat IntKind.i64.bits))))),(2, .int .u8 (IntKind.u8.wrap ((n:Int).fdiv (2 ^ (min (8:Int).toNat IntKind.i64.bits))))),(3, .int .u8 (IntKind.u8.wrap (n:Int)))] [.int .u8 0] 1 dA dA rfl eu eu (by intro i N;rcases i with _|_|_|_|i<;>first |(simp[Value.cells];done)|(exfalso;simp only[aD,aX]at N;omega)) kP<|λO P a7 r s=>?_
  replace f:=f.new s;replace h:=h.new s;replace a:=a.acc s;replace r:row P O (bv (nZ 4 n)) 5:=by rw[<-F];exact r
  have Q:=r.ul (m:=4) (sz:=1) (by rw[oh,ry]) eu;refine nz<|uf (e:=5) (sz:=1) (bytes:=1) (z:=Value.int .u8 0) dA rfl dA rfl iT rfl h rfl Q (tq _) jo eu (λv=>eu)<|λa8 a9 g A b0=>?_
  replace f:=f.own h A eu;replace a:=a.own h A eu;refine mV<|mQ<|ng<|mR<|mP<|mO (qy rfl rfl)<|mQ<|oP rfl (λq=>?_)<|λq=>?_
  ·
   refine nM<|mP<|mO (nk 1)<|mO (nk 1)<|mO (mZ f)<|mO (wQ rfl rfl eu rfl)<|mO (rz (k:=.u8) dA dA rfl rfl)<|mO (nk 1)<|mO (nk 1)<|mO (mZ f)<|mO (rz (k:=.u8) dA dA rfl rfl)<|nz<|Ha (e:=5) (.int .u8 (IntKind.u8.wrap ((c.2.2.1:Int).fdiv (2 ^ (min (8:Int).toNat IntKind.i64.bits))))) (.int .u8 (IntKind.u8.wrap (c.2.2.1:Int))) ([.int .u8 (IntKind.u8.wrap ((c.2.2.1:Int).fdiv (2 ^ (min (8:Int).toNat IntKind.i64.bits))))]) ([.int .u8 (IntKind.u8.wrap (c.2.2.1:Int))]) ([Value.int .u8 0]) 1 dA dA rfl rfl rfl rfl iw iw ⟨iT,iT⟩<|λR S b1 t B=>?_
   replace g:=g.new B;replace a:=a.acc B;replace t:row S R (bv (nZ 2 c.2.2.1)) 5:=by rw[<-G];exact t
   have T:=t.ul (m:=2) (sz:=1) (by rw[oh,ry]) eu;refine nz<|uf (e:=5) (sz:=1) (bytes:=1) (z:=Value.int .u8 0) dA rfl dA rfl iT rfl g rfl T (tq _) jo eu (λv=>eu)<|λb2 b3 C U b4=>?_
   replace a:=a.own g U eu;refine nV<|mP<|mV<|mQ<|nQ<|nR [_] ⟨rfl,trivial⟩<|⟨?_,a⟩
   rw[<-wK,<-wK,<-wK]at C;have e:pK lv c=[u8 c.1.length]++c.1++nZ 4 n++nZ 2 c.2.2.1:=by
    unfold pK;rw[if_pos eu,<-j,if_pos eu];simp
   rw[e,show([u8 c.1.length]++c.1++nZ 4 n++nZ 2 c.2.2.1).length=1+c.1.length+4+2 by simp[ry];omega];exact nY.mono C eu
  ·
   refine nL<|ny<|mR<|mP<|mV<|mQ<|nQ<|nR [_] ⟨rfl,trivial⟩<|⟨?_,a⟩
   rw[<-wK,<-wK]at g;have e:pK lv c=[u8 c.1.length]++c.1++nZ 4 n:=by
    unfold pK;rw[if_neg eu,<-j,if_neg eu];simp
   rw[e,show([u8 c.1.length]++c.1++nZ 4 n).length=1+c.1.length+4 by simp[ry];omega];exact nY.mono g eu
def oz(x:MN)(p:Option Addr)(cp:Nat):List Value:=[.int .i64 (x.n:Int), .int .i64 (x.lv:Int), .slice p x.cs.length cp]
def qj(w:World)(bl:List Nat)(xs:List Value)(x:MN):Prop:=∃ p cp vs,xs=oz x p cp/\nC w p x.cs.length 4 vs/\qQ w bl vs x.cs/\(∀ g o,p=some ⟨g,o,none⟩->g∈bl)/\x.cs.length<=cp
section
variable {w w':World}{bl bl':List Nat}{xs:List Value}{x:MN}
theorem qj.nu{M:List Nat}(h:qj w bl xs x)(k:Kp M w w')(hM:∀ b∈bl,b∉M):qj w' bl xs x:=by
 obtain⟨p,c,vs,f,i,j,a,l⟩:=h;exact⟨p,c,vs,f,i.nu k λg o e=>hM g (a g o e),j.nu k hM,a,l⟩
theorem qj.mono(h:qj w bl xs x)(hb:∀ b∈bl,b∈bl'):qj w bl' xs x:=by
 obtain⟨p,a,vs,c,f,i,j,k⟩:=h;exact⟨p,a,vs,c,f,i.mono hb,λg o e=>hb g (j g o e),k⟩
theorem qj.new(h:qj w bl xs x)(hb:Below w.heap.size w w'):qj w' bl xs x:=h.nu (M:=[]) (Kp.of_below hb) ig
end
def pv(lv:Nat)(cs:List (Key × V3)):View:=⟨3,0,some [u8 lv]::cs.map λc=>some (pK lv c)⟩
theorem zJ(lv:Nat)(c:Key × V3):(pK lv c).length=1+c.1.length+if lv=0 then 6 else 4:=by
 unfold pK;rw[aD,aA]
 split
 .rw[aA,ry,ry];omega
 .rw[ry];omega
theorem Xi(lv:Nat):∀ cs:List (Key × V3),pu (cs.map λc=>some (pK lv c))=(cs.map λc=>(pK lv c).length).sum
 |[]=>rfl
 |c::cs=>by rw[aZ,pu,Xi lv cs,aZ,cZ];rfl
theorem KR(lv:Nat)(cs:List (Key × V3)):qW (pv lv cs)=17+4*cs.length+(cs.map λc=>(pK lv c).length).sum:=by
 unfold qW pv;dsimp only;rw[pu,Xi,aD,aQ];show 12+4*(cs.length+1)+(1+_)=_;omega
theorem NH(x:MN):tK x.lv x.cs=decide (qW (pv x.lv x.cs)<=512):=by
 unfold tK;rw[KR]
theorem EA(lv:Nat)(cs:List (Key × V3)):wO (pv lv cs).slots=(pv lv cs).slots.length:=by
 unfold wO;rw[List.findIdx_eq_length];intro s a;unfold pv at a;rcases ak.1 a with rfl|a
 .rfl
 .obtain⟨c,_,rfl⟩:=bB.1 a
  rfl
theorem XR(lv:Nat)(cs:List (Key × V3))(c:Key × V3):xB (pv lv cs) (wO (pv lv cs).slots) (pK lv c)=pv lv (cs++[c]):=by
 rw[EA];unfold xB Bp;rw[if_pos rfl];unfold pv;dsimp only;rw[bK]
 rfl
theorem Fp{lv:Nat}{cs:List (Key × V3)}(hc:∀ c∈cs,c.1.length<=300)(hs:qW (pv lv cs)<=512):Good (pv lv cs):=by
 refine⟨(show 3<=4 by omega),(show 0<2147483648 by omega),hs,λr hr=>?_,λf=>?_⟩
 .unfold pv at hr
  rcases ak.1 hr with e|hr
  .cases e;show 1<=400;omega
  .obtain⟨c,g,e⟩:=bB.1 hr
   cases e;rw[zJ];have:=hc c g
   split<;>omega
 .have a:=List.mem_of_getLast? f
  unfold pv at a;rcases ak.1 a with e|a
  .cases e
  .obtain⟨c,_,e⟩:=bB.1 a
   cases e
theorem Bv{lv:Nat}{cs:List (Key × V3)}{c:Key × V3}(hc:c.1.length<=300):yI (pv lv cs) (pK lv c)=if 512<qW (pv lv (cs++[c]))then 8 else 0:=by
 have a:=zJ lv c;have e:¬400<(pK lv c).length:=by rw[a];split<;>omega
 unfold yI Dv;rw[if_neg e,XR]
theorem zsv(lv:Nat)(a b:List (Key × V3)):qW (pv lv a)<=qW (pv lv (a++b)):=by
 rw[KR,KR,aA,bK,fM];omega
theorem EJ{lv:Nat}{cs:List (Key × V3)}{c:Key × V3}{v:Value}{base:Nat}(w:World)(hcs:∀ c∈cs,c.1.length<=300)(hs:qW (pv lv cs)<=512)(hc:c.1.length<=300)(hv:nY w base 5 1 v (pK lv c).length (bv (pK lv c))):
  CQ 134 [.agg (bv (oG (pv lv cs))).toArray,v] w (λu w'=>(∃ k:Nat,u= .tuple #[.agg (bv (if 512<qW (pv lv (cs++[c]))then uG else oG (pv lv (cs++[c])))).toArray, .int .i64 (k:Int), .int .i64 (if 512<qW (pv lv (cs++[c]))then 8 else 0)])/\Below w.heap.size w w'):=by
 obtain⟨p,f,rfl⟩:=hv.form;refine(NS (pv lv cs) p f (pK lv c) w (Fp hcs hs) hv.sl).to λu w' ⟨a,g⟩=>⟨?_,g⟩
 rw[Bv hc]at a;unfold BM at a;rw[Bv hc,XR]at a
 by_cases e:512<qW (pv lv (cs++[c]))
 .rw[if_pos e,if_pos e]
  rw[if_pos e,if_neg iT]at a;exact⟨_,a⟩
 .rw[if_neg e,if_neg e]
  rw[if_neg e,if_pos rfl]at a;exact⟨_,a⟩
theorem zi(p:Option Addr)(cp:Nat)(c:Key × V3):∀ u∈pI p cp c,u.oneCell'=true:=by
 intro u a;simp only[pI,ak,bu,or_false]at a;rcases a with rfl|rfl|rfl|rfl<;>rfl
theorem qQ.ld{w:World}{bl:List Nat}{vs:List Value}{cs:List (Key × V3)}{c:Key × V3}{p:Option Addr}{n i:Nat}(hc:qQ w bl vs cs)(h:nC w p n 4 vs)(hn:n=cs.length)(hi:cs[i]?=some c):∃ g o q qc,p=some ⟨g,o,none⟩/\sw w bl (pI q qc c) c/\∀ w',Below w.heap.size w w'->Ld Tryz.prog w' 90 ⟨g,o+i*4,none⟩ (.agg (pI q qc c).toArray):=by
 have l:=(aO.1 hi).1;obtain⟨g,o,rfl,m⟩:=h.some eu;obtain⟨q,qc,e,f,j,k⟩:=hc.at_ i c hi;refine⟨g,o,q,qc,rfl,⟨q,qc,rfl,f,j,k⟩,λw' a=>?_⟩;have:=CX (h.new a) (hc.new a) hi;rw[e]at this;exact this
theorem Ac{bl:List Nat}{xs:List Value}{x:MN}(w:World)(h:qj w bl xs x)(hl:x.lv<256)(hcs:∀ c∈x.cs,c.1.length<=300):
   CQ 70 [.agg xs.toArray] w (λv w'=>v= .tuple #[.agg (bv (if tK x.lv x.cs=true then oG (rH x)else uG)).toArray, .bool (tK x.lv x.cs)]/\Below w.heap.size w w'):=by
 obtain⟨p,E,vs,rfl,d1,e9,_,_⟩:=h;have a:=Below.refl w.heap.size w;have i7:maxLen=9223372036854775807:=by decide
 have i8:=d1.max;have f0:=zss x.lv;have f1:=MP;obtain⟨R,a4⟩:=aa (oG ⟨3,0,[]⟩);obtain⟨pg,F⟩:∃ pg:List (Key × V3)->List UInt8,∀ cs,oG (pv x.lv cs)=pg cs:=⟨_,λ_=>rfl⟩;have f2:∀ w',CQ 133 [.int .i64 3] w' (λv w2=>v= .tuple #[.agg (bv R).toArray, .int .i64 0]/\Below w'.heap.size w' w2):=λw'=>by
   have:=Qb 3 w';rw[if_pos iT]at this;rw[<-a4];exact this
 have i9:(bv R).length=512:=by rw[<-a4];exact uO (Az iT)
 have f3:∀ w' (g:Nat),row w' g (bv [u8 x.lv]) 5->CQ 134 [.agg (bv R).toArray, .slice (some ⟨g,0,none⟩) 1 1] w' (λv w2=>v= .tuple #[.agg (bv (pg [])).toArray, .int .i64 0, .int .i64 0]/\Below w'.heap.size w' w2):=λw' g f4=>by
   have:=Dn 3 iT (some ⟨g,0,none⟩) 1 [u8 x.lv] w' (f4.ul (m:=1) (sz:=1) rfl eu) (show 1<=400 by omega);rw[<-a4,<-F];exact this
 have f5:∀ w' (cs:List (Key × V3)) (c:Key × V3) (v:Value) (base:Nat),(∀ c∈cs,c.1.length<=300)->qW (pv x.lv cs)<=512->c.1.length<=300->nY w' base 5 1 v (pK x.lv c).length (bv (pK x.lv c))->
     CQ 134 [.agg (bv (pg cs)).toArray,v] w' (λu w2=>(∃ k:Nat,u= .tuple #[.agg (bv (if 512<qW (pv x.lv (cs++[c]))then uG else pg (cs++[c]))).toArray, .int .i64 (k:Int), .int .i64 (if 512<qW (pv x.lv (cs++[c]))then 8 else 0)])/\Below w'.heap.size w' w2):=λw' cs c v base a5 f6 f7 a6=>by
   have:=EJ w' a5 f6 f7 a6;rw[F,F]at this;exact this
 have d2:qW (pv x.lv [])<=512:=by rw[KR];show 17+4*0+0<=512;omega
 have f8:=NH x;have a7:∀ k,qW (pv x.lv (x.cs.take k))<=512->(bv (pg (x.cs.take k))).length=512:=λk f9=>by rw[<-F];exact uO (Fp (λc a8=>hcs c (fA a8)) f9)
 have g0:rH x=pv x.lv x.cs:=rfl;rw[g0,F,f8];have g1:=a7 0 d2;rw[dw]at g1;refine nP (fn:=Tryz.f70) (rs:=[.cell 2 121, .tmp 3]) (n:=48) Tryz.func70 rfl rfl Tryz.ntmps70 dA rfl<|mR<|nz<|oV (oz x p E) rfl<|λC w1 j0 l g2=>?_
 replace a:=a.acc g2;refine nz<|nU (List.replicate 512 (Value.int .u8 0)) dA<|λB w2 g3 j d3=>?_
 have d4:=ag a.size g3;replace l:=l.new d3;replace a:=a.acc d3;rw[AP]at j;refine nV<|nD (f2 w2) ?_
 rintro _ j1 ⟨rfl,a9⟩;replace l:=l.new a9;replace j:=j.new a9;replace a:=a.acc a9;refine mP<|mO (nJ rfl rfl)<|mO (nJ rfl rfl)<|nz<|nU (List.replicate 512 (Value.int .u8 0)) dA<|λz j2 b0 o b1=>?_
 have b2:=ag a.size b0;have b3:C<z:=ae l.lt b0;have b4:B<z:=ae j.lt b0;replace l:=l.new b1;replace j:=j.new b1;replace a:=a.acc b1;rw[AP]at o;refine nH<|nT 512 (bv R) o<|λj3 o b5=>?_
 replace l:=l.only b5 (ai b3);replace j:=j.only b5 (ai b4);replace a:=b5.below a b2;refine nV<|mO (oI 512 o)<|mO (nk 1)<|mO (mZ l)<|mO (rz (k:=.u8) dA dA rfl rfl)<|nz<|uE (e:=5) (.int .u8 (IntKind.u8.wrap (x.lv:Int))) ([.int .u8 (IntKind.u8.wrap (x.lv:Int))]) ([Value.int .u8 0]) 1 dA dA rfl rfl rfl ⟨iT,iT⟩<|λg4 g5 j4 d5 S=>?_
 replace l:=l.new S;replace j:=j.new S;replace o:=o.new S;replace a:=a.acc S;rw[show[Value.int .u8 (IntKind.u8.wrap (x.lv:Int))]=bv [u8 x.lv] by rw[f0];rfl]at d5;refine nD (f3 g5 g4 d5) ?_;rintro _ j5 ⟨rfl,T⟩;replace l:=l.new T;replace j:=j.new T;replace o:=o.new T;replace a:=a.acc T;refine mP<|mO (nJ rfl rfl)<|mO (nJ rfl rfl)<|mO (nJ rfl rfl)<|nH<|nT 512 (bv (pg [])) o<|λj6 o b6=>?_
 replace l:=l.only b6 (ai b3);replace j:=j.only b6 (ai b4);replace a:=b6.below a b2;refine mQ<|ng<|mR<|mO (nk 2)<|mO (mZ l)<|mO (oQ (e:=90) (sz:=4) dA rfl rfl)<|mP<|mQ<|oU ?_
 refine qZ (α:=Nat) 0 (λk=>[(28, .int .i64 (k:Nat)),(27, .int .i64 (x.cs.length:Nat)),(26, .slice p x.cs.length E),(1, .pointer (some ⟨C,0,none⟩)),(2, .pointer (some ⟨B,0,none⟩)),(4, .pointer (some ⟨z,0,none⟩))])
   (λk w'=>k<=x.cs.length/\qW (pv x.lv (x.cs.take k))<=512/\row w' C (oz x p E) 87/\row w' B (bv uG) 121/\row w' z (bv (pg (x.cs.take k))) 121/\Below w.heap.size w w') (λk=>x.cs.length - k)
   ⟨rfl,rfl,rfl,rfl,rfl,rfl,rfl⟩ ⟨aC _,d2,l,j,o,a⟩ ?_
 have j7:B<z:=by omega
 clear l j o a;rintro i f j8 ⟨j9,U,l,j,o,a⟩;have g6:=a7 i U;refine mR<|mO (pE rfl rfl)<|mQ<|ng<|oP rfl (λg7=>?_)<|λg7=>?_
 ·
  refine lF ?_;have b7:∃ c,x.cs[i]?=some c:=⟨_,aI eu⟩;obtain⟨c,b8⟩:=b7;have b7:=e9.ld d1 rfl b8;obtain⟨d6,d7,b9,c4,rfl,d8,g8⟩:=b7;have k0:=zi b9 c4 c;have k7:(pI b9 c4 c).length=4:=rfl;have g9:x.cs.take i++[c]=x.cs.take (i+1):=by rw[bf,b8];rfl
  have c5:c.1.length<=300:=hcs c (aN b8);have h0:∀ c∈x.cs.take i,c.1.length<=300:=λc a8=>hcs c (fA a8)
  obtain⟨Z,V⟩:=aa ((if 512<qW (pv x.lv (x.cs.take (i+1)))then uG else pg (x.cs.take (i+1))));have k8:(bv Z).length=512:=by rw[<-V];split;exact f1;exact a7 _ eu
  have X:=λw' v base a6=>f5 w' (x.cs.take i) c v base h0 U c5 a6
  simp only[g9,V]at X;refine nM<|mO (rE (e:=90) (sz:=4) dA rfl rfl (i) eu eu)<|mO (ou rfl (g8 _ a))<|nz<|nU ([Value.slice none 0 0,Value.int .i64 0,Value.int .i64 0,Value.int .i64 0]) dA<|λc6 k9 Y G a0=>?_
  have h1:=ag a.size Y;have h2:C<c6:=ae l.lt Y;have h3:B<c6:=ae j.lt Y;have h4:z<c6:=ae o.lt Y;replace l:=l.new a0;replace j:=j.new a0;replace o:=o.new a0;replace a:=a.acc a0;refine nH<|nT 4 (pI b9 c4 c) G<|λl0 G a1=>?_
  replace l:=l.only a1 (ai h2);replace j:=j.only a1 (ai h3);replace o:=o.only a1 (ai h4);replace a:=a1.below a h1;refine mQ<|xO (λr:Nat=>[(8, .pointer (some ⟨r,0,none⟩)),(10, .int .i64 (if 512<qW (pv x.lv (x.cs.take (i+1)))then 8 else 0)),(28, .int .i64 (i:Nat)),(27, .int .i64 (x.cs.length:Nat)),(26, .slice (some ⟨d6,d7,none⟩) x.cs.length E),(1, .pointer (some ⟨C,0,none⟩)),(2, .pointer (some ⟨B,0,none⟩)),(4, .pointer (some ⟨z,0,none⟩))]) (λr w'=>row w' r (bv Z) 121/\row w' C (oz x (some ⟨d6,d7,none⟩) E) 87/\row w' B (bv uG) 121/\row w' z (bv (pg (x.cs.take i))) 121/\Below w.heap.size w w'/\z<r) ?_ ?_
  ·
   refine qz [] dA ?_;intro h5 H c7;replace l:=l.new H;replace j:=j.new H;replace o:=o.new H;replace G:=G.new H;replace a:=a.acc H;have h6:=l;have h7:=o;have h8:=G;refine nI 0 (λw' I=>oI 512 (h7.kq I))<|nI 1 (λw' I=>oI 4 (h8.kq I))<|mU 2 (nk 1)<|nI 3 (λw' I=>mZ (h6.kq I))<|yP 4 10 dA ?_ ?_
   ·
    refine qf rfl rfl (nX dA rfl) (zy h5 (d8.new a) c5) ?_;rintro _ c8 ⟨D,A⟩;have a2:=c7.add0 A;refine⟨a2,?_⟩;replace l:=l.new A;replace j:=j.new A;replace o:=o.new A;replace a:=a.acc A;refine yP 5 10 dA ?_ ?_
    ·
     refine qf rfl rfl (nX dA rfl) (X c8 _ _ D) ?_;rintro _ d9 ⟨⟨e0,rfl⟩,s⟩;have c9:=a2.add0 s;refine⟨c9,?_⟩;replace l:=l.new s;replace j:=j.new s;replace o:=o.new s;replace a:=a.acc s;refine mU 6 (nK)<|mU 7 (nJ rfl rfl)<|mU 8 (nJ rfl rfl)<|mU 9 (nJ rfl rfl)<|nS 10 dA ?_
     have e1:=c9.size;have e2:=o.lt;refine qJ rfl rfl<|nU (List.replicate 512 (Value.int .u8 0)) dA<|λr a3 y q t=>?_
     have e3:=c9.add0 t;refine⟨e3,?_⟩;have J:=ag a.size y;have K:C<r:=ae l.lt y;have L:B<r:=ae j.lt y;have M:z<r:=ae o.lt y;replace l:=l.new t;replace j:=j.new t;replace o:=o.new t;replace a:=a.acc t;rw[AP]at q;refine nS 11 dA<|qR rfl rfl<|nT 512 (bv Z) q<|λl1 q N=>?_
     have h9:=e3.aq N;refine⟨h9,?_⟩;replace l:=l.only N (ai K);replace j:=j.only N (ai L);replace o:=o.only N (ai M);replace a:=N.below a J;refine mU 12 (rA)<|mU 13 (rA)<|oL dA<|oO ⟨r,⟨rfl,rfl,rfl,rfl,rfl,rfl,rfl,rfl,rfl⟩,q,l,j,o,a,eu⟩
    ·
     have e1:=a2.size;have e2:=o.lt;refine qJ rfl rfl<|nU (List.replicate 512 (Value.int .u8 0)) dA<|λr a3 y q t=>?_
     have e4:=a2.add0 t;refine⟨e4,?_⟩;have J:=ag a.size y;have K:C<r:=ae l.lt y;have L:B<r:=ae j.lt y;have M:z<r:=ae o.lt y;replace l:=l.new t;replace j:=j.new t;replace o:=o.new t;replace D:=D.new t;replace a:=a.acc t;rw[AP]at q;refine nS 5 dA<|qf rfl rfl (nX dA rfl) (X a3 _ _ D) ?_
     rintro _ d9 ⟨⟨e0,rfl⟩,s⟩;have e5:=e4.add0 s;refine⟨e5,?_⟩;replace l:=l.new s;replace j:=j.new s;replace o:=o.new s;replace q:=q.new s;replace a:=a.acc s;refine mU 6 (nK)<|mU 7 (nJ rfl rfl)<|mU 8 (nJ rfl rfl)<|mU 9 (nJ rfl rfl)<|nS 11 dA<|qR rfl rfl<|nT 512 (bv Z) q<|λl2 q O=>?_
     have i0:=e5.aq O;refine⟨i0,?_⟩;replace l:=l.only O (ai K);replace j:=j.only O (ai L);replace o:=o.only O (ai M);replace a:=O.below a J;refine mU 12 (rA)<|mU 13 (rA)<|oL dA<|oO ⟨r,⟨rfl,rfl,rfl,rfl,rfl,rfl,rfl,rfl,rfl⟩,q,l,j,o,a,eu⟩
   ·
    have e1:=c7.size;have e2:=o.lt;refine qJ rfl rfl<|nU (List.replicate 512 (Value.int .u8 0)) dA<|λr a3 y q t=>?_
    have e6:=c7.add0 t;refine⟨e6,?_⟩;have J:=ag a.size y;have K:C<r:=ae l.lt y;have L:B<r:=ae j.lt y;have M:z<r:=ae o.lt y;replace l:=l.new t;replace j:=j.new t;replace o:=o.new t;replace a:=a.acc t;rw[AP]at q;refine nS 4 dA<|qf rfl rfl (nX dA rfl) (zy a3 (d8.new a) c5) ?_
    rintro _ c8 ⟨D,A⟩;have e7:=e6.add0 A;refine⟨e7,?_⟩;replace l:=l.new A;replace j:=j.new A;replace o:=o.new A;replace q:=q.new A;replace a:=a.acc A;refine nS 5 dA<|qf rfl rfl (nX dA rfl) (X c8 _ _ D) ?_;rintro _ d9 ⟨⟨e0,rfl⟩,s⟩;have e8:=e7.add0 s;refine⟨e8,?_⟩;replace l:=l.new s;replace j:=j.new s;replace o:=o.new s;replace q:=q.new s;replace a:=a.acc s;refine mU 6 (nK)<|mU 7 (nJ rfl rfl)<|mU 8 (nJ rfl rfl)<|mU 9 (nJ rfl rfl)<|nS 11 dA<|qR rfl rfl<|nT 512 (bv Z) q<|λl3 q P=>?_
    have i1:=e8.aq P;refine⟨i1,?_⟩;replace l:=l.only P (ai K);replace j:=j.only P (ai L);replace o:=o.only P (ai M);replace a:=P.below a J;refine mU 12 (rA)<|mU 13 (rA)<|oL dA<|oO ⟨r,⟨rfl,rfl,rfl,rfl,rfl,rfl,rfl,rfl,rfl⟩,q,l,j,o,a,eu⟩
  ·
   clear l j o a;rintro r l4 l5 ⟨q,l,j,o,a,l6⟩;refine ng<|mR<|mP<|mO (oD rfl rfl)<|mQ<|oP rfl (λQ=>?_)<|λQ=>?_
   ·
    refine mR<|mO (Ae (bv uG) kT)<|nH<|nT 512 (bv uG) j<|λl7 j i2=>?_
    replace a:=i2.below a d4;refine mV<|mQ<|nQ<|qb<|tu<|qb<|Bc<|tu<|qb<|nR [_,_] ⟨⟨_,rfl,Ld.qp (k:=512) j dA dA gp⟩,rfl,trivial⟩ ?_
    have i3:¬qW (pv x.lv x.cs)<=512:=λl8=>by
      have a5:=zsv x.lv (x.cs.take (i+1)) (x.cs.drop (i+1));rw[bM]at a5;rw[if_neg eu]at Q;exact absurd rfl Q
    rw[decide_eq_false i3];exact⟨rfl,a⟩
   ·
    have i4:qW (pv x.lv (x.cs.take (i+1)))<=512:=Nat.le_of_not_lt λi5=>by
      rw[if_pos i5]at Q;exact Q iT
    rw[if_neg eu]at V;subst V;refine nL<|ny<|nM<|mO (oI 512 q)<|nH<|Yz 512 (bv (pg (x.cs.take (i+1)))) rfl rfl o dA (by first |assumption|(simp;done)|(simp[oh, *];done)) (by first |assumption|(simp;done)|(simp[oh, *];done)|rfl) (by first |exact tq _|assumption|(simp[Value.oneCell'];done))<|λl9 o d0=>?_
    replace l:=l.only d0 (ai b3);replace j:=j.only d0 (ai b4);replace a:=d0.below a b2;refine oH<|pW<|ny<|nM<|mO (om rfl rfl (Coup.nN eu))<|mP<|oH<|oO ⟨i+1,eu,⟨rfl,rfl,rfl,rfl,rfl,rfl,rfl⟩,eu,i4,l,j,o,a⟩
 ·
  obtain rfl:i=x.cs.length:=by omega
  rw[dQ]at U o g6;rw[decide_eq_true U,if_pos rfl];refine qP<|qL<|rf<|qX<|ny<|mR<|mO (oI 512 o)<|nH<|nT 512 (bv (pg x.cs)) j<|λm0 j i6=>?_
  replace a:=i6.below a d4;refine mV<|mQ<|nQ<|nR [_,_] ⟨⟨_,rfl,Ld.qp (k:=512) j dA dA gp⟩,rfl,trivial⟩ ?_
  exact⟨rfl,a⟩
end Go.Proofs.YtpaniebomegnbaaGreat
